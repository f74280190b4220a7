/- Plain laws of single blocks' drops, and of any drop that is made. No program in sight. -/
import Derived.Test.YtnndklhcckahbaaGreatDoorDropAny
namespace Go.Proofs.YtnndklhcckahbaaGreatDoor

theorem xorL_noughts_l (a : List UInt8) (m : Nat) (h : a.length = m) : xorL (noughts m) a = a := by rw [xorL_comm, ← h, xorL_noughts]
theorem setZ_unit {k i : Nat} (h : i < k) : setZ k (i + 1) = [(i : Int)] := by unfold setZ; rw [if_pos (by omega)]; rfl
theorem bl_lens {ss : List ByteArray} (h : ChkOk ss) : ∀ j, j < ss.length → (bl ss j).length = szAt ss 0 := fun j hj => by rw [bl_length]; exact h.all j hj
/-- what Make makes of seed i + 1 is block i -/
theorem made_unit {ss : List ByteArray} (h : chk ss = 0) {i : Nat} (hi : i < ss.length) : dmkE ss ((i : Int) + 1) = 0 ∧ dmkS ss ((i : Int) + 1) = (i : Int) + 1 ∧ dmkD ss ((i : Int) + 1) = S (bl ss i) := by
  have ho := chk_ok h
  have hm := ho.most
  have e0 : dmkE ss ((i : Int) + 1) = 0 := by unfold dmkE; rw [if_neg (by omega), if_neg (by omega)]
  refine ⟨e0, by unfold dmkS; rw [if_pos e0], ?_⟩
  unfold dmkD
  rw [if_pos e0, show ((i : Int) + 1).toNat = i + 1 by omega, setZ_unit hi]
  show S (xorL (noughts (szAt ss 0)) (bl ss ([(i : Int)].getD 0 0).toNat)) = S (bl ss i)
  have e1 : ([(i : Int)].getD 0 0).toNat = i := by simp
  rw [e1, xorL_noughts_l _ _ (bl_lens ho i hi)]
theorem drpE_ok {k m : Nat} {s : Int} {t : ByteArray} (h1 : 1 ≤ k) (h2 : k ≤ 16) (h3 : 1 ≤ m) (h4 : m ≤ 8) (h5 : 1 ≤ s) (h6 : s ≤ 10000) (h7 : t.size = m) : drpE k m s t = 0 := by
  unfold drpE; rw [if_neg (by omega), if_neg (by omega)]
/-- what Make makes of a seed: all its blocks over one another -/
theorem made_sum {ss : List ByteArray} {seed : Int} (h : dmkE ss seed = 0) : chk ss = 0 ∧ 1 ≤ seed ∧ seed ≤ 10000 ∧ dmkS ss seed = seed ∧ dmkD ss seed = S (sumTo ss (szAt ss 0) (setZ ss.length seed.toNat) (setZ ss.length seed.toNat).length) ∧ (dmkD ss seed).size = szAt ss 0 := by
  obtain ⟨hc, h1, h2⟩ := dmkE_zero h
  have ho := chk_ok hc
  have hp := ho.pos
  have e : dmkD ss seed = S (sumTo ss (szAt ss 0) (setZ ss.length seed.toNat) (setZ ss.length seed.toNat).length) := by unfold dmkD; rw [if_pos h]
  refine ⟨hc, h1, h2, by unfold dmkS; rw [if_pos h], e, ?_⟩
  rw [e]
  show (sumTo _ _ _ _).length = _
  refine sumTo_length ss _ _ _ fun j hj => ho.all _ ?_
  have := setZ_lt ss.length seed.toNat (by omega) (by omega) _ (getD_mem _ j hj)
  omega
end Go.Proofs.YtnndklhcckahbaaGreatDoor
