/- The contracts of drop.Check. -/
import Derived.Test.YtnndklhcckahbaaGreatDoorDropMake
namespace Go.Proofs.YtnndklhcckahbaaGreatDoor
open Go.ChangeShapes Go.WideShapes Go.ChangeAt Go.RowKit

theorem dchk_ok (k size seed : Int) (d : ByteArray) (w : World) (h1 : 1 ≤ k) (h2 : k ≤ 16) (h3 : 1 ≤ size) (h4 : size ≤ 8) (h5 : 1 ≤ seed) (h6 : seed ≤ 10000) (h7 : (d.size : Int) = size) :
    Calls Tryz.prog 16 #[.int .i64 k, .int .i64 size, dropV seed d] w fun e w' => e = .returned .nilIface ∧ Lat w w' := by
  have d7 : ((d.size : Int) != size) = false := by rw [bne_eq_false_iff_eq]; exact h7
  have H7 := Lib.hid h7
  clear h7
  go_enter Tryz.func16, Tryz.ntmps16
  go_wp2_with (first | (go_at_call 36; refine (dblocks_yes k _ h1 h2).mono ?_; rintro e w1 ⟨rfl, rfl⟩) | (go_at_call 23; refine (size_yes size _ h3 h4).mono ?_; rintro e w1 ⟨rfl, rfl⟩) | (go_at_call 26; refine (seed_yes seed _ h5 h6).mono ?_; rintro e w1 ⟨rfl, rfl⟩))
  go_ret
  exact ⟨rfl, Lat.alloc _ _⟩
theorem dchk_shape (k size seed : Int) (d : ByteArray) (w : World) (h1 : 1 ≤ k) (h2 : k ≤ 16) (h3 : 1 ≤ size) (h4 : size ≤ 8) (h5 : 1 ≤ seed) (h6 : seed ≤ 10000) (h7 : (d.size : Int) ≠ size) :
    Calls Tryz.prog 16 #[.int .i64 k, .int .i64 size, dropV seed d] w fun e w' => e = .returned (eno 3) ∧ Lat w w' := by
  have d7 : ((d.size : Int) != size) = true := by rw [bne_iff_ne]; exact h7
  have H7 := Lib.hid h7
  clear h7
  go_enter Tryz.func16, Tryz.ntmps16
  go_wp2_with (first | (go_at_call 36; refine (dblocks_yes k _ h1 h2).mono ?_; rintro e w1 ⟨rfl, rfl⟩) | (go_at_call 23; refine (size_yes size _ h3 h4).mono ?_; rintro e w1 ⟨rfl, rfl⟩) | (go_at_call 26; refine (seed_yes seed _ h5 h6).mono ?_; rintro e w1 ⟨rfl, rfl⟩))
  go_ret
  exact ⟨rfl, Lat.alloc _ _⟩
theorem dchk_range (k size seed : Int) (d : ByteArray) (w : World) (h : k < 1 ∨ 16 < k ∨ size < 1 ∨ 8 < size ∨ seed < 1 ∨ 10000 < seed) :
    Calls Tryz.prog 16 #[.int .i64 k, .int .i64 size, dropV seed d] w fun e w' => e = .returned (eno 1) ∧ Lat w w' := by
  by_cases hk : k < 1 ∨ 16 < k
  · have HK := Lib.hid hk
    clear hk h
    go_enter Tryz.func16, Tryz.ntmps16
    go_wp2_with (go_at_call 36; refine (dblocks_no k _ HK.out).mono ?_; rintro e w1 ⟨rfl, rfl⟩)
    go_ret
    exact ⟨rfl, Lat.alloc _ _⟩
  have k1 : 1 ≤ k := by omega
  have k2 : k ≤ 16 := by omega
  by_cases hs : size < 1 ∨ 8 < size
  · have HS := Lib.hid hs
    clear hs hk h
    go_enter Tryz.func16, Tryz.ntmps16
    go_wp2_with (first | (go_at_call 36; refine (dblocks_yes k _ k1 k2).mono ?_; rintro e w1 ⟨rfl, rfl⟩) | (go_at_call 23; refine (size_no size _ HS.out).mono ?_; rintro e w1 ⟨rfl, rfl⟩))
    go_ret
    exact ⟨rfl, Lat.alloc _ _⟩
  have s1 : 1 ≤ size := by omega
  have s2 : size ≤ 8 := by omega
  have hz : seed < 1 ∨ 10000 < seed := by omega
  have HZ := Lib.hid hz
  clear hs hk h hz
  go_enter Tryz.func16, Tryz.ntmps16
  go_wp2_with (first | (go_at_call 36; refine (dblocks_yes k _ k1 k2).mono ?_; rintro e w1 ⟨rfl, rfl⟩) | (go_at_call 23; refine (size_yes size _ s1 s2).mono ?_; rintro e w1 ⟨rfl, rfl⟩) | (go_at_call 26; refine (seed_no seed _ HZ.out).mono ?_; rintro e w1 ⟨rfl, rfl⟩))
  go_ret
  exact ⟨rfl, Lat.alloc _ _⟩

/-- The set rises. -/
theorem setZ_rises (k seed : Nat) : (setZ k seed).Pairwise (· < ·) := by
  unfold setZ
  split
  · exact List.pairwise_singleton _ _
  · have hn : (drawn k seed).Nodup := dgo_nodup k _ _ _ [] List.nodup_nil
    have hn2 : ((drawn k seed).map Int.ofNat).Nodup := List.Pairwise.map _ (fun a b h e => h (Int.ofNat.inj e)) hn
    have hn3 : (((drawn k seed).map Int.ofNat).mergeSort (fun x y => decide (x ≤ y))).Nodup := (List.mergeSort_perm _ _).nodup_iff.2 hn2
    have hs := List.pairwise_mergeSort (le := fun x y : Int => decide (x ≤ y)) (fun a b c h1 h2 => by simp only [decide_eq_true_eq] at *; omega) (fun a b => by simp only [Bool.or_eq_true, decide_eq_true_eq]; omega) ((drawn k seed).map Int.ofNat)
    exact (hs.and hn3).imp (fun {a b} h => by have := h.1; have := h.2; simp only [decide_eq_true_eq] at *; omega)
theorem setZ_next (k seed i : Nat) (h : i + 1 < (setZ k seed).length) : (setZ k seed).getD i 0 < (setZ k seed).getD (i + 1) 0 := by
  have := List.pairwise_iff_getElem.1 (setZ_rises k seed) i (i + 1) (by omega) h (by omega)
  rw [List.getD_eq_getElem?_getD, List.getD_eq_getElem?_getD, List.getElem?_eq_getElem (by omega), List.getElem?_eq_getElem h]
  exact this
/-- Each over its fellow. -/
def overAll (aa bb : List ByteArray) (k : Nat) : List ByteArray := (List.range k).map fun j => S (xorL (bl aa j) (bl bb j))
theorem overAll_length (aa bb : List ByteArray) (k : Nat) : (overAll aa bb k).length = k := by simp [overAll]
theorem overAll_succ (aa bb : List ByteArray) (k : Nat) : overAll aa bb (k + 1) = overAll aa bb k ++ [S (xorL (bl aa k) (bl bb k))] := by unfold overAll; rw [List.range_succ, List.map_append]; rfl
theorem overAll_getD (aa bb : List ByteArray) (k j : Nat) (h : j < k) : (overAll aa bb k).getD j ByteArray.empty = S (xorL (bl aa j) (bl bb j)) := by
  rw [List.getD_eq_getElem?_getD, List.getElem?_eq_getElem (by rw [overAll_length]; exact h)]
  simp [overAll]
theorem overAll_bl (aa bb : List ByteArray) (k j : Nat) (h : j < k) : bl (overAll aa bb k) j = xorL (bl aa j) (bl bb j) := by
  unfold bl at *; rw [overAll_getD aa bb k j h]; rfl
theorem overAll_ok (aa bb : List ByteArray) (ha : ChkOk aa) (hb : ChkOk bb) (hl : aa.length = bb.length) (h0 : szAt aa 0 = szAt bb 0) : ChkOk (overAll aa bb aa.length) ∧ szAt (overAll aa bb aa.length) 0 = szAt aa 0 := by
  have hs : ∀ j, j < aa.length → szAt (overAll aa bb aa.length) j = szAt aa 0 := by
    intro j hj
    have e1 := ha.all j hj
    have e2 := hb.all j (by omega)
    rw [← bl_length, overAll_bl _ _ _ _ hj, xorL_length _ _ (by rw [bl_length, bl_length]; omega), bl_length, e1]
  have hp := ha.pos
  have h00 := hs 0 (by omega)
  refine ⟨⟨by rw [overAll_length]; exact hp, by rw [overAll_length]; exact ha.most, by rw [h00]; exact ha.one, by rw [h00]; exact ha.eight, fun j hj => ?_⟩, h00⟩
  rw [overAll_length] at hj
  rw [h00]; exact hs j hj
theorem xorL_swap (A B a b : List UInt8) : xorL (xorL A B) (xorL a b) = xorL (xorL A a) (xorL B b) := by
  rw [xorL_assoc, ← xorL_assoc B a b, xorL_comm B a, xorL_assoc a B b, ← xorL_assoc]
theorem sumTo_over (aa bb : List ByteArray) (k m : Nat) (zs : List Int) (hz : ∀ z ∈ zs, 0 ≤ z ∧ z < k) : ∀ j, j ≤ zs.length → sumTo (overAll aa bb k) m zs j = xorL (sumTo aa m zs j) (sumTo bb m zs j)
  | 0, _ => by
    show noughts m = xorL (noughts m) (noughts m)
    rw [xorL_self]; simp [noughts]
  | j + 1, hj => by
    have ih := sumTo_over aa bb k m zs hz j (by omega)
    have hm := hz _ (getD_mem zs j (by omega))
    show xorL (sumTo (overAll aa bb k) m zs j) (bl (overAll aa bb k) (zs.getD j 0).toNat) = xorL (xorL (sumTo aa m zs j) (bl aa (zs.getD j 0).toNat)) (xorL (sumTo bb m zs j) (bl bb (zs.getD j 0).toNat))
    rw [ih, overAll_bl _ _ _ _ (by omega), xorL_swap]
end Go.Proofs.YtnndklhcckahbaaGreatDoor
