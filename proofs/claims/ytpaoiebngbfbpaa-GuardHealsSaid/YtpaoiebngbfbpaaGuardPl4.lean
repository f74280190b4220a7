/- Plain laws: how the document heals a group, and that it is how guard.Heal does. -/
import Derived.Test.YtpaoiebngbfbpaaGuardHErr
namespace Go.Proofs.Ytpaoiebngbfbpaa
open Go.ChangeShapes Go.WideShapes Go.ChangeAt Go.RowKit

/-- the first j of a group that do not lack, over one another -/
def sN (m : Nat) (gs : List ByteArray) (lk : List Bool) : Nat → List UInt8
  | 0 => noughts m
  | j + 1 => if lk.getD j false = true then sN m gs lk j else xorL (sN m gs lk j) (bl gs j)
theorem cntT_zero (lk : List Bool) : ∀ k, cntT lk k = 0 → ∀ j, j < k → lk.getD j false = false
  | 0, _, j, hj => absurd hj (Nat.not_lt_zero _)
  | k + 1, h, j, hj => by
    unfold cntT at h
    by_cases e : lk.getD k false = true
    · rw [if_pos e] at h; omega
    · rw [if_neg e] at h
      by_cases ej : j = k
      · subst ej; simpa using e
      · exact cntT_zero lk k h j (by omega)
theorem cntT_uniq (lk : List Bool) : ∀ k, cntT lk k = 1 → ∀ j, j < k → lk.getD j false = true → j = lstT lk k
  | 0, _, j, hj, _ => absurd hj (Nat.not_lt_zero _)
  | k + 1, h, j, hj, ht => by
    unfold cntT at h
    unfold lstT
    by_cases e : lk.getD k false = true
    · rw [if_pos e] at h ⊢
      by_cases ej : j = k
      · exact ej
      · have := cntT_zero lk k (by omega) j (by omega)
        rw [this] at ht; cases ht
    · rw [if_neg e] at h ⊢
      by_cases ej : j = k
      · subst ej; exact absurd ht e
      · exact cntT_uniq lk k h j (by omega) ht
theorem sN_len (m : Nat) (gs : List ByteArray) (lk : List Bool) (hs : ∀ s ∈ gs, s.size = m) : ∀ k, k ≤ gs.length → (sN m gs lk k).length = m
  | 0, _ => by show (noughts m).length = m; simp [noughts]
  | k + 1, hk => by
    have ih := sN_len m gs lk hs k (by omega)
    have hb : (bl gs k).length = m := by rw [bl_length]; exact szAt_mem hs k (by omega)
    unfold sN
    split
    · exact ih
    · rw [xorL_length _ _ (by omega)]; exact ih
theorem sN_none (m : Nat) (gs : List ByteArray) (lk : List Bool) (hs : ∀ s ∈ gs, s.size = m) (h : cntT lk gs.length = 0) : sN m gs lk gs.length = ovl m (bts gs) := by
  rw [← ovB_all m gs hs]
  have h0 := cntT_zero lk _ h
  have : ∀ k, k ≤ gs.length → sN m gs lk k = ovB m gs k := fun k => by
    induction k with
    | zero => intro _; rfl
    | succ k ih => intro hk; rw [sN, h0 k (by omega), if_neg (by simp), ih (by omega)]; rfl
  exact this _ (Nat.le_refl _)
theorem sN_one (m : Nat) (gs : List ByteArray) (lk : List Bool) (hs : ∀ s ∈ gs, s.size = m) (h : cntT lk gs.length = 1) :
    sN m gs lk gs.length = ovl m (bts (gs.set (lstT lk gs.length) (S (noughts m)))) := by
  have hu := cntT_uniq lk _ h
  have ho := cntT_one lk _ h
  obtain ⟨i, hi⟩ : ∃ i, i = lstT lk gs.length := ⟨_, rfl⟩
  rw [← hi] at hu ho ⊢
  have hs2 : ∀ s ∈ gs.set i (S (noughts m)), s.size = m := fun s hss => by
    rcases List.mem_or_eq_of_mem_set hss with h3 | h3
    · exact hs s h3
    · rw [h3]; show (noughts m).toArray.size = m; unfold noughts; simp
  have hall := ovB_all m _ hs2
  rw [List.length_set] at hall
  rw [← hall]
  have : ∀ k, k ≤ gs.length → sN m gs lk k = ovB m (gs.set i (S (noughts m))) k := fun k => by
    induction k with
    | zero => intro _; rfl
    | succ k ih =>
      intro hk
      have hb : bl (gs.set i (S (noughts m))) k = if k = i then noughts m else bl gs k := by
        unfold bl
        rw [List.getD_eq_getElem?_getD, List.getElem?_set]
        by_cases e : k = i
        · rw [if_pos e.symm, if_pos (by omega), if_pos e]; rfl
        · rw [if_neg (fun h => e h.symm), if_neg e, List.getD_eq_getElem?_getD]
      have hl := sN_len m gs lk hs k (by omega)
      rw [sN, ovB, hb, ← ih (by omega)]
      by_cases e : k = i
      · subst e
        rw [if_pos ho.2, if_pos rfl]
        have h3 := xorL_noughts (sN m gs lk k)
        rw [hl] at h3
        exact h3.symm
      · rw [if_neg (fun ht => e (hu k (by omega) ht)), if_neg e]
  exact this _ (Nat.le_refl _)

/-- where the document finds what lacks (-1: nothing) -/
def goneT (of : Nat → Nat) (lk : List Bool) (j : Nat) : Int := if cntT lk j = 0 then -1 else (of (lstT lk j) : Int)
theorem goneT_succ (of : Nat → Nat) (lk : List Bool) (j : Nat) : goneT of lk (j + 1) = if lk.getD j false = true then (of j : Int) else goneT of lk j := by
  have h1 : cntT lk (j + 1) = if lk.getD j false = true then cntT lk j + 1 else cntT lk j := rfl
  have h2 : lstT lk (j + 1) = if lk.getD j false = true then j else lstT lk j := rfl
  unfold goneT
  rw [h1, h2]
  by_cases e : lk.getD j false = true
  · rw [if_pos e, if_pos e, if_pos e, if_neg (by omega)]
  · rw [if_neg e, if_neg e, if_neg e]

/-- which of all is the j-th of group g -/
def ofN (n e g t j : Nat) : Nat := if j < t then g * e + j else n + g
theorem grp_get {α : Type} (d : α) (l : List α) (n e g t : Nat) (hn : n ≤ l.length) (hq : g * e < n) (ht : t = min e (n - g * e)) (j : Nat) (hj : j ≤ t) :
    (grpAt l n e g ++ [l.getD (n + g) d]).getD j d = l.getD (ofN n e g t j) d := by
  have hgl : (grpAt l n e g).length = t := by unfold grpAt; rw [List.length_take, List.length_drop, List.length_take]; omega
  unfold ofN
  rw [List.getD_eq_getElem?_getD, List.getElem?_append, hgl]
  by_cases h : j < t
  · rw [if_pos h, if_pos h]
    unfold grpAt
    rw [List.getElem?_take_of_lt (by omega), List.getElem?_drop, List.getElem?_take_of_lt (by omega), List.getD_eq_getElem?_getD]
  · rw [if_neg h, if_neg h, show j - t = 0 by omega]; rfl

/-- the blocks behind the first g groups -/
def outG (xs : List ByteArray) (lk : List Bool) (m n e g : Nat) : List ByteArray := hgS xs lk m n e g ++ (xs.take n).drop (g * e)
theorem hlS_len (m : Nat) (gs : List ByteArray) (lk : List Bool) : (hlS m gs lk).length = gs.length := hlS_length m gs lk
theorem grpAt_len {α : Type} (l : List α) (n e g : Nat) (hn : n ≤ l.length) : (grpAt l n e g).length = min e (n - g * e) := by
  unfold grpAt; rw [List.length_take, List.length_drop, List.length_take]; omega
theorem hgS_len (xs : List ByteArray) (lk : List Bool) (m n e : Nat) (hn : n ≤ xs.length) : ∀ g, (hgS xs lk m n e g).length = min n (g * e)
  | 0 => by simp [hgS]
  | g + 1 => by
    have ih := hgS_len xs lk m n e hn g
    have h1 : (hlG xs lk m n e g).length = min e (n - g * e) := by
      unfold hlG
      rw [List.length_take, hlS_length, grpAt_len xs n e g hn]
      unfold gsG
      rw [List.length_append, grpAt_len xs n e g hn, List.length_singleton]
      omega
    rw [hgS, List.length_append, ih, h1, Nat.succ_mul]
    omega
theorem outG_len (xs : List ByteArray) (lk : List Bool) (m n e g : Nat) (hn : n ≤ xs.length) : (outG xs lk m n e g).length = n := by
  unfold outG
  rw [List.length_append, hgS_len xs lk m n e hn g, List.length_drop, List.length_take]
  omega
theorem outG_zero (xs : List ByteArray) (lk : List Bool) (m n e : Nat) : outG xs lk m n e 0 = xs.take n := by simp [outG, hgS]
theorem outG_end (xs : List ByteArray) (lk : List Bool) (m n e g : Nat) (h : n ≤ g * e) : outG xs lk m n e g = hgS xs lk m n e g := by
  unfold outG
  rw [List.drop_of_length_le (by rw [List.length_take]; omega), List.append_nil]
theorem outG_split (xs : List ByteArray) (lk : List Bool) (m n e g : Nat) : outG xs lk m n e g = hgS xs lk m n e g ++ (grpAt xs n e g ++ (xs.take n).drop ((g + 1) * e)) := by
  unfold outG grpAt
  rw [Nat.succ_mul, ← List.drop_drop, List.take_append_drop]
theorem outG_same (xs : List ByteArray) (lk : List Bool) (m n e g : Nat) (h : hlG xs lk m n e g = grpAt xs n e g) : outG xs lk m n e (g + 1) = outG xs lk m n e g := by
  rw [outG_split xs lk m n e g, outG, hgS, h, List.append_assoc]
theorem outG_set (xs : List ByteArray) (lk : List Bool) (m n e g i : Nat) (s : ByteArray) (hn : n ≤ xs.length) (hq : g * e < n) (hi : i < (grpAt xs n e g).length) (h : hlG xs lk m n e g = (grpAt xs n e g).set i s) :
    outG xs lk m n e (g + 1) = (outG xs lk m n e g).set (g * e + i) s := by
  have hl := hgS_len xs lk m n e hn g
  rw [outG_split xs lk m n e g, outG, hgS, h, List.append_assoc, List.set_append_right _ _ (by omega), List.set_append_left _ _ (by omega)]
  congr 3
  omega
theorem hlG_none (xs : List ByteArray) (lk : List Bool) (m n e g : Nat) (h : cntT (lkG lk n e g) (gsG xs n e g).length ≠ 1) : hlG xs lk m n e g = grpAt xs n e g := by
  unfold hlG hlS
  rw [if_neg h]
  unfold gsG
  rw [List.take_append_of_le_length (Nat.le_refl _), List.take_of_length_le (Nat.le_refl _)]
theorem hlG_one (xs : List ByteArray) (lk : List Bool) (m n e g k : Nat) (hk : (gsG xs n e g).length = k) (h : cntT (lkG lk n e g) k = 1) (hs : ∀ s ∈ gsG xs n e g, s.size = m) :
    hlG xs lk m n e g = if lstT (lkG lk n e g) k < (grpAt xs n e g).length then (grpAt xs n e g).set (lstT (lkG lk n e g) k) (S (sN m (gsG xs n e g) (lkG lk n e g) k)) else grpAt xs n e g := by
  subst hk
  have h1 := sN_one m _ _ hs h
  unfold hlG hlS
  rw [if_pos h, ← h1, List.set_set]
  obtain ⟨i, hi⟩ : ∃ i, i = lstT (lkG lk n e g) (gsG xs n e g).length := ⟨_, rfl⟩
  rw [← hi]
  obtain ⟨v, hv⟩ : ∃ v, v = S (sN m (gsG xs n e g) (lkG lk n e g) (gsG xs n e g).length) := ⟨_, rfl⟩
  rw [← hv]
  unfold gsG
  by_cases h2 : i < (grpAt xs n e g).length
  · rw [if_pos h2, List.set_append_left _ _ h2, List.take_append_of_le_length (by rw [List.length_set]; exact Nat.le_refl _), List.take_of_length_le (by rw [List.length_set]; exact Nat.le_refl _)]
  · rw [if_neg h2, List.set_append_right _ _ (by omega), List.take_append_of_le_length (Nat.le_refl _), List.take_of_length_le (Nat.le_refl _)]
theorem ovl_le (m : Nat) : ∀ l : List (List UInt8), (ovl m l).length ≤ m
  | [] => by show (noughts m).length ≤ m; simp [noughts]
  | b :: l => by
    have ih := ovl_le m l
    unfold ovl xorL
    rw [List.length_zipWith]
    omega
theorem hlS_le (m : Nat) (gs : List ByteArray) (lk : List Bool) (h : ∀ s ∈ gs, s.size ≤ m) : ∀ s ∈ hlS m gs lk, s.size ≤ m := fun s hs => by
  unfold hlS at hs
  split at hs
  · rcases List.mem_or_eq_of_mem_set hs with h1 | h1
    · rcases List.mem_or_eq_of_mem_set h1 with h2 | h2
      · exact h s h2
      · rw [h2]; show (noughts m).toArray.size ≤ m; simp [noughts]
    · rw [h1]; exact ovl_le m _
  · exact h s hs
theorem hgS_le8 (xs : List ByteArray) (lk : List Bool) (m n e : Nat) (h : ∀ s ∈ xs, s.size ≤ m) : ∀ g, ∀ s ∈ hgS xs lk m n e g, s.size ≤ m
  | 0, s, hs => by cases hs
  | g + 1, s, hs => by
    rcases List.mem_append.1 hs with hs | hs
    · exact hgS_le8 xs lk m n e h g s hs
    · refine hlS_le m _ _ (fun u hu => ?_) s (List.mem_of_mem_take hs)
      rcases List.mem_append.1 hu with hu | hu
      · exact h u (List.mem_of_mem_take (List.mem_of_mem_drop (List.mem_of_mem_take hu)))
      · rw [List.mem_singleton.1 hu, List.getD_eq_getElem?_getD]
        cases hx : xs[n + g]? with
        | none => exact Nat.zero_le _
        | some y => exact h y (List.mem_of_getElem? hx)
end Go.Proofs.Ytpaoiebngbfbpaa
