/- Plain laws: what is taken away of each group, as the law takes it. -/
import Derived.Test.YtpaoiebngbfbpaaGuardPl5
import Derived.Test.YtpaoiebngbfbpaaGuardAny
namespace Go.Proofs.Ytpaoiebngbfbpaa
open Go.ChangeShapes Go.WideShapes Go.ChangeAt Go.RowKit

/-- which of group g is taken away (none: none) -/
def atF (zs : List Int) (n f g : Nat) : Option Nat :=
  if g < zs.length ∧ 0 ≤ zs.getD g 0 ∧ zs.getD g 0 ≤ (f : Int) then some (if zs.getD g 0 = (f : Int) ∨ n ≤ g * f + (zs.getD g 0).toNat then n + g else g * f + (zs.getD g 0).toNat) else none
def lkF (at_ : Nat → Option Nat) (N : Nat) : Nat → List Bool
  | 0 => List.replicate N false
  | k + 1 => match at_ k with
    | none => lkF at_ N k
    | some p => (lkF at_ N k).set p true
def zF (at_ : Nat → Option Nat) (xs : List ByteArray) (b : Bool) (s : ByteArray) : Nat → List ByteArray
  | 0 => xs
  | k + 1 => match at_ k with
    | none => zF at_ xs b s k
    | some p => if b = true then (zF at_ xs b s k).set p s else zF at_ xs b s k
theorem lkF_len (at_ : Nat → Option Nat) (N : Nat) : ∀ k, (lkF at_ N k).length = N
  | 0 => List.length_replicate
  | k + 1 => by
    unfold lkF
    cases at_ k with
    | none => exact lkF_len at_ N k
    | some p => show ((lkF at_ N k).set p true).length = N; rw [List.length_set]; exact lkF_len at_ N k
theorem zF_len (at_ : Nat → Option Nat) (xs : List ByteArray) (b : Bool) (s : ByteArray) : ∀ k, (zF at_ xs b s k).length = xs.length
  | 0 => rfl
  | k + 1 => by
    unfold zF
    cases at_ k with
    | none => exact zF_len at_ xs b s k
    | some p =>
      show (if b = true then (zF at_ xs b s k).set p s else zF at_ xs b s k).length = xs.length
      split
      · rw [List.length_set]; exact zF_len at_ xs b s k
      · exact zF_len at_ xs b s k
theorem lkF_true (at_ : Nat → Option Nat) (N p : Nat) : ∀ k, (lkF at_ N k).getD p false = true → ∃ g, g < k ∧ at_ g = some p
  | 0, h => by
    unfold lkF at h
    rw [List.getD_eq_getElem?_getD, List.getElem?_replicate] at h
    split at h <;> cases h
  | k + 1, h => by
    unfold lkF at h
    cases hk : at_ k with
    | none =>
      rw [hk] at h
      obtain ⟨g, hg, he⟩ := lkF_true at_ N p k h
      exact ⟨g, by omega, he⟩
    | some q =>
      rw [hk] at h
      by_cases e : q = p
      · subst e; exact ⟨k, by omega, hk⟩
      · have h2 : ((lkF at_ N k).set q true).getD p false = true := h
        rw [List.getD_eq_getElem?_getD, List.getElem?_set_ne e, ← List.getD_eq_getElem?_getD] at h2
        obtain ⟨g, hg, he⟩ := lkF_true at_ N p k h2
        exact ⟨g, by omega, he⟩
theorem zF_same (at_ : Nat → Option Nat) (xs : List ByteArray) (b : Bool) (s : ByteArray) (p : Nat) (hp : p < xs.length) : ∀ k, (lkF at_ xs.length k).getD p false = false → (zF at_ xs b s k).getD p ByteArray.empty = xs.getD p ByteArray.empty
  | 0, _ => rfl
  | k + 1, h => by
    unfold lkF at h
    unfold zF
    cases hk : at_ k with
    | none =>
      rw [hk] at h
      exact zF_same at_ xs b s p hp k h
    | some q =>
      rw [hk] at h
      have h2 : ((lkF at_ xs.length k).set q true).getD p false = false := h
      have hne : q ≠ p := by
        rintro rfl
        rw [List.getD_eq_getElem?_getD, List.getElem?_set, if_pos rfl, if_pos (by rw [lkF_len]; exact hp)] at h2
        cases h2
      rw [List.getD_eq_getElem?_getD, List.getElem?_set_ne hne, ← List.getD_eq_getElem?_getD] at h2
      have ih := zF_same at_ xs b s p hp k h2
      show (if b = true then (zF at_ xs b s k).set q s else zF at_ xs b s k).getD p ByteArray.empty = _
      split
      · rw [List.getD_eq_getElem?_getD, List.getElem?_set_ne hne, ← List.getD_eq_getElem?_getD]; exact ih
      · exact ih
theorem zF_sizes (at_ : Nat → Option Nat) (xs : List ByteArray) (b : Bool) (s : ByteArray) (m : Nat) (hx : ∀ x ∈ xs, x.size = m) (hb : b = true → s.size = m) : ∀ k, ∀ x ∈ zF at_ xs b s k, x.size = m
  | 0, x, h => hx x h
  | k + 1, x, h => by
    unfold zF at h
    cases hk : at_ k with
    | none => rw [hk] at h; exact zF_sizes at_ xs b s m hx hb k x h
    | some q =>
      rw [hk] at h
      have h2 : x ∈ (if b = true then (zF at_ xs b s k).set q s else zF at_ xs b s k) := h
      split at h2
      · rename_i hbt
        rcases List.mem_or_eq_of_mem_set h2 with h3 | h3
        · exact zF_sizes at_ xs b s m hx hb k x h3
        · rw [h3]; exact hb hbt
      · exact zF_sizes at_ xs b s m hx hb k x h2
theorem atF_at {zs : List Int} {n f g p : Nat} (h1 : 1 ≤ f) (hg : g < grps n f) (h : atF zs n f g = some p) : p < n + grps n f ∧ (p < n → p / f = g) ∧ (n ≤ p → p = n + g) := by
  unfold atF at h
  by_cases hc : g < zs.length ∧ 0 ≤ zs.getD g 0 ∧ zs.getD g 0 ≤ (f : Int)
  · rw [if_pos hc] at h
    injection h with h
    by_cases hd : zs.getD g 0 = (f : Int) ∨ n ≤ g * f + (zs.getD g 0).toNat
    · rw [if_pos hd] at h; omega
    · rw [if_neg hd] at h
      have hlt : (zs.getD g 0).toNat < f := by omega
      refine ⟨by omega, fun _ => ?_, fun hn => by omega⟩
      rw [← h, Nat.mul_comm, Nat.mul_add_div (by omega), Nat.div_eq_of_lt hlt, Nat.add_zero]
  · rw [if_neg hc] at h; cases h
theorem ofN_at {n f g t j : Nat} (h1 : 1 ≤ f) (hq : g * f < n) (ht : t = min f (n - g * f)) : (ofN n f g t j < n → ofN n f g t j / f = g) ∧ (n ≤ ofN n f g t j → ofN n f g t j = n + g) ∧ (j < t → ofN n f g t j = g * f + j ∧ ofN n f g t j < n) ∧ (j = t → ofN n f g t j = n + g) := by
  unfold ofN
  by_cases h : j < t
  · rw [if_pos h]
    refine ⟨fun _ => ?_, fun hn => by omega, fun _ => ⟨rfl, by omega⟩, fun h2 => by omega⟩
    rw [Nat.mul_comm, Nat.mul_add_div (by omega), Nat.div_eq_of_lt (by omega), Nat.add_zero]
  · rw [if_neg h]
    exact ⟨fun hn => by omega, fun _ => rfl, fun h2 => absurd h2 h, fun _ => rfl⟩
/-- All comes back. -/
theorem gone_all {ls : List ByteArray} {f : Nat} {zs : List Int} {b : Bool} {s : ByteArray} (hok : ChkOk ls) (h1 : 1 ≤ f) (h2 : f ≤ 16) (hfit : ls.length + grps ls.length f ≤ 16) (hb : b = true → s.size = szAt ls 0) :
    healL (zF (atF zs ls.length f) (addS ls f) b s (grps ls.length f)) (lkF (atF zs ls.length f) (ls.length + grps ls.length f) (grps ls.length f)) f = ls ∧
    healE (zF (atF zs ls.length f) (addS ls f) b s (grps ls.length f)) (lkF (atF zs ls.length f) (ls.length + grps ls.length f) (grps ls.length f)) f = 0 := by
  have hxl := addS_length ls f
  suffices hh : healE (zF (atF zs ls.length f) (addS ls f) b s (grps ls.length f)) (lkF (atF zs ls.length f) (ls.length + grps ls.length f) (grps ls.length f)) f = 0 ∧ healS (zF (atF zs ls.length f) (addS ls f) b s (grps ls.length f)) (lkF (atF zs ls.length f) (ls.length + grps ls.length f) (grps ls.length f)) f = ls by
    unfold healL
    rw [if_pos hh.1]; exact ⟨hh.2, hh.1⟩
  refine heal_all (ls := ls) (f := f) hok h1 h2 hfit (by rw [zF_len, hxl]) (zF_sizes _ _ _ _ _ (addS_sizes hok f) hb _) (by rw [lkF_len, zF_len, hxl]) (fun g hg => ?_) (fun g hg j hj hl => ?_)
  · have hq := (grps_lt ls.length f g h1).1 hg
    obtain ⟨t, ht⟩ : ∃ t, t = min f (ls.length - g * f) := ⟨_, rfl⟩
    have hgsl : (gsG (zF (atF zs ls.length f) (addS ls f) b s (grps ls.length f)) ls.length f g).length = t + 1 := by
      unfold gsG
      rw [List.length_append, grpAt_len _ _ _ _ (by rw [zF_len, hxl]; omega), ← ht]; rfl
    rw [hgsl]
    have hk : ∀ j, j ≤ t → (lkG (lkF (atF zs ls.length f) (ls.length + grps ls.length f) (grps ls.length f)) ls.length f g).getD j false = (lkF (atF zs ls.length f) (ls.length + grps ls.length f) (grps ls.length f)).getD (ofN ls.length f g t j) false :=
      fun j hj => grp_get false _ ls.length f g t (by rw [lkF_len]; omega) hq ht j hj
    have hat : ∀ j, j ≤ t → (lkF (atF zs ls.length f) (ls.length + grps ls.length f) (grps ls.length f)).getD (ofN ls.length f g t j) false = true → atF zs ls.length f g = some (ofN ls.length f g t j) := fun j hj hb => by
      obtain ⟨g1, hg1, he⟩ := lkF_true _ _ _ _ hb
      have ha := atF_at h1 hg1 he
      have ho := ofN_at (n := ls.length) (j := j) h1 hq ht
      have : g1 = g := by
        rcases Nat.lt_or_ge (ofN ls.length f g t j) ls.length with hlt | hge
        · rw [← ha.2.1 hlt, ho.1 hlt]
        · have := ha.2.2 hge; have := ho.2.1 hge; omega
      subst this; exact he
    refine cntT_le_one _ _ fun i j hi hj hbi hbj => ?_
    rw [hk i (by omega)] at hbi
    rw [hk j (by omega)] at hbj
    have e1 := hat i (by omega) hbi
    have e2 := hat j (by omega) hbj
    rw [e1] at e2
    injection e2 with e2
    have oi := ofN_at (n := ls.length) (j := i) h1 hq ht
    have oj := ofN_at (n := ls.length) (j := j) h1 hq ht
    rcases Nat.lt_or_ge i t with hit | hit
    · rcases Nat.lt_or_ge j t with hjt | hjt
      · have := (oi.2.2.1 hit).1; have := (oj.2.2.1 hjt).1; omega
      · have := (oi.2.2.1 hit).2; have := oj.2.2.2 (by omega); omega
    · rcases Nat.lt_or_ge j t with hjt | hjt
      · have := (oj.2.2.1 hjt).2; have := oi.2.2.2 (by omega); omega
      · omega
  · have hq := (grps_lt ls.length f g h1).1 hg
    obtain ⟨t, ht⟩ : ∃ t, t = min f (ls.length - g * f) := ⟨_, rfl⟩
    have hgsl : (gsG (zF (atF zs ls.length f) (addS ls f) b s (grps ls.length f)) ls.length f g).length = t + 1 := by
      unfold gsG
      rw [List.length_append, grpAt_len _ _ _ _ (by rw [zF_len, hxl]; omega), ← ht]; rfl
    rw [hgsl] at hj
    have hk := grp_get false (lkF (atF zs ls.length f) (ls.length + grps ls.length f) (grps ls.length f)) ls.length f g t (by rw [lkF_len]; omega) hq ht j (by omega)
    have hk2 : (lkF (atF zs ls.length f) (ls.length + grps ls.length f) (grps ls.length f)).getD (ofN ls.length f g t j) false = false := by rw [← hk]; exact hl
    have hz := grp_get ByteArray.empty (zF (atF zs ls.length f) (addS ls f) b s (grps ls.length f)) ls.length f g t (by rw [zF_len, hxl]; omega) hq ht j (by omega)
    have hx := grp_get ByteArray.empty (addS ls f) ls.length f g t (by rw [hxl]; omega) hq ht j (by omega)
    unfold gsG
    rw [hz, hx]
    have hof : ofN ls.length f g t j < ls.length + grps ls.length f := by
      have ho := ofN_at (n := ls.length) (j := j) h1 hq ht
      rcases Nat.lt_or_ge j t with h | h
      · have := (ho.2.2.1 h).2; omega
      · have := ho.2.2.2 (by omega); omega
    rw [← hxl] at hk2 hof
    have h3 := zF_same (atF zs ls.length f) (addS ls f) b s _ hof (grps ls.length f) hk2
    exact h3
/-- With nothing lacking all comes back. -/
theorem none_all {ls : List ByteArray} {f : Nat} (hok : ChkOk ls) (h1 : 1 ≤ f) (h2 : f ≤ 16) (hfit : ls.length + grps ls.length f ≤ 16) :
    healL (addS ls f) (List.replicate (ls.length + grps ls.length f) false) f = ls ∧ healE (addS ls f) (List.replicate (ls.length + grps ls.length f) false) f = 0 := by
  have hno : ∀ k, zF (atF [] ls.length f) (addS ls f) false ByteArray.empty k = addS ls f ∧ lkF (atF [] ls.length f) (ls.length + grps ls.length f) k = List.replicate (ls.length + grps ls.length f) false := fun k => by
    induction k with
    | zero => exact ⟨rfl, rfl⟩
    | succ k ih =>
      have ha : atF [] ls.length f k = none := by unfold atF; rw [if_neg (by simp)]
      unfold zF lkF
      rw [ha]; exact ih
  have := gone_all (zs := []) (b := false) (s := ByteArray.empty) hok h1 h2 hfit (fun h => by cases h)
  rw [(hno _).1, (hno _).2] at this
  exact this
end Go.Proofs.Ytpaoiebngbfbpaa
