/- Plain: how one finds block by block. No program in sight. -/
import Derived.Test.YtcpookgbneoilaaGreatDoorMix
namespace Go.Proofs.YtcpookgbneoilaaGreatDoor

abbrev Bts := List UInt8
/-- a drop that waits: of which, what is left -/
abbrev Wt := List Int × Bts
/-- what is known -/
abbrev Kn := Int → Option Bts
def unkn (K : Kn) (z : Int) : Bool := (K z).isNone
/-- one over what is known of one block -/
def ovK (K : Kn) (d : Bts) (z : Int) : Bts := match K z with
  | some b => xorL d b
  | none => d
/-- without what is known -/
def wout (K : Kn) (x : Wt) : Wt := (x.1.filter (unkn K), x.1.foldl (ovK K) x.2)
def some1 (x : Wt) : Bool := decide (0 < x.1.length)
def leftW (K : Kn) (L : List Wt) : List Wt := (L.map (wout K)).filter some1
def one1 (x : Wt) : Bool := decide (x.1.length = 1)
def updK (K : Kn) (z : Int) (b : Bts) : Kn := fun x => if x = z then some b else K x
/-- learn as much as may be -/
def learnF : Nat → Kn → List Wt → List Int → Kn × List Wt × List Int
  | 0, K, L, out => (K, leftW K L, out)
  | f + 1, K, L, out => match (leftW K L).find? one1 with
    | none => (K, leftW K L, out)
    | some x => learnF f (updK K (x.1.headD 0) x.2) (leftW K L) (out ++ [x.1.headD 0])
/-- how many of the first k are not known -/
def unkC (K : Kn) (k : Nat) : Nat := ((List.range k).filter (fun i : Nat => unkn K (i : Int))).length

/-- All is right: blocks in their range, each of m bytes. -/
structure WOk (k m : Nat) (K : Kn) (L : List Wt) : Prop where
  kn : ∀ z b, K z = some b → 0 ≤ z ∧ z < (k : Int) ∧ b.length = m
  of : ∀ x ∈ L, ∀ z ∈ x.1, 0 ≤ z ∧ z < (k : Int)
  len : ∀ x ∈ L, x.1.length ≤ 16
  data : ∀ x ∈ L, x.2.length = m
theorem ovK_len {k m : Nat} {K : Kn} (hK : ∀ z b, K z = some b → 0 ≤ z ∧ z < (k : Int) ∧ b.length = m) : ∀ (zs : List Int) (d : Bts), d.length = m → (zs.foldl (ovK K) d).length = m
  | [], _, h => h
  | z :: r, d, h => by
    rw [List.foldl_cons]
    refine ovK_len hK r _ ?_
    unfold ovK
    cases hz : K z with
    | none => exact h
    | some b => rw [xorL_length _ _ (by rw [h, (hK z b hz).2.2])]; exact h
theorem WOk.wo {k m : Nat} {K : Kn} {L : List Wt} (h : WOk k m K L) {x : Wt} (hx : x ∈ L) : (∀ z ∈ (wout K x).1, 0 ≤ z ∧ z < (k : Int)) ∧ (wout K x).1.length ≤ 16 ∧ (wout K x).2.length = m :=
  ⟨fun z hz => h.of x hx z (List.mem_filter.1 hz).1, Nat.le_trans (List.length_filter_le _ _) (h.len x hx), ovK_len h.kn _ _ (h.data x hx)⟩
theorem WOk.left {k m : Nat} {K : Kn} {L : List Wt} (h : WOk k m K L) : WOk k m K (leftW K L) := by
  have hm : ∀ x ∈ leftW K L, ∃ y ∈ L, x = wout K y := fun x hx => by
    obtain ⟨y, hy, e⟩ := List.mem_map.1 (List.mem_filter.1 hx).1
    exact ⟨y, hy, e.symm⟩
  refine ⟨h.kn, fun x hx => ?_, fun x hx => ?_, fun x hx => ?_⟩
  all_goals (obtain ⟨y, hy, rfl⟩ := hm x hx)
  · exact (h.wo hy).1
  · exact (h.wo hy).2.1
  · exact (h.wo hy).2.2
theorem leftW_one {K : Kn} {L : List Wt} {x : Wt} (h : (leftW K L).find? one1 = some x) : x ∈ leftW K L ∧ ∃ z, x.1 = [z] ∧ K z = none := by
  have hm := List.mem_of_find?_eq_some h
  have h1 := List.find?_some h
  unfold one1 at h1
  have h2 : x.1.length = 1 := of_decide_eq_true h1
  obtain ⟨z, hz⟩ := List.length_eq_one_iff.1 h2
  refine ⟨hm, z, hz, ?_⟩
  obtain ⟨y, _, e⟩ := List.mem_map.1 (List.mem_filter.1 hm).1
  have hzm : z ∈ (wout K y).1 := by rw [e, hz]; exact List.mem_singleton.2 rfl
  have := (List.mem_filter.1 hzm).2
  unfold unkn at this
  cases hk : K z with
  | none => rfl
  | some b => rw [hk] at this; cases this
theorem WOk.upd {k m : Nat} {K : Kn} {L : List Wt} (h : WOk k m K L) {z : Int} {b : Bts} (hz : 0 ≤ z ∧ z < (k : Int)) (hb : b.length = m) : WOk k m (updK K z b) L := by
  refine ⟨fun y c hy => ?_, h.of, h.len, h.data⟩
  unfold updK at hy
  split at hy
  · rename_i e; cases hy; subst e; exact ⟨hz.1, hz.2, hb⟩
  · exact h.kn y c hy
theorem filter_lt {α : Type} {p q : α → Bool} : ∀ {l : List α} {a : α}, a ∈ l → q a = true → p a = false → (∀ x, p x = true → q x = true) → (l.filter p).length < (l.filter q).length
  | [], a, h, _, _, _ => by cases h
  | x :: r, a, h, hq, hp, hs => by
    have hle : (r.filter p).length ≤ (r.filter q).length := by
      clear h
      induction r with
      | nil => exact Nat.le_refl _
      | cons y t ih =>
        rw [List.filter_cons, List.filter_cons]
        cases hy : p y with
        | true => rw [hs y hy]; simpa using ih
        | false => cases q y <;> simp <;> omega
    rw [List.filter_cons, List.filter_cons]
    rcases List.mem_cons.1 h with rfl | h
    · rw [hq, hp]; simp; omega
    · have ih := filter_lt h hq hp hs
      cases hy : p x with
      | true => rw [hs x hy]; simpa using ih
      | false => cases q x <;> simp <;> omega
theorem unkC_upd {k : Nat} {K : Kn} {z : Int} (b : Bts) (hz : 0 ≤ z ∧ z < (k : Int)) (hn : K z = none) : unkC (updK K z b) k < unkC K k := by
  unfold unkC
  refine filter_lt (a := z.toNat) (List.mem_range.2 (by omega)) ?_ ?_ fun x hx => ?_
  · unfold unkn; rw [Int.toNat_of_nonneg hz.1, hn]; rfl
  · unfold unkn updK; rw [Int.toNat_of_nonneg hz.1, if_pos rfl]; rfl
  · unfold unkn updK at *
    split at hx
    · cases hx
    · exact hx
theorem unkC_le (K : Kn) (k : Nat) : unkC K k ≤ k := by
  have := List.length_filter_le (fun i : Nat => unkn K (i : Int)) (List.range k)
  rw [List.length_range] at this; exact this
/-- what is first of those that are one -/
theorem find_at {α : Type} {p : α → Bool} : ∀ {l : List α} {i : Nat} {x : α}, l[i]? = some x → p x = true → (∀ j, j < i → ∀ y, l[j]? = some y → p y = false) → l.find? p = some x
  | [], i, x, h, _, _ => by simp at h
  | a :: r, 0, x, h, hp, _ => by
    simp at h; subst h
    rw [List.find?_cons, hp]
  | a :: r, i + 1, x, h, hp, hb => by
    have ha := hb 0 (by omega) a rfl
    rw [List.find?_cons, ha]
    exact find_at (l := r) (i := i) (by simpa using h) hp fun j hj y hy => hb (j + 1) (by omega) y (by simpa using hy)
theorem find_no {α : Type} {p : α → Bool} {l : List α} (h : ∀ (j : Nat) (y : α), l[j]? = some y → p y = false) : l.find? p = none := by
  rw [List.find?_eq_none]
  intro x hx
  obtain ⟨j, hj, e⟩ := List.getElem_of_mem hx
  rw [h j x (by rw [List.getElem?_eq_getElem hj, e])]; simp
end Go.Proofs.YtcpookgbneoilaaGreatDoor
