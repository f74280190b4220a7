/- Plain laws on what is new, what lacks, and how many of the first are enough. No program in sight. -/
import Derived.Test.YtcpookgbneoilaaDoorTab
namespace Go.Proofs.YtcpookgbneoilaaDoor

theorem Bare.append {k : Nat} {L M : List Vec} (h : Bare k L) (h2 : Bare k M) : Bare k (L ++ M) := fun v hv => by
  rcases List.mem_append.1 hv with hv | hv
  · exact h v hv
  · exact h2 v hv
theorem Bare.nil (k : Nat) : Bare k [] := fun v hv => by cases hv
theorem Bare.take {k : Nat} {L : List Vec} (h : Bare k L) (i : Nat) : Bare k (L.take i) := fun v hv => h v (List.mem_of_mem_take hv)
theorem bare_units {k : Nat} (l : List Nat) (h : ∀ i ∈ l, i < k) : Bare k (l.map unit) := fun v hv => by
  obtain ⟨i, hi, rfl⟩ := List.mem_map.1 hv
  exact ⟨rfl, unit_lt (h i hi)⟩
/-- which of the first i blocks lack -/
def lackL (k : Nat) (L : List Vec) : Nat → List Nat
  | 0 => []
  | i + 1 => if raises k (L ++ (List.range i).map unit) (unit i) = true then lackL k L i ++ [i] else lackL k L i
theorem lackL_lt (k : Nat) (L : List Vec) : ∀ i, ∀ j ∈ lackL k L i, j < i
  | 0, j, h => by cases h
  | i + 1, j, h => by
    unfold lackL at h
    split at h
    · rcases List.mem_append.1 h with h | h
      · have := lackL_lt k L i j h; omega
      · have := List.mem_singleton.1 h; omega
    · have := lackL_lt k L i j h; omega
theorem units_snoc (i : Nat) : (List.range (i + 1)).map unit = (List.range i).map unit ++ [unit i] := by rw [List.range_succ, List.map_append]; rfl
theorem bare_range {k i : Nat} (h : i ≤ k) : Bare k ((List.range i).map unit) := bare_units _ fun j hj => by have := List.mem_range.1 hj; omega
theorem lackL_len {k : Nat} (h64 : k ≤ 64) {L : List Vec} (h : Bare k L) : ∀ i, i ≤ k → (lackL k L i).length + rk k L = rk k (L ++ (List.range i).map unit)
  | 0, _ => by simp [lackL]
  | i + 1, hi => by
    have ih := lackL_len h64 h i (by omega)
    rw [units_snoc, ← List.append_assoc, rk_snoc h64 (h.append (bare_range (by omega))) (unit_lt (by omega)), ← ih]
    have e : lackL k L (i + 1) = if raises k (L ++ (List.range i).map unit) (unit i) = true then lackL k L i ++ [i] else lackL k L i := rfl
    rw [e]
    by_cases hr : raises k (L ++ (List.range i).map unit) (unit i) = true
    · rw [if_pos hr, if_pos hr, List.length_append, List.length_singleton]; omega
    · rw [if_neg hr, if_neg hr]; omega
theorem rk_range {k : Nat} (h64 : k ≤ 64) {L : List Vec} (h : Bare k L) : rk k (L ++ (List.range k).map unit) = k := by
  have hb := h.append (bare_range (Nat.le_refl k))
  refine rk_units h64 hb fun b hlt => Sp.mem hb.wf (List.mem_append_right _ (List.mem_map.2 ⟨b, List.mem_range.2 hlt, rfl⟩))
theorem lack_len {k : Nat} (h64 : k ≤ 64) {L : List Vec} (h : Bare k L) : (lackL k L k).length + rk k L = k := by
  rw [lackL_len h64 h k (Nat.le_refl _), rk_range h64 h]
/-- with what lacks all can be made -/
theorem lack_fills {k : Nat} (h64 : k ≤ 64) {L : List Vec} (h : Bare k L) : ∀ i, i ≤ k → ∀ j, j < i → Sp 0 (L ++ (lackL k L i).map unit) (unit j)
  | 0, _, j, hj => by omega
  | i + 1, hi, j, hj => by
    have ih := lack_fills h64 h i (by omega)
    have hbi : Bare k (L ++ (lackL k L i).map unit) := h.append (bare_units _ fun x hx => by have := lackL_lt k L i x hx; omega)
    have hbi1 : Bare k (L ++ (lackL k L (i + 1)).map unit) := h.append (bare_units _ fun x hx => by have := lackL_lt k L (i + 1) x hx; omega)
    have hsub : ∀ v, Sp 0 (L ++ (lackL k L i).map unit) v → Sp 0 (L ++ (lackL k L (i + 1)).map unit) v := fun v hv => Sp.mono (fun x hx => by
      rcases List.mem_append.1 hx with hx | hx
      · exact List.mem_append_left _ hx
      · refine List.mem_append_right _ ?_
        obtain ⟨y, hy, rfl⟩ := List.mem_map.1 hx
        refine List.mem_map.2 ⟨y, ?_, rfl⟩
        unfold lackL
        split
        · exact List.mem_append_left _ hy
        · exact hy) hv
    by_cases e : j = i
    · subst e
      cases hr : raises k (L ++ (List.range j).map unit) (unit j) with
      | true =>
        refine Sp.mem hbi1.wf (List.mem_append_right _ (List.mem_map.2 ⟨j, ?_, rfl⟩))
        unfold lackL
        rw [if_pos hr]; exact List.mem_append_right _ (List.mem_singleton.2 rfl)
      | false =>
        have hsp := (raises_iff h64 (h.append (bare_range (show j ≤ k by omega))) (v := unit j) rfl).1 hr
        refine hsub _ (Sp.sub hbi.wf (fun u hu => ?_) hsp)
        rcases List.mem_append.1 hu with hu | hu
        · exact Sp.mem hbi.wf (List.mem_append_left _ hu)
        · obtain ⟨y, hy, rfl⟩ := List.mem_map.1 hu
          exact ih y (List.mem_range.1 hy)
    · exact hsub _ (ih j (by omega))
theorem rk_filled {k : Nat} (h64 : k ≤ 64) {L : List Vec} (h : Bare k L) : rk k (L ++ (lackL k L k).map unit) = k :=
  rk_units h64 (h.append (bare_units _ fun x hx => lackL_lt k L k x hx)) (lack_fills h64 h k (Nat.le_refl _))
/-- which of the first i are new -/
def newL (k : Nat) (L : List Vec) : Nat → List Nat
  | 0 => []
  | i + 1 => if raises k (L.take i) (L.getD i (0, [])) = true then newL k L i ++ [i] else newL k L i
theorem take_snocV (L : List Vec) (i : Nat) (h : i < L.length) : L.take (i + 1) = L.take i ++ [L.getD i (0, [])] := by
  rw [List.take_succ_eq_append_getElem h, List.getD_eq_getElem?_getD, List.getElem?_eq_getElem h]; rfl
theorem getD_bits {k : Nat} {L : List Vec} (h : Bare k L) (i : Nat) (hi : i < L.length) : (L.getD i (0, [])).2 = [] ∧ (L.getD i (0, [])).1 < 2 ^ k := by
  rw [List.getD_eq_getElem?_getD, List.getElem?_eq_getElem hi]; exact h _ (List.getElem_mem hi)
theorem newL_len {k : Nat} (h64 : k ≤ 64) {L : List Vec} (h : Bare k L) : ∀ i, i ≤ L.length → (newL k L i).length = rk k (L.take i)
  | 0, _ => by rw [List.take_zero, rk_nil]; rfl
  | i + 1, hi => by
    have ih := newL_len h64 h i (by omega)
    rw [take_snocV L i (by omega), rk_snoc h64 (h.take i) (getD_bits h i (by omega)).2, ← ih]
    have e : newL k L (i + 1) = if raises k (L.take i) (L.getD i (0, [])) = true then newL k L i ++ [i] else newL k L i := rfl
    rw [e]
    by_cases hr : raises k (L.take i) (L.getD i (0, [])) = true
    · rw [if_pos hr, if_pos hr, List.length_append, List.length_singleton]
    · rw [if_neg hr, if_neg hr]; omega
theorem rk_take_mono {k : Nat} (h64 : k ≤ 64) {L : List Vec} (h : Bare k L) {i j : Nat} (hij : i ≤ j) : rk k (L.take i) ≤ rk k (L.take j) := by
  have e : L.take j = L.take i ++ (L.drop i).take (j - i) := by
    rw [← List.take_add, show i + (j - i) = j by omega]
  have hb := h.take j
  rw [e] at hb ⊢
  exact (rk_append h64 _ _ rfl hb).1
/-- how many of the first are enough (0: none), from the i-th on -/
def fstA (k : Nat) (L : List Vec) : Nat → Nat → Nat
  | 0, _ => 0
  | f + 1, i => if rk k (L.take (i + 1)) = k then i + 1 else fstA k L f (i + 1)
theorem fstA_ne {k : Nat} {L : List Vec} : ∀ f i, fstA k L f i ≠ 0 → rk k (L.take (fstA k L f i)) = k ∧ i < fstA k L f i ∧ fstA k L f i ≤ i + f ∧ ∀ j, i ≤ j → j + 1 < fstA k L f i → rk k (L.take (j + 1)) ≠ k
  | 0, i, h => absurd rfl h
  | f + 1, i, h => by
    unfold fstA at h ⊢
    by_cases e : rk k (L.take (i + 1)) = k
    · rw [if_pos e] at h ⊢
      exact ⟨e, by omega, by omega, fun j h1 h2 => by omega⟩
    · rw [if_neg e] at h ⊢
      obtain ⟨h1, h2, h3, h4⟩ := fstA_ne f (i + 1) h
      refine ⟨h1, by omega, by omega, fun j hj hj2 => ?_⟩
      by_cases ej : j = i
      · subst ej; exact e
      · exact h4 j (by omega) hj2
theorem fstA_zero {k : Nat} {L : List Vec} : ∀ f i, fstA k L f i = 0 → ∀ j, i ≤ j → j < i + f → rk k (L.take (j + 1)) ≠ k
  | 0, i, _, j, h1, h2 => by omega
  | f + 1, i, h, j, h1, h2 => by
    unfold fstA at h
    by_cases e : rk k (L.take (i + 1)) = k
    · rw [if_pos e] at h; omega
    · rw [if_neg e] at h
      by_cases ej : j = i
      · subst ej; exact e
      · exact fstA_zero f (i + 1) h j (by omega) (by omega)
def fstN (k : Nat) (L : List Vec) : Nat := fstA k L L.length 0
/-- what New, Lacks and First answer, together -/
theorem fst_iff {k : Nat} (h64 : k ≤ 64) (hk : 1 ≤ k) {L : List Vec} (h : Bare k L) : fstN k L ≠ 0 ↔ rk k L = k := by
  constructor
  · intro hn
    obtain ⟨h1, _, h3, _⟩ := fstA_ne _ _ hn
    have h2 := rk_take_mono h64 h (i := fstN k L) (j := L.length) (by unfold fstN; omega)
    rw [List.take_length] at h2
    have h4 : rk k (L.take (fstN k L)) = k := h1
    have := rk_le k L
    omega
  · intro hr hn
    have hl : L.length ≠ 0 := fun e => by
      rw [List.length_eq_zero_iff.1 e, rk_nil] at hr; omega
    have := fstA_zero _ _ hn (L.length - 1) (by omega) (by omega)
    rw [show L.length - 1 + 1 = L.length by omega, List.take_length] at this
    exact this hr
end Go.Proofs.YtcpookgbneoilaaDoor
