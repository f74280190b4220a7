/- Plain laws on seeds beside which those of the blocks that lack are put. -/
import Derived.Test.YtbccpcpocbefgaaDoorNeed3
namespace Go.Proofs.YtbccpcpocbefgaaDoor
open Go.ChangeShapes Go.WideShapes Go.ChangeAt Go.RowKit

theorem rowOf_unit (f i : Nat) (h : i < f) : rowOf f ((i : Int) + 1) = unit i := by
  unfold rowOf
  have e : ((i : Int) + 1).toNat = i + 1 := by omega
  have e2 : setZ f (i + 1) = [(i : Int)] := by unfold setZ; rw [if_pos (by omega)]; rfl
  rw [e, e2]; exact bits_one i
/-- the seeds that are these blocks -/
def seedsOf (l : List Nat) : List Int := l.map fun (i : Nat) => (i : Int) + 1
theorem rows_seedsOf (f : Nat) (l : List Nat) (h : ∀ i ∈ l, i < f) : rowsOf f (seedsOf l) = l.map unit := by
  unfold rowsOf seedsOf
  rw [List.map_map]
  exact List.map_congr_left fun i hi => rowOf_unit f i (h i hi)
theorem rows_app (f : Nat) (zs ys : List Int) : rowsOf f (zs ++ ys) = rowsOf f zs ++ rowsOf f ys := by unfold rowsOf; rw [List.map_append]
theorem rdyE_of {f : Nat} {zs : List Int} (h1 : zs.length ≤ 60) (h2 : 1 ≤ f) (h3 : f ≤ 16) (h4 : ∀ z ∈ zs, 1 ≤ z ∧ z ≤ 10000) : rdyE f zs = 0 := by
  unfold rdyE
  rw [if_neg (by omega), if_neg (by omega), if_neg]
  intro h
  obtain ⟨z, hz, hn⟩ := List.any_eq_true.1 h
  unfold noSeed at hn
  rw [decide_eq_true (h4 z hz)] at hn
  cases hn
theorem seeds_ok {f : Nat} {l : List Nat} (h : ∀ i ∈ l, i < f) (h3 : f ≤ 16) : ∀ z ∈ seedsOf l, 1 ≤ z ∧ z ≤ 10000 := fun z hz => by
  obtain ⟨i, hi, rfl⟩ := List.mem_map.1 hz
  have := h i hi
  omega
theorem both_ok {zs ys : List Int} (h : ∀ z ∈ zs, 1 ≤ z ∧ z ≤ 10000) (h2 : ∀ z ∈ ys, 1 ≤ z ∧ z ≤ 10000) : ∀ z ∈ zs ++ ys, 1 ≤ z ∧ z ≤ 10000 := fun z hz => by
  rcases List.mem_append.1 hz with hz | hz
  · exact h z hz
  · exact h2 z hz
theorem rankR_of {f : Nat} {zs : List Int} (h : rdyE f zs = 0) : rankR f zs = rk f (rowsOf f zs) := by unfold rankR; rw [if_pos h, Int.toNat_natCast]
/-- of the first j of some all but the one at wo -/
def fewTo (l : List Nat) (wo : Int) : Nat → List Nat
  | 0 => []
  | j + 1 => if (j : Int) = wo then fewTo l wo j else fewTo l wo j ++ [l.getD j 0]
theorem fewTo_mem (l : List Nat) (wo : Int) : ∀ j, j ≤ l.length → ∀ i ∈ fewTo l wo j, i ∈ l
  | 0, _, i, h => by cases h
  | j + 1, hj, i, h => by
    unfold fewTo at h
    split at h
    · exact fewTo_mem l wo j (by omega) i h
    · rcases List.mem_append.1 h with h | h
      · exact fewTo_mem l wo j (by omega) i h
      · rw [List.mem_singleton.1 h, List.getD_eq_getElem?_getD, List.getElem?_eq_getElem (by omega)]
        exact List.getElem_mem _
theorem fewTo_len (l : List Nat) (wo : Int) : ∀ j, (fewTo l wo j).length = if 0 ≤ wo ∧ wo < (j : Int) then j - 1 else j
  | 0 => by rw [if_neg (by omega)]; rfl
  | j + 1 => by
    have ih := fewTo_len l wo j
    unfold fewTo
    by_cases e : (j : Int) = wo
    · rw [if_pos e, ih, if_neg (by omega), if_pos (by omega)]; omega
    · rw [if_neg e, List.length_append, List.length_singleton, ih]
      by_cases h : 0 ≤ wo ∧ wo < (j : Int)
      · rw [if_pos h, if_pos (by omega)]; omega
      · rw [if_neg h, if_neg (by omega)]
theorem rank_all {f : Nat} {zs : List Int} (h2 : 1 ≤ f) (h3 : f ≤ 16) (h4 : ∀ z ∈ zs, 1 ≤ z ∧ z ≤ 10000) (hl : (zs ++ seedsOf (lackL f (rowsOf f zs) f)).length ≤ 60) : rankR f (zs ++ seedsOf (lackL f (rowsOf f zs) f)) = f ∧ rdyE f (zs ++ seedsOf (lackL f (rowsOf f zs) f)) = 0 := by
  have hlt := lackL_lt f (rowsOf f zs) f
  have he := rdyE_of (f := f) hl h2 h3 (both_ok h4 (seeds_ok hlt h3))
  refine ⟨?_, he⟩
  rw [rankR_of he, rows_app, rows_seedsOf f _ hlt]
  exact rk_filled (by omega) (rowsOf_bare h2 h4)
theorem rank_few {f : Nat} {zs : List Int} (h2 : 1 ≤ f) (h3 : f ≤ 16) (h4 : ∀ z ∈ zs, 1 ≤ z ∧ z ≤ 10000) (wo : Int) (hl : (zs ++ seedsOf (lackL f (rowsOf f zs) f)).length ≤ 60) :
    rdyE f (zs ++ seedsOf (fewTo (lackL f (rowsOf f zs) f) wo (lackL f (rowsOf f zs) f).length)) = 0 ∧
    (0 ≤ wo → wo < ((lackL f (rowsOf f zs) f).length : Int) → rankR f (zs ++ seedsOf (fewTo (lackL f (rowsOf f zs) f) wo (lackL f (rowsOf f zs) f).length)) < f) := by
  have hlt := lackL_lt f (rowsOf f zs) f
  have hmem := fewTo_mem (lackL f (rowsOf f zs) f) wo (lackL f (rowsOf f zs) f).length (Nat.le_refl _)
  have hfl := fewTo_len (lackL f (rowsOf f zs) f) wo (lackL f (rowsOf f zs) f).length
  have hlk := lack_len (k := f) (by omega) (rowsOf_bare h2 h4)
  have hll : (seedsOf (fewTo (lackL f (rowsOf f zs) f) wo (lackL f (rowsOf f zs) f).length)).length ≤ (lackL f (rowsOf f zs) f).length := by
    unfold seedsOf
    rw [List.length_map, hfl]; split <;> omega
  have hl1 : (seedsOf (lackL f (rowsOf f zs) f)).length = (lackL f (rowsOf f zs) f).length := List.length_map _
  rw [List.length_append, hl1] at hl
  have he := rdyE_of (f := f) (zs := zs ++ seedsOf (fewTo (lackL f (rowsOf f zs) f) wo (lackL f (rowsOf f zs) f).length)) (by rw [List.length_append]; omega) h2 h3 (both_ok h4 (seeds_ok (fun i hi => hlt i (hmem i hi)) h3))
  refine ⟨he, fun a b => ?_⟩
  rw [rankR_of he, rows_app, rows_seedsOf f _ (fun i hi => hlt i (hmem i hi))]
  have hb := (rowsOf_bare (k := f) h2 h4).append (bare_units (k := f) (fewTo (lackL f (rowsOf f zs) f) wo (lackL f (rowsOf f zs) f).length) (fun i hi => hlt i (hmem i hi)))
  have h5 := (rk_append (k := f) (by omega) _ _ rfl hb).2
  rw [List.length_map, hfl, if_pos ⟨a, by omega⟩] at h5
  omega
/-- what First tells -/
theorem first_full {f : Nat} {zs : List Int} (h1 : zs.length ≤ 60) (h2 : 1 ≤ f) (h3 : f ≤ 16) (h4 : ∀ z ∈ zs, 1 ≤ z ∧ z ≤ 10000) (hr : rk f (rowsOf f zs) = f) :
    ∃ F, firstR f zs = F ∧ firstE f zs = 0 ∧ f ≤ F ∧ F ≤ zs.length ∧ rankR f (zs.take F) = f ∧ rdyE f (zs.take F) = 0 ∧ rankR f (zs.take (F - 1)) < f ∧ rdyE f (zs.take (F - 1)) = 0 := by
  have he := rdyE_of h1 h2 h3 h4
  have hb := rowsOf_bare (k := f) h2 h4
  have hne := (fst_iff (by omega) h2 hb).2 hr
  obtain ⟨a1, a2, a3, a4⟩ := fstA_ne _ _ hne
  have hF : fstA f (rowsOf f zs) (rowsOf f zs).length 0 = fstN f (rowsOf f zs) := rfl
  rw [hF] at a1 a2 a3 a4
  rw [rowsOf_len] at a3
  have htk : ∀ j, rdyE f (zs.take j) = 0 := fun j => rdyE_of (by rw [List.length_take]; omega) h2 h3 fun z hz => h4 z (List.mem_of_mem_take hz)
  have hrt : ∀ j, rankR f (zs.take j) = rk f ((rowsOf f zs).take j) := fun j => by
    rw [rankR_of (htk j)]; unfold rowsOf; rw [List.map_take]
  refine ⟨fstN f (rowsOf f zs), by unfold firstR; rw [if_pos he, Int.toNat_natCast], by unfold firstE; rw [if_neg (by omega), Int.toNat_natCast, if_neg hne], ?_, by omega, by rw [hrt]; exact a1, htk _, ?_, htk _⟩
  · have := rk_len (k := f) (by omega) (hb.take (fstN f (rowsOf f zs)))
    rw [a1, List.length_take] at this
    omega
  · rw [hrt]
    have hle := rk_le f ((rowsOf f zs).take (fstN f (rowsOf f zs) - 1))
    by_cases e : fstN f (rowsOf f zs) = 1
    · rw [e]
      show rk f ((rowsOf f zs).take 0) < f
      rw [List.take_zero, rk_nil]; omega
    · have := a4 (fstN f (rowsOf f zs) - 2) (by omega) (by omega)
      rw [show fstN f (rowsOf f zs) - 2 + 1 = fstN f (rowsOf f zs) - 1 by omega] at this
      omega
theorem first_none {f : Nat} {zs : List Int} (h1 : zs.length ≤ 60) (h2 : 1 ≤ f) (h3 : f ≤ 16) (h4 : ∀ z ∈ zs, 1 ≤ z ∧ z ≤ 10000) (hr : rk f (rowsOf f zs) ≠ f) : firstR f zs = 0 ∧ firstE f zs = 8 := by
  have he := rdyE_of h1 h2 h3 h4
  have hz : fstN f (rowsOf f zs) = 0 := by
    by_cases e : fstN f (rowsOf f zs) = 0
    · exact e
    · exact absurd ((fst_iff (by omega) h2 (rowsOf_bare h2 h4)).1 e) hr
  constructor
  · unfold firstR; rw [if_pos he, Int.toNat_natCast, hz]
  · unfold firstE; rw [if_neg (by omega), Int.toNat_natCast, if_pos hz]
theorem ofNats_len (l : List Nat) : (ofNats l).length = l.length := List.length_map _
theorem ofNats_getD (l : List Nat) (j : Nat) (h : j < l.length) : (ofNats l).getD j 0 = (l.getD j 0 : Int) := by
  unfold ofNats
  rw [List.getD_eq_getElem?_getD, List.getElem?_map, List.getD_eq_getElem?_getD, List.getElem?_eq_getElem h]; rfl
theorem seedsOf_snoc (l : List Nat) (i : Nat) : seedsOf (l ++ [i]) = seedsOf l ++ [(i : Int) + 1] := by unfold seedsOf; rw [List.map_append]; rfl
end Go.Proofs.YtbccpcpocbefgaaDoor
