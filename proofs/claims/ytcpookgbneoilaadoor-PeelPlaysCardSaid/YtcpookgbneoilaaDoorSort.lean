/- slices.Sort at ints, for a slice of the call's own: out of the library's contract. -/
import Derived.Test.YtcpookgbneoilaaDoorOwnC
import Derived.Test.YtcpookgbneoilaaDoorShelfSort
import Derived.Sort.Grow
namespace Go.Proofs.YtcpookgbneoilaaDoor
open Go.ChangeShapes Go.WideShapes Go.ChangeAt Go.RowKit Go.Sort

abbrev encI : Int → Value := Value.int .i64
theorem take_putI (cur : Array Value) (ts : List Int) (h : ts.length ≤ cur.size) : (putCells encI 0 ts.toArray cur).toList.take ts.length = ts.map encI := by
  apply List.ext_getElem?
  intro j
  by_cases hj : j < ts.length
  · rw [List.getElem?_take_of_lt hj, Array.getElem?_toList]
    simp [putCells, hj, show j < cur.size by omega]
  · rw [List.getElem?_take_eq_none (by omega), List.getElem?_eq_none (by simp; omega)]

theorem sort_own (B : Nat) (v : Value) (zs : List Int) (w w0 : World) (h : OwnInts w B v zs) (hne : zs ≠ []) (hl : zs.length ≤ 1000000) (hB : B = w0.heap.size) (hb : Below B w0 w) :
    Calls Tryd.prog 55 #[v] w fun e w' => e = .returned (.tuple #[]) ∧ OwnInts w' B v (zs.mergeSort fun x y => decide (x ≤ y)) ∧ Below B w0 w' := by
  obtain ⟨hlen, hor⟩ := h
  rw [List.length_map] at hor
  rcases hor with ⟨rfl, h0⟩ | ⟨g, cap, cur, rfl, hg, hh, hn, hc, hs, ht⟩
  · exact absurd (List.eq_nil_of_length_eq_zero h0) hne
  · have hgl : g < w.heap.size := (Array.getElem?_eq_some_iff.1 hh).1
    rw [Nat.mul_one] at ht hs
    have hH : Holds (Value.int .i64) w g 0 zs.toArray := by
      intro j hj
      have hj' : j < zs.length := by simpa using hj
      refine ⟨?_, by simp [World.frozen?, hh]⟩
      have h1 : (cur.toList.take zs.length)[j]? = (zs.map encI)[j]? := by rw [ht]
      rw [List.getElem?_take_of_lt hj'] at h1
      simp only [World.cell?, hh, Nat.zero_add]
      simp only [Option.isSome_none, Bool.false_eq_true, if_false]
      rw [← Array.getElem?_toList, h1]
      simp [hj']
    refine (Tryd.slices_Sort_int g 0 cap zs w hH hgl (by omega)).mono ?_
    rintro e w' ⟨he, n, os, rfl⟩
    have hts : (zs.mergeSort fun x y => decide (x ≤ y)).length = zs.length := List.length_mergeSort _
    refine ⟨he, ⟨by simp, .inr ⟨g, cap, putCells encI 0 (zs.mergeSort fun x y => decide (x ≤ y)).toArray cur, ?_, hg, ?_, by simpa using hn, hc, by simp [putCells, hs], ?_⟩⟩, ?_⟩
    · simp
    · rw [heap_grow_old _ _ (by simpa using hgl)]
      simp [putRow, mapBlock, Sort.ahead, Array.getElem?_modify, hh, onCells]
    · rw [Nat.mul_one, List.length_map]; exact take_putI cur _ (by omega)
    · refine hb.trans ⟨rfl, rfl, rfl, by simp, fun k hk => ?_⟩
      have := hb.size
      rw [heap_grow_old _ _ (by simp; omega)]
      have : g ≠ k := by omega
      simp [putRow, mapBlock, Sort.ahead, Array.getElem?_modify, this]
end Go.Proofs.YtcpookgbneoilaaDoor
