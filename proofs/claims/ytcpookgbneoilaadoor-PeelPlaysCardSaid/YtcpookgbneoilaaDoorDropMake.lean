/- The contracts of drop.Set, drop.Make, drop.Check. -/
import Derived.Test.YtcpookgbneoilaaDoorDrop
namespace Go.Proofs.YtcpookgbneoilaaDoor
open Go.ChangeShapes Go.WideShapes Go.ChangeAt Go.RowKit

/-- A drop, as a value. -/
abbrev dropV (seed : Int) (data : ByteArray) : Value := .agg #[.int .i64 seed, .string data]

theorem two_set {w : World} {g : Nat} {a b : Value} (c0 : w.cell? ⟨g, 0, none⟩ = some a) (c1 : w.cell? ⟨g, 1, none⟩ = some b) (x y : Value) :
    ((w.setCell ⟨g, 0, none⟩ x).setCell ⟨g, 1, none⟩ y).cell? ⟨g, 0, none⟩ = some x ∧ ((w.setCell ⟨g, 0, none⟩ x).setCell ⟨g, 1, none⟩ y).cell? ⟨g, 1, none⟩ = some y := by
  constructor
  · rw [World.cell?_setCell_other _ _ _ _ (by simp)]; exact World.cell?_setCell_same _ _ _ c0
  · exact World.cell?_setCell_same _ _ _ ((World.cell?_setCell_other _ _ _ _ (by simp)).trans c1)
theorem lat_two {w w1 : World} {o : Obj} (hb : Lat (w.alloc o) w1) (x y : Value) : Lat w ((w1.setCell ⟨w.heap.size, 0, none⟩ x).setCell ⟨w.heap.size, 1, none⟩ y) :=
  Below.setCell (Below.setCell (Lat.trans (Lat.alloc w o) hb) (Nat.le_refl _) x) (Nat.le_refl _) y
/-- The block of a drop that a call lays for its result. -/
theorem dw_cells {w w1 : World} (hb1 : Lat (w.alloc (.cells #[.int .i64 0, .string .empty] 37)) w1) :
    (w1.cell? ⟨w.heap.size, 0, none⟩ = some (.int .i64 0) ∧ w1.cell? ⟨w.heap.size, 1, none⟩ = some (.string .empty)) ∧ w1.frozen? ⟨w.heap.size, 0, none⟩ = false ∧ w1.frozen? ⟨w.heap.size, 1, none⟩ = false :=
  ⟨⟨hb1.cell_at (by simp), hb1.cell_at (by simp)⟩, hb1.free_at (by simp) (by simp), hb1.free_at (by simp) (by simp)⟩

end Go.Proofs.YtcpookgbneoilaaDoor
