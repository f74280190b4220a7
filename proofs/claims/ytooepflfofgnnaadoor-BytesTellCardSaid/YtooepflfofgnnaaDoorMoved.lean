/- The contracts of package moved: far, best. -/
import Derived.Test.YtooepflfofgnnaaDoorShiftC
namespace Go.Proofs.YtooepflfofgnnaaDoor
open Go.ChangeShapes Go.WideShapes Go.ChangeAt Go.RowKit

/-- What stands throughout best: the two pictures, the result's cell, the best move's. -/
structure BW (w W : World) (wd hg : Nat) (a : Option Addr) (n cap : Nat) (b : Option Addr) (cap2 : Nat) (x y : Int) : Prop where
  lat : Lat w W
  p : Cells3 W w.heap.size 0 (.int .i64 wd) (.int .i64 hg) (.slice a n cap)
  q : Cells3 W (w.heap.size + 1) 0 (.int .i64 wd) (.int .i64 hg) (.slice b n cap2)
  r0 : W.cell? ⟨w.heap.size + 1 + 1, 0, none⟩ = some (.int .i64 0)
  r1 : W.cell? ⟨w.heap.size + 1 + 1, 1, none⟩ = some (.int .i64 0)
  f0 : W.frozen? ⟨w.heap.size + 1 + 1, 0, none⟩ = false
  f1 : W.frozen? ⟨w.heap.size + 1 + 1, 1, none⟩ = false
  o0 : W.cell? ⟨w.heap.size + 1 + 1 + 1, 0, none⟩ = some (.int .i64 x)
  o1 : W.cell? ⟨w.heap.size + 1 + 1 + 1, 1, none⟩ = some (.int .i64 y)
  g0 : W.frozen? ⟨w.heap.size + 1 + 1 + 1, 0, none⟩ = false
  g1 : W.frozen? ⟨w.heap.size + 1 + 1 + 1, 1, none⟩ = false
  sz : w.heap.size + 4 ≤ W.heap.size
section
variable {w W W' : World} {wd hg : Nat} {a : Option Addr} {n cap : Nat} {b : Option Addr} {cap2 : Nat} {x y : Int}
theorem BW.keep (h : BW w W wd hg a n cap b cap2 x y) (hb : Lat W W') : BW w W' wd hg a n cap b cap2 x y :=
  have hs := h.sz
  have l2 : w.heap.size + 1 + 1 < W.heap.size := by omega
  have l3 : w.heap.size + 1 + 1 + 1 < W.heap.size := by omega
  ⟨Lat.trans h.lat hb, h.p.keep hb, h.q.keep hb, hb.cell_at h.r0, hb.cell_at h.r1, hb.free_at l2 h.f0, hb.free_at l2 h.f1, hb.cell_at h.o0, hb.cell_at h.o1, hb.free_at l3 h.g0, hb.free_at l3 h.g1, Nat.le_trans hs hb.size⟩
theorem cell_two {W : World} {g g' k : Nat} {v u u' : Value} (h : W.cell? ⟨g, k, none⟩ = some v) (hne : g ≠ g') : ((W.setCell ⟨g', 0, none⟩ u).setCell ⟨g', 1, none⟩ u').cell? ⟨g, k, none⟩ = some v := by
  rw [World.cell?_setCell_other _ _ _ _ (by intro e; injection e with e _ _; exact hne e.symm), World.cell?_setCell_other _ _ _ _ (by intro e; injection e with e _ _; exact hne e.symm)]; exact h
theorem two_set {W : World} {g : Nat} {v v' : Value} (h0 : W.cell? ⟨g, 0, none⟩ = some v) (h1 : W.cell? ⟨g, 1, none⟩ = some v') (u u' : Value) :
    ((W.setCell ⟨g, 0, none⟩ u).setCell ⟨g, 1, none⟩ u').cell? ⟨g, 0, none⟩ = some u ∧ ((W.setCell ⟨g, 0, none⟩ u).setCell ⟨g, 1, none⟩ u').cell? ⟨g, 1, none⟩ = some u' := by
  refine ⟨?_, ?_⟩
  · rw [World.cell?_setCell_other _ _ _ _ (by simp)]; exact World.cell?_setCell_same _ _ _ h0
  · exact World.cell?_setCell_same _ _ _ ((World.cell?_setCell_other _ _ _ _ (by simp)).trans h1)
theorem lat_two {w W : World} {g : Nat} (hb : Lat w W) (hg : w.heap.size ≤ g) (u u' : Value) : Lat w ((W.setCell ⟨g, 0, none⟩ u).setCell ⟨g, 1, none⟩ u') := Below.setCell (Below.setCell hb hg u) hg u'
theorem free_two {W : World} {p : Addr} {g : Nat} {u u' : Value} (h : W.frozen? p = false) : ((W.setCell ⟨g, 0, none⟩ u).setCell ⟨g, 1, none⟩ u').frozen? p = false := by
  rw [World.frozen?_setCell, World.frozen?_setCell]; exact h
theorem BW.set (h : BW w W wd hg a n cap b cap2 x y) (x' y' : Int) :
    BW w ((W.setCell ⟨w.heap.size + 1 + 1 + 1, 0, none⟩ (.int .i64 x')).setCell ⟨w.heap.size + 1 + 1 + 1, 1, none⟩ (.int .i64 y')) wd hg a n cap b cap2 x' y' :=
  have q := two_set h.o0 h.o1 (.int .i64 x') (.int .i64 y')
  ⟨lat_two h.lat (by omega) _ _, ⟨cell_two h.p.c0 (by omega), cell_two h.p.c1 (by omega), cell_two h.p.c2 (by omega)⟩, ⟨cell_two h.q.c0 (by omega), cell_two h.q.c1 (by omega), cell_two h.q.c2 (by omega)⟩,
    cell_two h.r0 (by omega), cell_two h.r1 (by omega), free_two h.f0, free_two h.f1, q.1, q.2, free_two h.g0, free_two h.g1, by simp [World.setCell]; exact h.sz⟩
end

end Go.Proofs.YtooepflfofgnnaaDoor
