/- The contract of moved.Encode. -/
import Derived.Test.YtooepflfofgnnaaDoorMoved
import Derived.Test.YtooepflfofgnnaaDoorAcc
namespace Go.Proofs.YtooepflfofgnnaaDoor
open Go.ChangeShapes Go.WideShapes Go.ChangeAt Go.RowKit

/-- A coded picture, as a value. -/
abbrev codV (al : Bool) (x y : Int) (a : Option Addr) (n cap : Nat) : Value := .agg #[.bool al, .int .i64 x, .int .i64 y, .slice a n cap]
def movE (wd hg : Int) (zs : List Int) (wd2 hg2 : Int) (ys : List Int) (s : Int) : Nat := if alkE wd hg zs wd2 hg2 ys ≠ 0 then alkE wd hg zs wd2 hg2 ys else if stepB s = false then 1 else 0
theorem movE_zero {wd hg : Int} {zs : List Int} {wd2 hg2 : Int} {ys : List Int} {s : Int} (h : movE wd hg zs wd2 hg2 ys s = 0) : alkE wd hg zs wd2 hg2 ys = 0 ∧ 1 ≤ s ∧ s ≤ 64 := by
  unfold movE at h
  split at h
  · omega
  · rename_i h1
    split at h
    · omega
    · rename_i h2
      have a1 : stepB s = true := by cases hq : stepB s <;> simp_all
      simp only [stepB, decide_eq_true_eq] at a1
      exact ⟨by omega, a1.1, a1.2⟩
theorem movE_of {wd hg : Int} {zs : List Int} {wd2 hg2 : Int} {ys : List Int} {s : Int} (h : alkE wd hg zs wd2 hg2 ys = 0) (h1 : 1 ≤ s) (h2 : s ≤ 64) : movE wd hg zs wd2 hg2 ys s = 0 := by
  unfold movE
  rw [if_neg (by omega), if_neg (by simp [stepB, h1, h2])]
/-- Four cells in a row. -/
structure Cells4 (w : World) (g : Nat) (x y z u : Value) : Prop where
  c0 : w.cell? ⟨g, 0, none⟩ = some x
  c1 : w.cell? ⟨g, 1, none⟩ = some y
  c2 : w.cell? ⟨g, 2, none⟩ = some z
  c3 : w.cell? ⟨g, 3, none⟩ = some u
theorem Cells4.keep {w w' : World} {g : Nat} {x y z u : Value} (h : Cells4 w g x y z u) (hb : Lat w w') : Cells4 w' g x y z u := ⟨hb.cell_at h.c0, hb.cell_at h.c1, hb.cell_at h.c2, hb.cell_at h.c3⟩
theorem cells4_new {w : World} {cs : Array Value} {t : TypeId} {g : Nat} {x y z u : Value} (h : g = w.heap.size) (h0 : cs[0]? = some x) (h1 : cs[1]? = some y) (h2 : cs[2]? = some z) (h3 : cs[3]? = some u) : Cells4 (w.alloc (.cells cs t)) g x y z u :=
  ⟨cell_new h h0, cell_new h h1, cell_new h h2, cell_new h h3⟩
def four (w : World) (g : Nat) (x y z u : Value) : World := (((w.setCell ⟨g, 0, none⟩ x).setCell ⟨g, 1, none⟩ y).setCell ⟨g, 2, none⟩ z).setCell ⟨g, 3, none⟩ u
theorem four_set {w : World} {g : Nat} {a b c d : Value} (h : Cells4 w g a b c d) (x y z u : Value) : Cells4 (four w g x y z u) g x y z u := by
  unfold four
  refine ⟨?_, ?_, ?_, ?_⟩
  · rw [World.cell?_setCell_other _ _ _ _ (by simp), World.cell?_setCell_other _ _ _ _ (by simp), World.cell?_setCell_other _ _ _ _ (by simp)]; exact World.cell?_setCell_same _ _ _ h.c0
  · rw [World.cell?_setCell_other _ _ _ _ (by simp), World.cell?_setCell_other _ _ _ _ (by simp)]; exact World.cell?_setCell_same _ _ _ ((World.cell?_setCell_other _ _ _ _ (by simp)).trans h.c1)
  · rw [World.cell?_setCell_other _ _ _ _ (by simp)]; exact World.cell?_setCell_same _ _ _ ((World.cell?_setCell_other _ _ _ _ (by simp)).trans ((World.cell?_setCell_other _ _ _ _ (by simp)).trans h.c2))
  · exact World.cell?_setCell_same _ _ _ ((World.cell?_setCell_other _ _ _ _ (by simp)).trans ((World.cell?_setCell_other _ _ _ _ (by simp)).trans ((World.cell?_setCell_other _ _ _ _ (by simp)).trans h.c3)))
theorem lat_four {w w1 : World} {g : Nat} (hb : Lat w w1) (hg : w.heap.size ≤ g) (x y z u : Value) : Lat w (four w1 g x y z u) := Below.setCell (Below.setCell (Below.setCell (Below.setCell hb hg x) hg y) hg z) hg u
theorem ints_four {w : World} {g : Nat} {a : Option Addr} {n cap : Nat} {L : List Int} (h : IntsAt w a n cap L) (hne : ∀ b o, a = some ⟨b, o, none⟩ → n ≠ 0 → b ≠ g) (x y z u : Value) : IntsAt (four w g x y z u) a n cap L := by
  refine ⟨h.len, ⟨h.row.le, h.row.cap, fun hn => ?_⟩, h.wf⟩
  obtain ⟨b, o, ha, hc⟩ := h.row.at_ hn
  refine ⟨b, o, ha, fun j hj => ?_⟩
  have hb := hne b o ha hn
  have nn : ∀ k, (⟨g, k, none⟩ : Addr) ≠ ⟨b, o + j, none⟩ := fun k e => hb (by injection e with e _ _; exact e.symm)
  unfold four
  rw [World.cell?_setCell_other _ _ _ _ (nn 3), World.cell?_setCell_other _ _ _ _ (nn 2), World.cell?_setCell_other _ _ _ _ (nn 1), World.cell?_setCell_other _ _ _ _ (nn 0)]
  exact hc j hj
/-- What the call lays first: the two pictures, and the result's cells. -/
structure EW (w W : World) (wd hg : Int) (a : Option Addr) (n cap : Nat) (wd2 hg2 : Int) (b : Option Addr) (m cap2 : Nat) : Prop where
  lat : Lat w W
  p : Cells3 W w.heap.size 0 (.int .i64 wd) (.int .i64 hg) (.slice a n cap)
  q : Cells3 W (w.heap.size + 1) 0 (.int .i64 wd2) (.int .i64 hg2) (.slice b m cap2)
  r : Cells4 W (w.heap.size + 1 + 1) (.bool false) (.int .i64 0) (.int .i64 0) (.slice none 0 0)
  f : ∀ k, k < 4 → W.frozen? ⟨w.heap.size + 1 + 1, k, none⟩ = false
  sz : w.heap.size + 1 + 1 < W.heap.size
theorem EW.keep {w W W' : World} {wd hg : Int} {a : Option Addr} {n cap : Nat} {wd2 hg2 : Int} {b : Option Addr} {m cap2 : Nat} (h : EW w W wd hg a n cap wd2 hg2 b m cap2) (hb : Lat W W') : EW w W' wd hg a n cap wd2 hg2 b m cap2 :=
  ⟨Lat.trans h.lat hb, h.p.keep hb, h.q.keep hb, h.r.keep hb, fun k hk => hb.free_at h.sz (h.f k hk), Nat.lt_of_lt_of_le h.sz hb.size⟩
theorem ew_open (w : World) (wd hg : Int) (a : Option Addr) (n cap : Nat) (wd2 hg2 : Int) (b : Option Addr) (m cap2 : Nat) :
    EW w (((w.alloc (.cells #[.int .i64 wd, .int .i64 hg, .slice a n cap] 132)).alloc (.cells #[.int .i64 wd2, .int .i64 hg2, .slice b m cap2] 132)).alloc (.cells #[.bool false, .int .i64 0, .int .i64 0, .slice none 0 0] 110)) wd hg a n cap wd2 hg2 b m cap2 := by
  have l3 := Lat.alloc ((w.alloc (.cells #[.int .i64 wd, .int .i64 hg, .slice a n cap] 132)).alloc (.cells #[.int .i64 wd2, .int .i64 hg2, .slice b m cap2] 132)) (.cells #[.bool false, .int .i64 0, .int .i64 0, .slice none 0 0] 110)
  have l2 := Lat.alloc (w.alloc (.cells #[.int .i64 wd, .int .i64 hg, .slice a n cap] 132)) (.cells #[.int .i64 wd2, .int .i64 hg2, .slice b m cap2] 132)
  have l1 := Lat.alloc w (.cells #[.int .i64 wd, .int .i64 hg, .slice a n cap] 132)
  exact ⟨Lat.trans l1 (Lat.trans l2 l3), (cells3_new rfl rfl rfl rfl).keep (Lat.trans l2 l3), (cells3_new (by simp) rfl rfl rfl).keep l3, cells4_new (by simp) rfl rfl rfl rfl, fun k _ => free_new (by simp), by simp⟩

end Go.Proofs.YtooepflfofgnnaaDoor
