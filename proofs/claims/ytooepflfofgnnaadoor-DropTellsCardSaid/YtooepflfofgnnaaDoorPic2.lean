/- The contracts of picture.Apart, inside, Alike, Unlike. -/
import Derived.Test.YtooepflfofgnnaaDoorPic
namespace Go.Proofs.YtooepflfofgnnaaDoor
open Go.ChangeShapes Go.WideShapes Go.ChangeAt Go.RowKit

theorem int_ret {k : IntKind} {a b : Int} (h : a = b) : Ending.returned (.int k a) = .returned (.int k b) := by rw [h]
theorem inside_any (n s : Int) (w : World) (h1 : -100000 ≤ n) (h2 : n ≤ 100000) (h3 : 0 ≤ s) (h4 : s ≤ 100000) :
    Calls Tryd.prog 148 #[.int .i64 n, .int .i64 s] w fun e w' => e = .returned (.int .i64 (insd n s)) ∧ w = w' := by
  go_enter Tryd.func148, Tryd.ntmps148
  go_wp2
  all_goals
    go_ret
    exact ⟨int_ret (by unfold insd; omega), rfl⟩

/-- Three cells in a row. -/
structure Cells3 (w : World) (g o : Nat) (x y z : Value) : Prop where
  c0 : w.cell? ⟨g, o, none⟩ = some x
  c1 : w.cell? ⟨g, o + 1, none⟩ = some y
  c2 : w.cell? ⟨g, o + 2, none⟩ = some z
theorem Cells3.keep {w w' : World} {g o : Nat} {x y z : Value} (h : Cells3 w g o x y z) (hb : Lat w w') : Cells3 w' g o x y z := ⟨hb.cell_at h.c0, hb.cell_at h.c1, hb.cell_at h.c2⟩

theorem cell_new {w : World} {cs : Array Value} {t : TypeId} {g j : Nat} {v : Value} (h : g = w.heap.size) (hv : cs[j]? = some v) : (w.alloc (.cells cs t)).cell? ⟨g, j, none⟩ = some v := by
  rw [World.cell?_alloc_at _ _ _ _ h]; exact hv

theorem cells3_new {w : World} {cs : Array Value} {t : TypeId} {g o : Nat} {x y z : Value} (h : g = w.heap.size) (h0 : cs[o]? = some x) (h1 : cs[o + 1]? = some y) (h2 : cs[o + 2]? = some z) : Cells3 (w.alloc (.cells cs t)) g o x y z :=
  ⟨cell_new h h0, cell_new h h1, cell_new h h2⟩

/-- what is wrong with two pictures -/
def alkE (wd hg : Int) (zs : List Int) (wd2 hg2 : Int) (ys : List Int) : Nat :=
  if chkPic wd hg zs ≠ 0 then chkPic wd hg zs else if chkPic wd2 hg2 ys ≠ 0 then chkPic wd2 hg2 ys else if wd ≠ wd2 ∨ hg ≠ hg2 then 3 else 0
theorem alkE_zero {wd hg wd2 hg2 : Int} {zs ys : List Int} : alkE wd hg zs wd2 hg2 ys = 0 ↔ chkPic wd hg zs = 0 ∧ chkPic wd2 hg2 ys = 0 ∧ wd = wd2 ∧ hg = hg2 := by
  unfold alkE
  constructor
  · intro h
    repeat' split at h
    all_goals first | omega | skip
    all_goals omega
  · rintro ⟨h1, h2, h3, h4⟩
    rw [if_neg (by omega), if_neg (by omega), if_neg (by omega)]

end Go.Proofs.YtooepflfofgnnaaDoor
