/- Arguments that are pictures, moves, coded pictures, opened. -/
import Derived.Test.YtooepflfofgnnaaDoorPic
import Derived.Lib.SmallJoins
namespace Go.Proofs.YtooepflfofgnnaaDoor
open Go.ChangeShapes Go.WideShapes Go.ChangeAt Go.RowKit Go.Joins

def I64 (z : Int) : Prop := -9223372036854775808 ≤ z ∧ z ≤ 9223372036854775807
theorem wf_I64 {n : Int} (h : (Lit.int .i64 n).wf = true) : I64 n := by simpa [I64, Lit.wf, IntKind.min, IntKind.max, IntKind.signed, IntKind.bits] using h
/-- A picture that came in. -/
structure PicAt (w : World) (wd hg : Int) (a : Option Addr) (n cap : Nat) (zs : List Int) : Prop where
  wd : I64 wd
  hg : I64 hg
  pix : IntsAt w a n cap zs
structure MoveAt (x y : Int) : Prop where
  x : I64 x
  y : I64 y
set_option maxRecDepth 100000
/-- A coded picture that came in. -/
structure CodAt (w : World) (x y : Int) (a : Option Addr) (n cap : Nat) (zs : List Int) : Prop where
  x : I64 x
  y : I64 y
  pix : IntsAt w a n cap zs
section
variable {H : Type} {enc : TypeId × Value → H} {P : Program} {w : World} {base : Nat} {spare : Nat → Bool} {held : Bool}
theorem open_intCell {t : TypeId} {fuel : Nat} {v : Value} {x : DataW H × List MemPlace} (ht : P.underlying t = some (.int .i64)) (h : DataW.trod enc P w base spare held fuel t [v] = some x) : ∃ z, v = .int .i64 z ∧ I64 z := by
  obtain ⟨z, hz, _, hw⟩ := DataW.trod_int ht h
  simp at hz
  exact ⟨z, hz, wf_I64 hw⟩
theorem open_IntsCell {t e : TypeId} {fuel : Nat} {v : Value} {x : DataW H × List MemPlace} (ht : P.underlying t = some (.slice e)) (he : P.underlying e = some (.int .i64)) (hc : P.cellsOf e = 1) (h : DataW.trod enc P w base spare held fuel t [v] = some x) :
    ∃ a n cap zs, v = .slice a n cap ∧ IntsAt w a n cap zs := by
  rcases open_ints ht he hc h with ⟨hcs, _⟩ | ⟨y, l, c, zs, hcs, _⟩
  · simp at hcs; subst hcs
    exact ⟨none, 0, 0, [], rfl, IntsAt.nil w⟩
  · simp at hcs; subst hcs
    obtain ⟨zs', h'⟩ := open_IntsAt (w := w) (a := some y) (n := l) (cap := c) (d := x.1) (ps := x.2) ht he hc ⟨fuel, h⟩
    exact ⟨_, _, _, zs', rfl, h'⟩
theorem open_Pic {r : Reach} {b0 : Nat} {v : Value} {d : DataW H} {p : List MemPlace} (hv : Value.okWide Tryd.prog w r b0 132 v) (h : DataW.Trod enc Tryd.prog w base spare held 132 v d p) :
    ∃ (wd hg : Int) (a : Option Addr) (n cap : Nat) (zs : List Int), v = picV wd hg a n cap ∧ PicAt w wd hg a n cap zs := by
  obtain ⟨v0, v1, v2, y0, y1, y2, m, rfl, _, _, h0, h1, h2⟩ := open_agg3 Tryd.underlying132 (by kernel_rfl) (by kernel_rfl) hv h
  obtain ⟨z0, rfl, w0⟩ := open_intCell Tryd.underlying3 h0
  obtain ⟨z1, rfl, w1⟩ := open_intCell Tryd.underlying3 h1
  obtain ⟨a, n, cap, zs, rfl, h3⟩ := open_IntsCell Tryd.underlying25 Tryd.underlying3 (by kernel_rfl) h2
  exact ⟨z0, z1, a, n, cap, zs, rfl, w0, w1, h3⟩
theorem open_Move {r : Reach} {b0 : Nat} {v : Value} {d : DataW H} {p : List MemPlace} (hv : Value.okWide Tryd.prog w r b0 108 v) (h : DataW.Trod enc Tryd.prog w base spare held 108 v d p) :
    ∃ (x y : Int), v = .agg #[.int .i64 x, .int .i64 y] ∧ MoveAt x y := by
  obtain ⟨v0, v1, y0, y1, m, rfl, _, _, h0, h1⟩ := open_agg2 Tryd.underlying108 (by kernel_rfl) (by kernel_rfl) hv h
  obtain ⟨z0, rfl, w0⟩ := open_intCell Tryd.underlying3 h0
  obtain ⟨z1, rfl, w1⟩ := open_intCell Tryd.underlying3 h1
  exact ⟨z0, z1, rfl, w0, w1⟩
end
end Go.Proofs.YtooepflfofgnnaaDoor
