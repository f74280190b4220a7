/- Arguments that are coded pictures, opened. -/
import Derived.Test.YtnnjijdpenifjaaDoorOpenPic
import Derived.Test.YtnnjijdpenifjaaDoorOpenPics
import Derived.Test.YtnnjijdpenifjaaDoorMovedEnc
namespace Go.Proofs.YtnnjijdpenifjaaDoor
open Go.ChangeShapes Go.WideShapes Go.ChangeAt Go.RowKit Go.Joins

set_option maxRecDepth 100000
theorem CodAt.keep {w w' : World} {x y : Int} {a : Option Addr} {n cap : Nat} {zs : List Int} (h : CodAt w x y a n cap zs) (hb : Lat w w') : CodAt w' x y a n cap zs := ⟨h.x, h.y, h.pix.keep hb⟩
section
variable {H : Type} {enc : TypeId × Value → H} {w : World} {base : Nat} {spare : Nat → Bool} {held : Bool}
theorem open_codCells {fuel : Nat} {cs : List Value} {d : DataW H × List MemPlace} (h : DataW.trod enc Tryd.prog w base spare held fuel 53 cs = some d) :
    ∃ (al : Bool) (x y : Int) (a : Option Addr) (n cap : Nat) (zs : List Int), cs = [.bool al, .int .i64 x, .int .i64 y, .slice a n cap] ∧ CodAt w x y a n cap zs := by
  obtain ⟨xs, n, _, _, hlen, hxl, hf⟩ := DataW.trod_struct Tryd.underlying53 h
  rw [show Tryd.prog.cellsOf 53 = 4 by kernel_rfl] at hlen
  have hxl3 : xs.length = 3 := hxl
  match cs, hlen with
  | [c0, c1, c2, c3], _ =>
    have h0 := hf 0 _ rfl
    have h1 := hf 1 _ rfl
    have h2 := hf 2 _ rfl
    rw [List.getElem?_eq_getElem (by omega)] at h0 h1 h2
    rw [show Tryd.prog.cellsOf _ = 1 by kernel_rfl] at h0
    rw [show Tryd.prog.cellsOf _ = 2 by kernel_rfl] at h1
    rw [show Tryd.prog.cellsOf _ = 1 by kernel_rfl] at h2
    have h0' : DataW.trod enc Tryd.prog w base spare held n 4 [c0] = some _ := h0
    have h1' : DataW.trod enc Tryd.prog w base spare held n 44 [c1, c2] = some _ := h1
    have h2' : DataW.trod enc Tryd.prog w base spare held n 22 [c3] = some _ := h2
    obtain ⟨al, hb, _⟩ := DataW.trod_bool Tryd.underlying4 h0'
    obtain ⟨ys, k, _, _, _, hyl, hg⟩ := DataW.trod_struct Tryd.underlying44 h1'
    have hyl2 : ys.length = 2 := hyl
    have g0 := hg 0 _ rfl
    have g1 := hg 1 _ rfl
    rw [List.getElem?_eq_getElem (by omega)] at g0 g1
    rw [show Tryd.prog.cellsOf _ = 1 by kernel_rfl] at g0 g1
    have g0' : DataW.trod enc Tryd.prog w base spare held k 3 [c1] = some _ := g0
    have g1' : DataW.trod enc Tryd.prog w base spare held k 3 [c2] = some _ := g1
    obtain ⟨x, rfl, wx⟩ := open_intCell Tryd.underlying3 g0'
    obtain ⟨y, rfl, wy⟩ := open_intCell Tryd.underlying3 g1'
    obtain ⟨a, m, cap, zs, rfl, hz⟩ := open_IntsCell Tryd.underlying22 Tryd.underlying3 (by kernel_rfl) h2'
    simp at hb
    subst hb
    exact ⟨al, x, y, a, m, cap, zs, rfl, wx, wy, hz⟩
theorem open_Cod {r : Reach} {b0 : Nat} {v : Value} {d : DataW H} {p : List MemPlace} (hv : Value.okWide Tryd.prog w r b0 53 v) (h : DataW.Trod enc Tryd.prog w base spare held 53 v d p) :
    ∃ (al : Bool) (x y : Int) (a : Option Addr) (n cap : Nat) (zs : List Int), v = codV al x y a n cap ∧ CodAt w x y a n cap zs := by
  obtain ⟨cs, rfl, hsz⟩ := okWide_struct Tryd.underlying53 hv
  obtain ⟨fuel, hf⟩ := h
  obtain ⟨al, x, y, a, n, cap, zs, hcs, hc⟩ := open_codCells hf
  refine ⟨al, x, y, a, n, cap, zs, ?_, hc⟩
  simp [Value.cells] at hcs
  cases cs
  simp_all
end
end Go.Proofs.YtnnjijdpenifjaaDoor
