/- moved.Decode and moved.Encode, one answer whatever is asked. -/
import Derived.Test.YtooepflfofgnnaaDoorMovedC
namespace Go.Proofs.YtooepflfofgnnaaDoor
open Go.ChangeShapes Go.WideShapes Go.ChangeAt Go.RowKit

/-- What is told behind another, in both ways the same. -/
def behR (wd hg : Int) (zs : List Int) (al : Bool) (x y : Int) (rs : List Int) (s : Int) : List Int := if behE wd hg zs al x y rs s = 0 then mtl (shI wd hg zs x y) rs s zs.length else []
def behD (wd hg : Int) (zs : List Int) (al : Bool) (x y : Int) (rs : List Int) (s : Int) : Int := if behE wd hg zs al x y rs s = 0 then wd else 0
def behG (wd hg : Int) (zs : List Int) (al : Bool) (x y : Int) (rs : List Int) (s : Int) : Int := if behE wd hg zs al x y rs s = 0 then hg else 0
theorem mdecode_same (wd hg : Int) (a : Option Addr) (n cap : Nat) (zs : List Int) (al : Bool) (x y : Int) (b : Option Addr) (m cap2 : Nat) (rs : List Int) (s : Int) (w : World) (h : IntsAt w a n cap zs) (h2 : IntsAt w b m cap2 rs) :
    Calls Tryd.prog 111 #[picV wd hg a n cap, codV al x y b m cap2, .int .i64 s] w fun e w' => ∃ c k cc, e = .returned (.tuple #[picV (behD wd hg zs al x y rs s) (behG wd hg zs al x y rs s) c k cc, errv (behE wd hg zs al x y rs s)]) ∧ IntsAt w' c k cc (behR wd hg zs al x y rs s) ∧ Lat w w' := by
  refine (mdecode_tot wd hg a n cap zs al x y b m cap2 rs s w h h2).mono ?_
  rintro e w' ⟨d, g, c, k, cc, L, rfl, hat, h0, h1, _, hb⟩
  unfold behR behD behG
  by_cases he : behE wd hg zs al x y rs s = 0
  · obtain ⟨rfl, rfl, rfl, rfl⟩ := h0 he
    rw [if_pos he, if_pos he, if_pos he]
    exact ⟨c, k, cc, rfl, by rw [h.len]; exact hat, hb⟩
  · obtain ⟨rfl, rfl, rfl, rfl⟩ := h1 he
    rw [if_neg he, if_neg he, if_neg he]
    exact ⟨c, 0, cc, rfl, hat, hb⟩
/-- What is coded behind another. -/
def menR (wd hg : Int) (zs : List Int) (wd2 hg2 : Int) (ys : List Int) (s : Int) : List Int := if movE wd hg zs wd2 hg2 ys s = 0 then mrs (shI wd hg zs (mvX (bI wd hg zs ys)) (mvY (bI wd hg zs ys))) ys s zs.length else []
def menX (wd hg : Int) (zs : List Int) (wd2 hg2 : Int) (ys : List Int) (s : Int) : Int := if movE wd hg zs wd2 hg2 ys s = 0 then mvX (bI wd hg zs ys) else 0
def menY (wd hg : Int) (zs : List Int) (wd2 hg2 : Int) (ys : List Int) (s : Int) : Int := if movE wd hg zs wd2 hg2 ys s = 0 then mvY (bI wd hg zs ys) else 0
end Go.Proofs.YtooepflfofgnnaaDoor
