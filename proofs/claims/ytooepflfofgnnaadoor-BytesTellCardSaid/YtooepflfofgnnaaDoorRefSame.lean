/- The document's words on told and coded pictures, one answer whatever is asked. -/
import Derived.Test.YtooepflfofgnnaaDoorMovSame
import Derived.Test.YtooepflfofgnnaaDoorAloneSame
import Derived.Test.YtooepflfofgnnaaDoorRefMoved
import Derived.Test.YtooepflfofgnnaaDoorRefAlone
namespace Go.Proofs.YtooepflfofgnnaaDoor
open Go.ChangeShapes Go.WideShapes Go.ChangeAt Go.RowKit

theorem refBehind_totF (wd hg : Int) (a : Option Addr) (n cap : Nat) (zs : List Int) (al : Bool) (x y : Int) (b : Option Addr) (m cap2 : Nat) (rs : List Int) (s : Int) (w : World) (h : IntsAt w a n cap zs) (h2 : IntsAt w b m cap2 rs) :
    Calls Tryd.prog 89 #[picV wd hg a n cap, codV al x y b m cap2, .int .i64 s] w fun e w' => ∃ c k cc, e = .returned (.tuple #[picV (behD wd hg zs al x y rs s) (behG wd hg zs al x y rs s) c k cc, .int .i64 (behE wd hg zs al x y rs s)]) ∧ IntsAt w' c k cc (behR wd hg zs al x y rs s) ∧ Fresh w c k ∧ Lat w w' := by
  unfold behR behD behG
  by_cases he : behE wd hg zs al x y rs s = 0
  · obtain ⟨hk, _, _, rfl, _, _⟩ := behE_zero he
    have oa := chkPic_ok hk
    obtain ⟨wd, rfl⟩ := Int.eq_ofNat_of_zero_le (show 0 ≤ wd by have := oa.w1; omega)
    obtain ⟨hg, rfl⟩ := Int.eq_ofNat_of_zero_le (show 0 ≤ hg by have := oa.h1; omega)
    rw [if_pos he, if_pos he, if_pos he, he]
    refine (refBehind_ok wd hg a n cap zs x y b m cap2 rs s w h h2 he).mono ?_
    rintro e w' ⟨c, cc, rfl, hat, hf, hb⟩
    exact ⟨c, n, cc, rfl, by unfold shI; rw [h.len]; exact hat, hf, hb⟩
  · rw [if_neg he, if_neg he, if_neg he]
    refine (refBehind_bad wd hg a n cap zs al x y b m cap2 rs s w h h2 he).mono ?_
    rintro e w' ⟨rfl, hb⟩
    exact ⟨none, 0, 0, rfl, IntsAt.nil _, fun _ _ _ _ _ hn => absurd rfl hn, hb⟩
theorem refBehind_tot (wd hg : Int) (a : Option Addr) (n cap : Nat) (zs : List Int) (al : Bool) (x y : Int) (b : Option Addr) (m cap2 : Nat) (rs : List Int) (s : Int) (w : World) (h : IntsAt w a n cap zs) (h2 : IntsAt w b m cap2 rs) :
    Calls Tryd.prog 89 #[picV wd hg a n cap, codV al x y b m cap2, .int .i64 s] w fun e w' => ∃ c k cc, e = .returned (.tuple #[picV (behD wd hg zs al x y rs s) (behG wd hg zs al x y rs s) c k cc, .int .i64 (behE wd hg zs al x y rs s)]) ∧ IntsAt w' c k cc (behR wd hg zs al x y rs s) ∧ Lat w w' :=
  (refBehind_totF wd hg a n cap zs al x y b m cap2 rs s w h h2).mono fun _ _ ⟨c, k, cc, h1, h2, _, h3⟩ => ⟨c, k, cc, h1, h2, h3⟩
theorem refTold_sameF (wd hg s : Int) (a : Option Addr) (n cap : Nat) (rs : List Int) (w : World) (h : IntsAt w a n cap rs) :
    Calls Tryd.prog 88 #[.int .i64 wd, .int .i64 hg, .int .i64 s, .slice a n cap] w fun e w' => ∃ b m c, e = .returned (.tuple #[picV (tolD wd hg s rs) (tolG wd hg s rs) b m c, .int .i64 (dcE wd hg s rs)]) ∧ IntsAt w' b m c (tolR wd hg s rs) ∧ Fresh w b m ∧ Lat w w' := by
  refine (refTold wd hg s a n cap rs w h).mono ?_
  rintro e w' ⟨d, g, b, m, c, rfl, h0, h1, hat, hf, hb⟩
  unfold tolD tolG
  by_cases he : dcE wd hg s rs = 0
  · obtain ⟨rfl, rfl, rfl⟩ := h0 he
    rw [if_pos he, if_pos he]
    exact ⟨b, m, c, rfl, hat, hf, hb⟩
  · obtain ⟨rfl, rfl, rfl⟩ := h1 he
    rw [if_neg he, if_neg he]
    exact ⟨b, 0, c, rfl, hat, hf, hb⟩
theorem refTold_same (wd hg s : Int) (a : Option Addr) (n cap : Nat) (rs : List Int) (w : World) (h : IntsAt w a n cap rs) :
    Calls Tryd.prog 88 #[.int .i64 wd, .int .i64 hg, .int .i64 s, .slice a n cap] w fun e w' => ∃ b m c, e = .returned (.tuple #[picV (tolD wd hg s rs) (tolG wd hg s rs) b m c, .int .i64 (dcE wd hg s rs)]) ∧ IntsAt w' b m c (tolR wd hg s rs) ∧ Lat w w' :=
  (refTold_sameF wd hg s a n cap rs w h).mono fun _ _ ⟨b, m, c, h1, h2, _, h3⟩ => ⟨b, m, c, h1, h2, h3⟩
end Go.Proofs.YtooepflfofgnnaaDoor
