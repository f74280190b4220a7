/- The document's words on told and coded pictures, one answer whatever is asked. -/
import Derived.Test.YtnnjijdpenifjaaDoorMovSame
import Derived.Test.YtnnjijdpenifjaaDoorAloneSame
import Derived.Test.YtnnjijdpenifjaaDoorRefMoved
import Derived.Test.YtnnjijdpenifjaaDoorRefAlone
namespace Go.Proofs.YtnnjijdpenifjaaDoor
open Go.ChangeShapes Go.WideShapes Go.ChangeAt Go.RowKit

theorem refBehind_totF (wd hg : Int) (a : Option Addr) (n cap : Nat) (zs : List Int) (al : Bool) (x y : Int) (b : Option Addr) (m cap2 : Nat) (rs : List Int) (s : Int) (w : World) (h : IntsAt w a n cap zs) (h2 : IntsAt w b m cap2 rs) :
    Calls Tryd.prog 37 #[picV wd hg a n cap, codV al x y b m cap2, .int .i64 s] w fun e w' => ∃ c k cc, e = .returned (.tuple #[picV (behD wd hg zs al x y rs s) (behG wd hg zs al x y rs s) c k cc, .int .i64 (behE wd hg zs al x y rs s)]) ∧ IntsAt w' c k cc (behR wd hg zs al x y rs s) ∧ Fresh w c k ∧ Lat w w' := by
  unfold behR behD behG
  by_cases he : behE wd hg zs al x y rs s = 0
  · obtain ⟨hk, _, _, rfl, _, _⟩ := behE_zero he
    have oa := chkPic_ok hk
    obtain ⟨wd, rfl⟩ := Int.eq_ofNat_of_zero_le (show 0 ≤ wd by have := oa.w1; omega)
    obtain ⟨hg, rfl⟩ := Int.eq_ofNat_of_zero_le (show 0 ≤ hg by have := oa.h1; omega)
    rw [if_pos he, if_pos he, if_pos he, he]
    refine (refBehind_ok wd hg a n cap zs x y b m cap2 rs s w h h2 he).mono ?_
    rintro e w' ⟨c, cc, rfl, hat, hf, hb⟩
    exact ⟨c, n, cc, rfl, by unfold shI; rw [h.len]; exact hat, hf, hb⟩
  · rw [if_neg he, if_neg he, if_neg he]
    refine (refBehind_bad wd hg a n cap zs al x y b m cap2 rs s w h h2 he).mono ?_
    rintro e w' ⟨rfl, hb⟩
    exact ⟨none, 0, 0, rfl, IntsAt.nil _, fun _ _ _ _ _ hn => absurd rfl hn, hb⟩
theorem refBehind_tot (wd hg : Int) (a : Option Addr) (n cap : Nat) (zs : List Int) (al : Bool) (x y : Int) (b : Option Addr) (m cap2 : Nat) (rs : List Int) (s : Int) (w : World) (h : IntsAt w a n cap zs) (h2 : IntsAt w b m cap2 rs) :
    Calls Tryd.prog 37 #[picV wd hg a n cap, codV al x y b m cap2, .int .i64 s] w fun e w' => ∃ c k cc, e = .returned (.tuple #[picV (behD wd hg zs al x y rs s) (behG wd hg zs al x y rs s) c k cc, .int .i64 (behE wd hg zs al x y rs s)]) ∧ IntsAt w' c k cc (behR wd hg zs al x y rs s) ∧ Lat w w' :=
  (refBehind_totF wd hg a n cap zs al x y b m cap2 rs s w h h2).mono fun _ _ ⟨c, k, cc, h1, h2, _, h3⟩ => ⟨c, k, cc, h1, h2, h3⟩
theorem refMoved_same (wd hg : Int) (a : Option Addr) (n cap : Nat) (zs : List Int) (wd2 hg2 : Int) (b : Option Addr) (m cap2 : Nat) (ys : List Int) (s : Int) (w : World) (h : IntsAt w a n cap zs) (h2 : IntsAt w b m cap2 ys) (he : movE wd hg zs wd2 hg2 ys s = 0) :
    Calls Tryd.prog 35 #[picV wd hg a n cap, picV wd2 hg2 b m cap2, .int .i64 s] w fun e w' => ∃ c k cc, e = .returned (codV false (menX wd hg zs wd2 hg2 ys s) (menY wd hg zs wd2 hg2 ys s) c k cc) ∧ IntsAt w' c k cc (menR wd hg zs wd2 hg2 ys s) ∧ Fresh w c k ∧ Lat w w' := by
  have he0 := he
  obtain ⟨ha, _, _⟩ := movE_zero he
  obtain ⟨ka, kb, rfl, rfl⟩ := alkE_zero.1 ha
  have oa := chkPic_ok ka
  have ob := chkPic_ok kb
  obtain ⟨wd, rfl⟩ := Int.eq_ofNat_of_zero_le (show 0 ≤ wd by have := oa.w1; omega)
  obtain ⟨hg, rfl⟩ := Int.eq_ofNat_of_zero_le (show 0 ≤ hg by have := oa.h1; omega)
  have hmn : m = n := by have := oa.len; have := ob.len; have := h.len; have := h2.len; omega
  subst hmn
  unfold menR menX menY
  rw [if_pos he0, if_pos he0, if_pos he0]
  refine (refMoved wd hg a m cap zs b cap2 ys s w h h2 he (bI wd hg zs ys) rfl).mono ?_
  rintro e w' ⟨c, cc, rfl, hat, hf, hb⟩
  exact ⟨c, m, cc, rfl, by unfold shI; rw [h.len]; exact hat, hf, hb⟩
theorem refBest_same (wd hg : Int) (a : Option Addr) (n cap : Nat) (zs : List Int) (wd2 hg2 : Int) (b : Option Addr) (m cap2 : Nat) (ys : List Int) (w : World) (h : IntsAt w a n cap zs) (h2 : IntsAt w b m cap2 ys) (he : alkE wd hg zs wd2 hg2 ys = 0) :
    Calls Tryd.prog 34 #[picV wd hg a n cap, picV wd2 hg2 b m cap2] w fun e w' => e = .returned (.agg #[.int .i64 (bX wd hg zs wd2 hg2 ys), .int .i64 (bY wd hg zs wd2 hg2 ys)]) ∧ Lat w w' := by
  have he0 := he
  obtain ⟨ka, kb, rfl, rfl⟩ := alkE_zero.1 he
  have oa := chkPic_ok ka
  have ob := chkPic_ok kb
  obtain ⟨wd, rfl⟩ := Int.eq_ofNat_of_zero_le (show 0 ≤ wd by have := oa.w1; omega)
  obtain ⟨hg, rfl⟩ := Int.eq_ofNat_of_zero_le (show 0 ≤ hg by have := oa.h1; omega)
  have hmn : m = n := by have := oa.len; have := ob.len; have := h.len; have := h2.len; omega
  subst hmn
  have hn : wd * hg = m := by
    have := oa.len
    rw [h.len, ← Int.natCast_mul] at this
    omega
  unfold bX bY
  rw [if_pos he0, if_pos he0]
  exact refBest wd hg a m cap zs b cap2 ys w h h2 hn (by have := oa.w1; omega) (by have := oa.w6; omega) (by have := oa.h1; omega) (by have := oa.h6; omega) oa.pix ob.pix

theorem refTold_sameF (wd hg s : Int) (a : Option Addr) (n cap : Nat) (rs : List Int) (w : World) (h : IntsAt w a n cap rs) :
    Calls Tryd.prog 19 #[.int .i64 wd, .int .i64 hg, .int .i64 s, .slice a n cap] w fun e w' => ∃ b m c, e = .returned (.tuple #[picV (tolD wd hg s rs) (tolG wd hg s rs) b m c, .int .i64 (dcE wd hg s rs)]) ∧ IntsAt w' b m c (tolR wd hg s rs) ∧ Fresh w b m ∧ Lat w w' := by
  refine (refTold wd hg s a n cap rs w h).mono ?_
  rintro e w' ⟨d, g, b, m, c, rfl, h0, h1, hat, hf, hb⟩
  unfold tolD tolG
  by_cases he : dcE wd hg s rs = 0
  · obtain ⟨rfl, rfl, rfl⟩ := h0 he
    rw [if_pos he, if_pos he]
    exact ⟨b, m, c, rfl, hat, hf, hb⟩
  · obtain ⟨rfl, rfl, rfl⟩ := h1 he
    rw [if_neg he, if_neg he]
    exact ⟨b, 0, c, rfl, hat, hf, hb⟩
theorem refTold_same (wd hg s : Int) (a : Option Addr) (n cap : Nat) (rs : List Int) (w : World) (h : IntsAt w a n cap rs) :
    Calls Tryd.prog 19 #[.int .i64 wd, .int .i64 hg, .int .i64 s, .slice a n cap] w fun e w' => ∃ b m c, e = .returned (.tuple #[picV (tolD wd hg s rs) (tolG wd hg s rs) b m c, .int .i64 (dcE wd hg s rs)]) ∧ IntsAt w' b m c (tolR wd hg s rs) ∧ Lat w w' :=
  (refTold_sameF wd hg s a n cap rs w h).mono fun _ _ ⟨b, m, c, h1, h2, _, h3⟩ => ⟨b, m, c, h1, h2, h3⟩
theorem refAlone_sameF (wd hg : Int) (a : Option Addr) (n cap : Nat) (zs : List Int) (s : Int) (w : World) (h : IntsAt w a n cap zs) (hok : PicOk wd hg zs) (s1 : 1 ≤ s) (s64 : s ≤ 64) :
    Calls Tryd.prog 15 #[picV wd hg a n cap, .int .i64 s] w fun e w' => ∃ b c b2 c2, e = .returned (.tuple #[.slice b n c, .slice b2 n c2]) ∧ IntsAt w' b n c (cod zs wd.toNat s n).1 ∧ IntsAt w' b2 n c2 (cod zs wd.toNat s n).2 ∧ Fresh w b n ∧ Fresh w b2 n ∧ Lat w w' :=
  refAlone wd hg a n cap zs s w h hok s1 s64
theorem refAlone_same (wd hg : Int) (a : Option Addr) (n cap : Nat) (zs : List Int) (s : Int) (w : World) (h : IntsAt w a n cap zs) (he : encE wd hg zs s = 0) :
    Calls Tryd.prog 15 #[picV wd hg a n cap, .int .i64 s] w fun e w' => ∃ b m c b2 m2 c2, e = .returned (.tuple #[.slice b m c, .slice b2 m2 c2]) ∧ IntsAt w' b m c (encR wd hg zs s) ∧ Lat w w' := by
  obtain ⟨hok, s1, s64⟩ := encE_zero he
  unfold encR
  rw [if_pos he]
  refine (refAlone wd hg a n cap zs s w h hok s1 s64).mono ?_
  rintro e w' ⟨b, c, b2, c2, rfl, hat, _, _, _, hb⟩
  exact ⟨b, n, c, b2, n, c2, rfl, by rw [h.len]; exact hat, hb⟩
end Go.Proofs.YtnnjijdpenifjaaDoor
