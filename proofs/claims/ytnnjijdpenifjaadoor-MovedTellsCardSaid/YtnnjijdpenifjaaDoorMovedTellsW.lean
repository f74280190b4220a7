/- The walk of MovedTells: it returns true, whatever it is asked. -/
import Derived.Test.YtnnjijdpenifjaaDoorRefMoved
import Derived.Test.YtnnjijdpenifjaaDoorSameCod
import Derived.Test.YtnnjijdpenifjaaDoorOpenCod
import Derived.Test.YtnnjijdpenifjaaDoorSame
import Derived.Deep.DeepCutAuto
import Derived.Deep.CutBlock
namespace Go.Proofs.YtnnjijdpenifjaaDoor
open Go.ChangeShapes Go.WideShapes Go.ChangeAt Go.RowKit

theorem cellFour {W : World} {b j g : Nat} {v x y z u : Value} (h : W.cell? ⟨b, j, none⟩ = some v) (hne : b ≠ g) : (four W g x y z u).cell? ⟨b, j, none⟩ = some v := by
  have nn : ∀ k, (⟨g, k, none⟩ : Addr) ≠ ⟨b, j, none⟩ := fun k e => hne (by injection e with e _ _; exact e.symm)
  unfold four
  rw [World.cell?_setCell_other _ _ _ _ (nn 3), World.cell?_setCell_other _ _ _ _ (nn 2), World.cell?_setCell_other _ _ _ _ (nn 1), World.cell?_setCell_other _ _ _ _ (nn 0)]; exact h
structure TW (w W : World) (d0 g0 : Int) (a0 : Option Addr) (n0 c0 : Nat) (d1 g1 : Int) (a1 : Option Addr) (n1 c1 : Nat) (al : Bool) (x y : Int) (a3 : Option Addr) (n3 c3 : Nat) : Prop where
  lat : Lat w W
  p : Cells3 W w.heap.size 0 (.int .i64 d0) (.int .i64 g0) (.slice a0 n0 c0)
  q : Cells3 W (w.heap.size + 1) 0 (.int .i64 d1) (.int .i64 g1) (.slice a1 n1 c1)
  r : Cells4 W (w.heap.size + 1 + 1) (.bool al) (.int .i64 x) (.int .i64 y) (.slice a3 n3 c3)
  sz : w.heap.size + 1 + 1 < W.heap.size
section
variable {w W W' : World} {d0 g0 : Int} {a0 : Option Addr} {n0 c0 : Nat} {d1 g1 : Int} {a1 : Option Addr} {n1 c1 : Nat} {al : Bool} {x y : Int} {a3 : Option Addr} {n3 c3 : Nat}
theorem TW.keep (h : TW w W d0 g0 a0 n0 c0 d1 g1 a1 n1 c1 al x y a3 n3 c3) (hb : Lat W W') : TW w W' d0 g0 a0 n0 c0 d1 g1 a1 n1 c1 al x y a3 n3 c3 :=
  ⟨Lat.trans h.lat hb, h.p.keep hb, h.q.keep hb, h.r.keep hb, Nat.lt_of_lt_of_le h.sz hb.size⟩
theorem tw_open (w : World) (d0 g0 : Int) (a0 : Option Addr) (n0 c0 : Nat) (d1 g1 : Int) (a1 : Option Addr) (n1 c1 : Nat) (al : Bool) (x y : Int) (a3 : Option Addr) (n3 c3 : Nat) :
    TW w (((w.alloc (.cells #[.int .i64 d0, .int .i64 g0, .slice a0 n0 c0] 24)).alloc (.cells #[.int .i64 d1, .int .i64 g1, .slice a1 n1 c1] 24)).alloc (.cells #[.bool al, .int .i64 x, .int .i64 y, .slice a3 n3 c3] 53)) d0 g0 a0 n0 c0 d1 g1 a1 n1 c1 al x y a3 n3 c3 := by
  have l1 := Lat.alloc w (.cells #[.int .i64 d0, .int .i64 g0, .slice a0 n0 c0] 24)
  have l2 := Lat.alloc (w.alloc (.cells #[.int .i64 d0, .int .i64 g0, .slice a0 n0 c0] 24)) (.cells #[.int .i64 d1, .int .i64 g1, .slice a1 n1 c1] 24)
  have l3 := Lat.alloc ((w.alloc (.cells #[.int .i64 d0, .int .i64 g0, .slice a0 n0 c0] 24)).alloc (.cells #[.int .i64 d1, .int .i64 g1, .slice a1 n1 c1] 24)) (.cells #[.bool al, .int .i64 x, .int .i64 y, .slice a3 n3 c3] 53)
  exact ⟨Lat.trans l1 (Lat.trans l2 l3), (cells3_new rfl rfl rfl rfl).keep (Lat.trans l2 l3), (cells3_new (by simp) rfl rfl rfl).keep l3, cells4_new (by simp) rfl rfl rfl rfl, by simp⟩
end
/-- What is told behind another, in both ways the same. -/
def behR (wd hg : Int) (zs : List Int) (al : Bool) (x y : Int) (rs : List Int) (s : Int) : List Int := if behE wd hg zs al x y rs s = 0 then mtl (shI wd hg zs x y) rs s zs.length else []
def behD (wd hg : Int) (zs : List Int) (al : Bool) (x y : Int) (rs : List Int) (s : Int) : Int := if behE wd hg zs al x y rs s = 0 then wd else 0
def behG (wd hg : Int) (zs : List Int) (al : Bool) (x y : Int) (rs : List Int) (s : Int) : Int := if behE wd hg zs al x y rs s = 0 then hg else 0
theorem refBehind_tot (wd hg : Int) (a : Option Addr) (n cap : Nat) (zs : List Int) (al : Bool) (x y : Int) (b : Option Addr) (m cap2 : Nat) (rs : List Int) (s : Int) (w : World) (h : IntsAt w a n cap zs) (h2 : IntsAt w b m cap2 rs) :
    Calls Tryd.prog 37 #[picV wd hg a n cap, codV al x y b m cap2, .int .i64 s] w fun e w' => ∃ c k cc, e = .returned (.tuple #[picV (behD wd hg zs al x y rs s) (behG wd hg zs al x y rs s) c k cc, .int .i64 (behE wd hg zs al x y rs s)]) ∧ IntsAt w' c k cc (behR wd hg zs al x y rs s) ∧ Lat w w' := by
  unfold behR behD behG
  by_cases he : behE wd hg zs al x y rs s = 0
  · obtain ⟨hk, _, _, rfl, _, _⟩ := behE_zero he
    have oa := chkPic_ok hk
    obtain ⟨wd, rfl⟩ := Int.eq_ofNat_of_zero_le (show 0 ≤ wd by have := oa.w1; omega)
    obtain ⟨hg, rfl⟩ := Int.eq_ofNat_of_zero_le (show 0 ≤ hg by have := oa.h1; omega)
    rw [if_pos he, if_pos he, if_pos he, he]
    refine (refBehind_ok wd hg a n cap zs x y b m cap2 rs s w h h2 he).mono ?_
    rintro e w' ⟨c, cc, rfl, hat, hb⟩
    exact ⟨c, n, cc, rfl, by unfold shI; rw [h.len]; exact hat, hb⟩
  · rw [if_neg he, if_neg he, if_neg he]
    refine (refBehind_bad wd hg a n cap zs al x y b m cap2 rs s w h h2 he).mono ?_
    rintro e w' ⟨rfl, hb⟩
    exact ⟨none, 0, 0, rfl, IntsAt.nil _, hb⟩
theorem mdecode_same (wd hg : Int) (a : Option Addr) (n cap : Nat) (zs : List Int) (al : Bool) (x y : Int) (b : Option Addr) (m cap2 : Nat) (rs : List Int) (s : Int) (w : World) (h : IntsAt w a n cap zs) (h2 : IntsAt w b m cap2 rs) :
    Calls Tryd.prog 33 #[picV wd hg a n cap, codV al x y b m cap2, .int .i64 s] w fun e w' => ∃ c k cc, e = .returned (.tuple #[picV (behD wd hg zs al x y rs s) (behG wd hg zs al x y rs s) c k cc, errv (behE wd hg zs al x y rs s)]) ∧ IntsAt w' c k cc (behR wd hg zs al x y rs s) ∧ Lat w w' := by
  refine (mdecode_tot wd hg a n cap zs al x y b m cap2 rs s w h h2).mono ?_
  rintro e w' ⟨d, g, c, k, cc, L, rfl, hat, h0, h1, _, hb⟩
  unfold behR behD behG
  by_cases he : behE wd hg zs al x y rs s = 0
  · obtain ⟨rfl, rfl, rfl, rfl⟩ := h0 he
    rw [if_pos he, if_pos he, if_pos he]
    exact ⟨c, k, cc, rfl, by rw [h.len]; exact hat, hb⟩
  · obtain ⟨rfl, rfl, rfl, rfl⟩ := h1 he
    rw [if_neg he, if_neg he, if_neg he]
    exact ⟨c, 0, cc, rfl, hat, hb⟩
/-- What is coded behind another. -/
def menR (wd hg : Int) (zs : List Int) (wd2 hg2 : Int) (ys : List Int) (s : Int) : List Int := if movE wd hg zs wd2 hg2 ys s = 0 then mrs (shI wd hg zs (mvX (bI wd hg zs ys)) (mvY (bI wd hg zs ys))) ys s zs.length else []
def menX (wd hg : Int) (zs : List Int) (wd2 hg2 : Int) (ys : List Int) (s : Int) : Int := if movE wd hg zs wd2 hg2 ys s = 0 then mvX (bI wd hg zs ys) else 0
def menY (wd hg : Int) (zs : List Int) (wd2 hg2 : Int) (ys : List Int) (s : Int) : Int := if movE wd hg zs wd2 hg2 ys s = 0 then mvY (bI wd hg zs ys) else 0
theorem mencode_same (wd hg : Int) (a : Option Addr) (n cap : Nat) (zs : List Int) (wd2 hg2 : Int) (b : Option Addr) (m cap2 : Nat) (ys : List Int) (s : Int) (w : World) (h : IntsAt w a n cap zs) (h2 : IntsAt w b m cap2 ys) :
    Calls Tryd.prog 31 #[picV wd hg a n cap, picV wd2 hg2 b m cap2, .int .i64 s] w fun e w' => ∃ c k cc, e = .returned (.tuple #[codV false (menX wd hg zs wd2 hg2 ys s) (menY wd hg zs wd2 hg2 ys s) c k cc, errv (movE wd hg zs wd2 hg2 ys s)]) ∧ IntsAt w' c k cc (menR wd hg zs wd2 hg2 ys s) ∧ Lat w w' := by
  refine (mencode_tot wd hg a n cap zs wd2 hg2 b m cap2 ys s w h h2).mono ?_
  rintro e w' ⟨x, y, c, k, cc, L, rfl, hat, h0, h1, _, hb⟩
  unfold menR menX menY
  by_cases he : movE wd hg zs wd2 hg2 ys s = 0
  · obtain ⟨_, _, _, rfl, rfl, rfl, rfl⟩ := h0 he
    rw [if_pos he, if_pos he, if_pos he]
    exact ⟨c, k, cc, rfl, by rw [h.len]; exact hat, hb⟩
  · obtain ⟨rfl, rfl, rfl, rfl⟩ := h1 he
    rw [if_neg he, if_neg he, if_neg he]
    exact ⟨c, 0, cc, rfl, hat, hb⟩
theorem refMoved_same (wd hg : Int) (a : Option Addr) (n cap : Nat) (zs : List Int) (wd2 hg2 : Int) (b : Option Addr) (m cap2 : Nat) (ys : List Int) (s : Int) (w : World) (h : IntsAt w a n cap zs) (h2 : IntsAt w b m cap2 ys) (he : movE wd hg zs wd2 hg2 ys s = 0) :
    Calls Tryd.prog 35 #[picV wd hg a n cap, picV wd2 hg2 b m cap2, .int .i64 s] w fun e w' => ∃ c k cc, e = .returned (codV false (menX wd hg zs wd2 hg2 ys s) (menY wd hg zs wd2 hg2 ys s) c k cc) ∧ IntsAt w' c k cc (menR wd hg zs wd2 hg2 ys s) ∧ Fresh w c k ∧ Lat w w' := by
  have he0 := he
  obtain ⟨ha, _, _⟩ := movE_zero he
  obtain ⟨ka, kb, rfl, rfl⟩ := alkE_zero.1 ha
  have oa := chkPic_ok ka
  have ob := chkPic_ok kb
  obtain ⟨wd, rfl⟩ := Int.eq_ofNat_of_zero_le (show 0 ≤ wd by have := oa.w1; omega)
  obtain ⟨hg, rfl⟩ := Int.eq_ofNat_of_zero_le (show 0 ≤ hg by have := oa.h1; omega)
  have hmn : m = n := by have := oa.len; have := ob.len; have := h.len; have := h2.len; omega
  subst hmn
  unfold menR menX menY
  rw [if_pos he0, if_pos he0, if_pos he0]
  refine (refMoved wd hg a m cap zs b cap2 ys s w h h2 he (bI wd hg zs ys) rfl).mono ?_
  rintro e w' ⟨c, cc, rfl, hat, hf, hb⟩
  exact ⟨c, m, cc, rfl, by unfold shI; rw [h.len]; exact hat, hf, hb⟩
theorem refBest_same (wd hg : Int) (a : Option Addr) (n cap : Nat) (zs : List Int) (wd2 hg2 : Int) (b : Option Addr) (m cap2 : Nat) (ys : List Int) (w : World) (h : IntsAt w a n cap zs) (h2 : IntsAt w b m cap2 ys) (he : alkE wd hg zs wd2 hg2 ys = 0) :
    Calls Tryd.prog 34 #[picV wd hg a n cap, picV wd2 hg2 b m cap2] w fun e w' => e = .returned (.agg #[.int .i64 (bX wd hg zs wd2 hg2 ys), .int .i64 (bY wd hg zs wd2 hg2 ys)]) ∧ Lat w w' := by
  have he0 := he
  obtain ⟨ka, kb, rfl, rfl⟩ := alkE_zero.1 he
  have oa := chkPic_ok ka
  have ob := chkPic_ok kb
  obtain ⟨wd, rfl⟩ := Int.eq_ofNat_of_zero_le (show 0 ≤ wd by have := oa.w1; omega)
  obtain ⟨hg, rfl⟩ := Int.eq_ofNat_of_zero_le (show 0 ≤ hg by have := oa.h1; omega)
  have hmn : m = n := by have := oa.len; have := ob.len; have := h.len; have := h2.len; omega
  subst hmn
  have hn : wd * hg = m := by
    have := oa.len
    rw [h.len, ← Int.natCast_mul] at this
    omega
  unfold bX bY
  rw [if_pos he0, if_pos he0]
  exact refBest wd hg a m cap zs b cap2 ys w h h2 hn (by have := oa.w1; omega) (by have := oa.w6; omega) (by have := oa.h1; omega) (by have := oa.h6; omega) oa.pix ob.pix

set_option maxHeartbeats 8000000 in
set_option maxRecDepth 100000 in
theorem walk_movedTells (d0 g0 : Int) (a0 : Option Addr) (n0 c0 : Nat) (z0 : List Int) (d1 g1 : Int) (a1 : Option Addr) (n1 c1 : Nat) (z1 : List Int) (s : Int) (al : Bool) (x y : Int) (a3 : Option Addr) (n3 c3 : Nat) (z3 : List Int) (w : World) (hg : Hnd w)
    (h0 : PicAt w d0 g0 a0 n0 c0 z0) (h1 : PicAt w d1 g1 a1 n1 c1 z1) (_ : (Lit.int .i64 s).wf = true) (h3 : CodAt w x y a3 n3 c3 z3) :
    Calls Tryd.prog 6 #[picV d0 g0 a0 n0 c0, picV d1 g1 a1 n1 c1, .int .i64 s, codV al x y a3 n3 c3] w fun e w' => e = .returned (.bool true) ∧ Lat w w' := by
  obtain ⟨W0, hW0⟩ : ∃ W, W = (((w.alloc (.cells #[.int .i64 d0, .int .i64 g0, .slice a0 n0 c0] 24)).alloc (.cells #[.int .i64 d1, .int .i64 g1, .slice a1 n1 c1] 24)).alloc (.cells #[.bool al, .int .i64 x, .int .i64 y, .slice a3 n3 c3] 53)) := ⟨_, rfl⟩
  have ha := tw_open w d0 g0 a0 n0 c0 d1 g1 a1 n1 c1 al x y a3 n3 c3
  rw [← hW0] at ha
  obtain ⟨E, hE⟩ : ∃ E, E = alkE d0 g0 z0 d1 g1 z1 := ⟨_, rfl⟩
  obtain ⟨E1, hE1⟩ : ∃ E, E = movE d0 g0 z0 d1 g1 z1 s := ⟨_, rfl⟩
  obtain ⟨E2, hE2⟩ : ∃ E, E = behE d0 g0 z0 al x y z3 s := ⟨_, rfl⟩
  obtain ⟨X1, hX1⟩ : ∃ X, X = bX d0 g0 z0 d1 g1 z1 := ⟨_, rfl⟩
  obtain ⟨Y1, hY1⟩ : ∃ X, X = bY d0 g0 z0 d1 g1 z1 := ⟨_, rfl⟩
  obtain ⟨X2, hX2⟩ : ∃ X, X = menX d0 g0 z0 d1 g1 z1 s := ⟨_, rfl⟩
  obtain ⟨Y2, hY2⟩ : ∃ X, X = menY d0 g0 z0 d1 g1 z1 s := ⟨_, rfl⟩
  obtain ⟨R2, hR2⟩ : ∃ X, X = menR d0 g0 z0 d1 g1 z1 s := ⟨_, rfl⟩
  obtain ⟨D3, hD3⟩ : ∃ X, X = behD d0 g0 z0 al x y z3 s := ⟨_, rfl⟩
  obtain ⟨G3, hG3⟩ : ∃ X, X = behG d0 g0 z0 al x y z3 s := ⟨_, rfl⟩
  obtain ⟨R3, hR3⟩ : ∃ X, X = behR d0 g0 z0 al x y z3 s := ⟨_, rfl⟩
  have k1 : ∀ W, Lat w W → _ := fun W hW => refTwo d0 g0 a0 n0 c0 z0 d1 g1 a1 n1 c1 z1 W (h0.pix.keep hW) (h1.pix.keep hW)
  have k2 : ∀ W, Lat w W → E = 0 → _ := fun W hW he => refBest_same d0 g0 a0 n0 c0 z0 d1 g1 a1 n1 c1 z1 W (h0.pix.keep hW) (h1.pix.keep hW) (by rw [← hE]; exact he)
  have k3 : ∀ W, Lat w W → _ := fun W hW => mbest_tot d0 g0 a0 n0 c0 z0 d1 g1 a1 n1 c1 z1 W (h0.pix.keep hW) (h1.pix.keep hW)
  have k4 : ∀ W, Lat w W → E1 = 0 → _ := fun W hW he => refMoved_same d0 g0 a0 n0 c0 z0 d1 g1 a1 n1 c1 z1 s W (h0.pix.keep hW) (h1.pix.keep hW) (by rw [← hE1]; exact he)
  have k5 : ∀ W, Lat w W → _ := fun W hW => mencode_same d0 g0 a0 n0 c0 z0 d1 g1 a1 n1 c1 z1 s W (h0.pix.keep hW) (h1.pix.keep hW)
  have k6 : ∀ W, Lat w W → _ := fun W hW => refBehind_tot d0 g0 a0 n0 c0 z0 al x y a3 n3 c3 z3 s W (h0.pix.keep hW) (h3.pix.keep hW)
  have k7 : ∀ W, Lat w W → _ := fun W hW => mdecode_same d0 g0 a0 n0 c0 z0 al x y a3 n3 c3 z3 s W (h0.pix.keep hW) (h3.pix.keep hW)
  simp only [← hE, ← hE1, ← hE2, ← hX1, ← hY1, ← hX2, ← hY2, ← hR2, ← hD3, ← hG3, ← hR3] at k1 k2 k3 k4 k5 k6 k7
  have he1 : E1 = if E ≠ 0 then E else if stepB s = false then 1 else 0 := by rw [hE1, hE]; rfl
  have HE1 := Lib.hid he1
  have hr2 : E1 ≠ 0 → X2 = 0 ∧ Y2 = 0 ∧ R2 = [] := fun q => by
    rw [hX2, hY2, hR2]; unfold menX menY menR; rw [← hE1, if_neg q, if_neg q, if_neg q]; exact ⟨rfl, rfl, rfl⟩
  have hx1 : E ≠ 0 → X1 = 0 ∧ Y1 = 0 := fun q => by
    rw [hX1, hY1]; unfold bX bY; rw [← hE, if_neg q, if_neg q]; exact ⟨rfl, rfl⟩
  have HR2 := Lib.hid hr2
  have HX1 := Lib.hid hx1
  have K1 := Lib.hid k1
  have K2 := Lib.hid k2
  have K3 := Lib.hid k3
  have K4 := Lib.hid k4
  have K5 := Lib.hid k5
  have K6 := Lib.hid k6
  have K7 := Lib.hid k7
  have HA := Lib.hid ha
  have HG := Lib.hid hg
  clear h0 h1 h3 hg ha hE hE1 hE2 hX1 hY1 hX2 hY2 hR2 hD3 hG3 hR3 k1 k2 k3 k4 k5 k6 k7 he1 hr2 hx1
  go_enter Tryd.func6, Tryd.ntmps6
  go_upto_region 1 with fail
  rw [← hW0]
  clear hW0
  have p0 : W0.cell? ⟨w.heap.size, 0, none⟩ = _ := HA.out.p.c0
  have p1 : W0.cell? ⟨w.heap.size, 1, none⟩ = _ := HA.out.p.c1
  have p2 : W0.cell? ⟨w.heap.size, 2, none⟩ = _ := HA.out.p.c2
  have q0 : W0.cell? ⟨w.heap.size + 1, 0, none⟩ = _ := HA.out.q.c0
  have q1 : W0.cell? ⟨w.heap.size + 1, 1, none⟩ = _ := HA.out.q.c1
  have q2 : W0.cell? ⟨w.heap.size + 1, 2, none⟩ = _ := HA.out.q.c2
  go_wp2_with fail
  refine (K1.out _ HA.out.lat).mono ?_
  rintro e w1 ⟨rfl, hb1⟩
  clear p0 p1 p2 q0 q1 q2
  have HA1 := Lib.hid (HA.out.keep hb1)
  clear hb1 HA
  obtain ⟨W1, hW1⟩ : ∃ W, W = w1.alloc (.cells #[.int .i64 0, .int .i64 0] 44) := ⟨_, rfl⟩
  have hl1 : Lat w1 W1 := by rw [hW1]; exact Lat.alloc _ _
  have HA2 := Lib.hid (HA1.out.keep hl1)
  have m0 : W1.cell? ⟨w1.heap.size, 0, none⟩ = some (.int .i64 0) := by rw [hW1]; exact cell_new rfl rfl
  have m1 : W1.cell? ⟨w1.heap.size, 1, none⟩ = some (.int .i64 0) := by rw [hW1]; exact cell_new rfl rfl
  have f0 : W1.frozen? ⟨w1.heap.size, 0, none⟩ = false := by rw [hW1]; exact free_new rfl
  have f1 : W1.frozen? ⟨w1.heap.size, 1, none⟩ = false := by rw [hW1]; exact free_new rfl
  have LM : w1.heap.size < W1.heap.size := World.block_lt_of_cell? _ _ m0
  go_upto_if 24 with fail
  rw [← hW1]
  clear hW1 hl1
  go_cut [24] (fun _ wx => Hid (TW w wx d0 g0 a0 n0 c0 d1 g1 a1 n1 c1 al x y a3 n3 c3 ∧ wx.cell? ⟨w1.heap.size, 0, none⟩ = some (.int .i64 X1) ∧ wx.cell? ⟨w1.heap.size, 1, none⟩ = some (.int .i64 Y1) ∧ Lat w wx))
  case first =>
    by_cases he : E = 0
    · have d1' : ((E : Int) == 0) = true := by rw [beq_iff_eq]; omega
      have p0 : W1.cell? ⟨w.heap.size, 0, none⟩ = _ := HA2.out.p.c0
      have p1 : W1.cell? ⟨w.heap.size, 1, none⟩ = _ := HA2.out.p.c1
      have p2 : W1.cell? ⟨w.heap.size, 2, none⟩ = _ := HA2.out.p.c2
      have q0 : W1.cell? ⟨w.heap.size + 1, 0, none⟩ = _ := HA2.out.q.c0
      have q1 : W1.cell? ⟨w.heap.size + 1, 1, none⟩ = _ := HA2.out.q.c1
      have q2 : W1.cell? ⟨w.heap.size + 1, 2, none⟩ = _ := HA2.out.q.c2
      have hk := K2.out W1 HA2.out.lat he
      have HK := Lib.hid hk
      clear he hk
      go_wp2_with fail
      refine HK.out.mono ?_
      rintro e w2 ⟨rfl, hb2⟩
      have n0' := hb2.cell_at m0
      have n1' := hb2.cell_at m1
      have g0' := hb2.free_at LM f0
      have g1' := hb2.free_at LM f1
      have Q := two_set n0' n1' (.int .i64 X1) (.int .i64 Y1)
      have hs := HA2.out.keep hb2
      have l1 : w.heap.size + 1 + 1 < w1.heap.size := HA1.out.sz
      have hs2 : TW w ((w2.setCell ⟨w1.heap.size, 0, none⟩ (.int .i64 X1)).setCell ⟨w1.heap.size, 1, none⟩ (.int .i64 Y1)) d0 g0 a0 n0 c0 d1 g1 a1 n1 c1 al x y a3 n3 c3 :=
        ⟨lat_two hs.lat (by omega) _ _, ⟨cell_two hs.p.c0 (by omega), cell_two hs.p.c1 (by omega), cell_two hs.p.c2 (by omega)⟩, ⟨cell_two hs.q.c0 (by omega), cell_two hs.q.c1 (by omega), cell_two hs.q.c2 (by omega)⟩, ⟨cell_two hs.r.c0 (by omega), cell_two hs.r.c1 (by omega), cell_two hs.r.c2 (by omega), cell_two hs.r.c3 (by omega)⟩, by simp [World.setCell]; exact hs.sz⟩
      have HQ := Lib.hid Q
      have HS2 := Lib.hid hs2
      clear Q hs hs2 hb2 p0 p1 p2 q0 q1 q2 m0 m1 f0 f1
      go_wp2_with fail
      go_meet
      case rel => exact ⟨HS2.out, HQ.out.1, HQ.out.2, HS2.out.lat⟩
    · have d1' : ((E : Int) == 0) = false := by rw [beq_eq_false_iff_ne]; omega
      obtain ⟨rfl, rfl⟩ := HX1.out he
      clear he
      go_wp2_with fail
      go_meet
      case rel => exact ⟨HA2.out, m0, m1, HA2.out.lat⟩
  case rest =>
  obtain ⟨hc1, hc2, hc3, _⟩ := hcut.out
  have HC1 := Lib.hid hc1
  have HC2 := Lib.hid hc2
  have HC3 := Lib.hid hc3
  have LM2 : w1.heap.size < wc.heap.size := World.block_lt_of_cell? _ _ hc2
  clear hcut hc1 hc2 hc3 m0 m1 f0 f1 LM HA1 HA2 HX1 K1 K2
  generalize wc = w3 at *
  have p0 : w3.cell? ⟨w.heap.size, 0, none⟩ = _ := HC1.out.p.c0
  have p1 : w3.cell? ⟨w.heap.size, 1, none⟩ = _ := HC1.out.p.c1
  have p2 : w3.cell? ⟨w.heap.size, 2, none⟩ = _ := HC1.out.p.c2
  have q0 : w3.cell? ⟨w.heap.size + 1, 0, none⟩ = _ := HC1.out.q.c0
  have q1 : w3.cell? ⟨w.heap.size + 1, 1, none⟩ = _ := HC1.out.q.c1
  have q2 : w3.cell? ⟨w.heap.size + 1, 2, none⟩ = _ := HC1.out.q.c2
  go_wp2_with fail
  refine (K3.out _ HC1.out.lat).mono ?_
  rintro e w4 ⟨rfl, hb4⟩
  clear p0 p1 p2 q0 q1 q2
  have hl4 := Lat.alloc w4 (.cells #[.int .i64 X1, .int .i64 Y1] 44)
  have HA4 := Lib.hid (HC1.out.keep (Lat.trans hb4 hl4))
  have M0 := Lib.hid ((Lat.trans hb4 hl4).cell_at HC2.out)
  have M1 := Lib.hid ((Lat.trans hb4 hl4).cell_at HC3.out)
  have LM4 : w1.heap.size < w4.heap.size := Nat.lt_of_lt_of_le LM2 hb4.size
  clear hb4 hl4 HC1 HC2 HC3 K3
  go_wp2_with fail
  refine (sameErr_any E _ (HG.out.keep HA4.out.lat)).mono ?_
  rintro e w5 ⟨rfl, hb5⟩
  have HA5 := Lib.hid (HA4.out.keep hb5)
  have m0 := hb5.cell_at M0.out
  have m1 := hb5.cell_at M1.out
  have v0 : w5.cell? ⟨w4.heap.size, 0, none⟩ = some (.int .i64 X1) := hb5.cell_at (cell_new rfl rfl)
  have v1 : w5.cell? ⟨w4.heap.size, 1, none⟩ = some (.int .i64 Y1) := hb5.cell_at (cell_new rfl rfl)
  clear hb5 HA4 M0 M1
  obtain ⟨TT, hTT⟩ : ∃ b : Bool, b = decide (E = 0 ∧ stepB s = false) := ⟨_, rfl⟩
  have HTT := Lib.hid hTT
  clear hTT
  go_upto_region 7 with fail
  go_cut [51] (fun c wx => c = .bool TT ∧ w5 = wx)
  case first =>
    by_cases he : E = 0
    case neg =>
      have d1' : ((E : Int) == 0) = false := by rw [beq_eq_false_iff_ne]; omega
      have hT : TT = false := by rw [HTT.out]; exact decide_eq_false (fun h => he h.1)
      have HT := Lib.hid hT
      clear he hT
      go_wp2_with fail
      go_meet
      case rel => exact ⟨by rw [HT.out], rfl⟩
    have d1' : ((E : Int) == 0) = true := by rw [beq_iff_eq]; omega
    have hd : (decide (s < 1) = true ∧ TT = true) ∨ (decide (s < 1) = false ∧ decide (64 < s) = true ∧ TT = true) ∨ (decide (s < 1) = false ∧ decide (64 < s) = false ∧ TT = false) := by
      have hT := HTT.out
      by_cases p1 : s < 1
      · exact .inl ⟨decide_eq_true p1, by rw [hT]; exact decide_eq_true ⟨he, by simp [stepB]; omega⟩⟩
      by_cases p2 : 64 < s
      · exact .inr (.inl ⟨decide_eq_false p1, decide_eq_true p2, by rw [hT]; exact decide_eq_true ⟨he, by simp [stepB]; omega⟩⟩)
      · exact .inr (.inr ⟨decide_eq_false p1, decide_eq_false p2, by rw [hT]; exact decide_eq_false (fun h => by have := h.2; simp [stepB] at this; omega)⟩)
    clear he
    rcases hd with ⟨b1, b2⟩ | ⟨b1, b2, b3⟩ | ⟨b1, b2, b3⟩
    · have HT := Lib.hid b2
      clear b2
      go_wp2_with fail
      go_meet
      case rel => exact ⟨by rw [HT.out], rfl⟩
    all_goals
      have HT := Lib.hid b3
      clear b3
      go_wp2_with fail
      go_meet
      case rel => exact ⟨by rw [HT.out], rfl⟩
  case rest =>
  obtain ⟨rfl, rfl⟩ := hcut
  go_upto_if 51 with fail
  go_cut [9] (fun f wx => f = .int .i64 E1 ∧ w5 = wx)
  case first =>
    cases TT with
    | true =>
      have hq := of_decide_eq_true HTT.out.symm
      have e1 : E1 = 1 := by rw [HE1.out, if_neg (by omega), if_pos hq.2]
      have EE := Lib.hid e1
      clear hq e1
      go_wp2_with fail
      go_meet
      case rel => exact ⟨by rw [EE.out]; rfl, rfl⟩
    | false =>
      have hq := of_decide_eq_false HTT.out.symm
      have e1 : E1 = E := by
        rw [HE1.out]
        by_cases h : E = 0
        · rw [if_neg (by omega), if_neg (fun h2 => hq ⟨h, h2⟩)]; exact h.symm
        · rw [if_pos h]
      have EE := Lib.hid e1
      clear hq e1
      go_wp2_with fail
      go_meet
      case rel => exact ⟨by rw [EE.out], rfl⟩
  case rest =>
  obtain ⟨rfl, rfl⟩ := hcut
  clear HTT HE1 m0 m1 v0 v1 LM2 LM4
  obtain ⟨W6, hW6⟩ : ∃ W, W = w5.alloc (.cells #[.bool false, .int .i64 0, .int .i64 0, .slice none 0 0] 53) := ⟨_, rfl⟩
  have hl6 : Lat w5 W6 := by rw [hW6]; exact Lat.alloc _ _
  have HA6 := Lib.hid (HA5.out.keep hl6)
  have hC6 : Cells4 W6 w5.heap.size (.bool false) (.int .i64 0) (.int .i64 0) (.slice none 0 0) := by rw [hW6]; exact cells4_new rfl rfl rfl rfl rfl
  have hf6 : ∀ k, W6.frozen? ⟨w5.heap.size, k, none⟩ = false := fun k => by rw [hW6]; exact free_new rfl
  have LC : w5.heap.size < W6.heap.size := World.block_lt_of_cell? _ _ hC6.c0
  have HC6 := Lib.hid hC6
  have HF6 := Lib.hid hf6
  clear hC6 hf6
  go_upto_if 53 with fail
  rw [← hW6]
  clear hW6 hl6
  go_cut [53] (fun _ wx => Hid (TW w wx d0 g0 a0 n0 c0 d1 g1 a1 n1 c1 al x y a3 n3 c3 ∧ ∃ c k cc, Cells4 wx w5.heap.size (.bool false) (.int .i64 X2) (.int .i64 Y2) (.slice c k cc) ∧ IntsAt wx c k cc R2))
  case first =>
    by_cases he : E1 = 0
    · have d1' : ((E1 : Int) == 0) = true := by rw [beq_iff_eq]; omega
      have p0 : W6.cell? ⟨w.heap.size, 0, none⟩ = _ := HA6.out.p.c0
      have p1 : W6.cell? ⟨w.heap.size, 1, none⟩ = _ := HA6.out.p.c1
      have p2 : W6.cell? ⟨w.heap.size, 2, none⟩ = _ := HA6.out.p.c2
      have q0 : W6.cell? ⟨w.heap.size + 1, 0, none⟩ = _ := HA6.out.q.c0
      have q1 : W6.cell? ⟨w.heap.size + 1, 1, none⟩ = _ := HA6.out.q.c1
      have q2 : W6.cell? ⟨w.heap.size + 1, 2, none⟩ = _ := HA6.out.q.c2
      have hk := K4.out W6 HA6.out.lat he
      have HK := Lib.hid hk
      clear he hk
      go_wp2_with fail
      refine HK.out.mono ?_
      rintro e w7 ⟨c, k, cc, rfl, hat, hfr, hb7⟩
      have hC7 := HC6.out.keep hb7
      have n0' := hC7.c0
      have n1' := hC7.c1
      have n2' := hC7.c2
      have n3' := hC7.c3
      have g0' := hb7.free_at LC (HF6.out 0)
      have g1' := hb7.free_at LC (HF6.out 1)
      have g2' := hb7.free_at LC (HF6.out 2)
      have g3' := hb7.free_at LC (HF6.out 3)
      have hs := HA6.out.keep hb7
      have l1 : w.heap.size + 1 + 1 < w5.heap.size := HA5.out.sz
      have hs2 : TW w (four w7 w5.heap.size (.bool false) (.int .i64 X2) (.int .i64 Y2) (.slice c k cc)) d0 g0 a0 n0 c0 d1 g1 a1 n1 c1 al x y a3 n3 c3 :=
        ⟨lat_four hs.lat (by omega) _ _ _ _, ⟨cellFour hs.p.c0 (by omega), cellFour hs.p.c1 (by omega), cellFour hs.p.c2 (by omega)⟩, ⟨cellFour hs.q.c0 (by omega), cellFour hs.q.c1 (by omega), cellFour hs.q.c2 (by omega)⟩, ⟨cellFour hs.r.c0 (by omega), cellFour hs.r.c1 (by omega), cellFour hs.r.c2 (by omega), cellFour hs.r.c3 (by omega)⟩, by simp [four, World.setCell]; exact hs.sz⟩
      have Q := four_set hC7 (.bool false) (.int .i64 X2) (.int .i64 Y2) (.slice c k cc)
      have hat2 := ints_four (g := w5.heap.size) hat (hfr _ LC) (.bool false) (.int .i64 X2) (.int .i64 Y2) (.slice c k cc)
      unfold four at hs2 Q hat2
      have HQ := Lib.hid Q
      have HS2 := Lib.hid hs2
      have HAT2 := Lib.hid hat2
      clear Q hs hs2 hat hat2 hfr hb7 hC7 p0 p1 p2 q0 q1 q2
      go_wp2_with fail
      go_meet
      case rel => exact ⟨HS2.out, c, k, cc, HQ.out, HAT2.out⟩
    · have d1' : ((E1 : Int) == 0) = false := by rw [beq_eq_false_iff_ne]; omega
      obtain ⟨rfl, rfl, rfl⟩ := HR2.out he
      clear he
      go_wp2_with fail
      go_meet
      case rel => exact ⟨HA6.out, none, 0, 0, HC6.out, IntsAt.nil _⟩
  case rest =>
  obtain ⟨hc1, c, k, cc, hC, hat⟩ := hcut.out
  have HC1 := Lib.hid hc1
  have HCC := Lib.hid hC
  have HAT := Lib.hid hat
  have LMC : w5.heap.size < wc.heap.size := World.block_lt_of_cell? _ _ hC.c0
  clear hcut hc1 hC hat LC HC6 HF6 HA6 HA5 K4 HR2
  generalize wc = w8 at *
  have p0 : w8.cell? ⟨w.heap.size, 0, none⟩ = _ := HC1.out.p.c0
  have p1 : w8.cell? ⟨w.heap.size, 1, none⟩ = _ := HC1.out.p.c1
  have p2 : w8.cell? ⟨w.heap.size, 2, none⟩ = _ := HC1.out.p.c2
  have q0 : w8.cell? ⟨w.heap.size + 1, 0, none⟩ = _ := HC1.out.q.c0
  have q1 : w8.cell? ⟨w.heap.size + 1, 1, none⟩ = _ := HC1.out.q.c1
  have q2 : w8.cell? ⟨w.heap.size + 1, 2, none⟩ = _ := HC1.out.q.c2
  go_wp2_with fail
  refine (K5.out _ HC1.out.lat).mono ?_
  rintro e w9 ⟨c', k', cc', rfl, hat', hb9⟩
  clear p0 p1 p2 q0 q1 q2
  have hl9 := Lat.alloc w9 (.cells #[.bool false, .int .i64 X2, .int .i64 Y2, .slice c' k' cc'] 53)
  have HA9 := Lib.hid (HC1.out.keep (Lat.trans hb9 hl9))
  have C9 := Lib.hid (HCC.out.keep (Lat.trans hb9 hl9))
  have AT9 := Lib.hid (HAT.out.keep (Lat.trans hb9 hl9))
  have AT9b := Lib.hid (hat'.keep hl9)
  have LM9 : w5.heap.size < w9.heap.size := Nat.lt_of_lt_of_le LMC hb9.size
  clear hat' hb9 hl9 HC1 HCC HAT K5
  go_wp2_with fail
  refine (sameErr_any E1 _ (HG.out.keep HA9.out.lat)).mono ?_
  rintro e w10 ⟨rfl, hb10⟩
  have HA10 := Lib.hid (HA9.out.keep hb10)
  have hC10 := C9.out.keep hb10
  have v0 : w10.cell? ⟨w9.heap.size, 0, none⟩ = some (.bool false) := hb10.cell_at (cell_new rfl rfl)
  have v1 : w10.cell? ⟨w9.heap.size, 1, none⟩ = some (.int .i64 X2) := hb10.cell_at (cell_new rfl rfl)
  have v2 : w10.cell? ⟨w9.heap.size, 2, none⟩ = some (.int .i64 Y2) := hb10.cell_at (cell_new rfl rfl)
  have v3 : w10.cell? ⟨w9.heap.size, 3, none⟩ = some (.slice c' k' cc') := hb10.cell_at (cell_new rfl rfl)
  have u0 := hC10.c0
  have u1 := hC10.c1
  have u2 := hC10.c2
  have u3 := hC10.c3
  have AT10 := Lib.hid (AT9.out.keep hb10)
  have AT10b := Lib.hid (AT9b.out.keep hb10)
  have hsc : sameC false X2 Y2 R2 false X2 Y2 R2 = true := decide_eq_true ⟨rfl, rfl, rfl, rfl⟩
  have HSC := Lib.hid hsc
  clear hb10 hC10 C9 AT9 AT9b HA9 hsc
  go_wp2_with fail
  refine (sameCod_any false X2 Y2 c' k' cc' R2 false X2 Y2 c k cc R2 _ AT10b.out AT10.out).mono ?_
  rw [HSC.out]
  rintro e w11 ⟨rfl, hb11⟩
  have HA11 := Lib.hid (HA10.out.keep hb11)
  clear hb11 HA10 v0 v1 v2 v3 u0 u1 u2 u3
  have p0 : w11.cell? ⟨w.heap.size, 0, none⟩ = _ := HA11.out.p.c0
  have p1 : w11.cell? ⟨w.heap.size, 1, none⟩ = _ := HA11.out.p.c1
  have p2 : w11.cell? ⟨w.heap.size, 2, none⟩ = _ := HA11.out.p.c2
  have r0 : w11.cell? ⟨w.heap.size + 1 + 1, 0, none⟩ = _ := HA11.out.r.c0
  have r1 : w11.cell? ⟨w.heap.size + 1 + 1, 1, none⟩ = _ := HA11.out.r.c1
  have r2 : w11.cell? ⟨w.heap.size + 1 + 1, 2, none⟩ = _ := HA11.out.r.c2
  have r3 : w11.cell? ⟨w.heap.size + 1 + 1, 3, none⟩ = _ := HA11.out.r.c3
  go_wp2_with fail
  refine (K6.out _ HA11.out.lat).mono ?_
  rintro e w12 ⟨b1, m1, e1, rfl, hq1, hb12⟩
  clear p0 p1 p2 r0 r1 r2 r3
  have hl12 := Lat.alloc w12 (.cells #[.int .i64 D3, .int .i64 G3, .slice b1 m1 e1] 24)
  have HA12 := Lib.hid (HA11.out.keep (Lat.trans hb12 hl12))
  have Q12 := Lib.hid (hq1.keep hl12)
  have hlt12 : w.heap.size + 1 + 1 < w12.heap.size := Nat.lt_of_lt_of_le HA11.out.sz hb12.size
  clear hq1 hb12 hl12 HA11
  have p0 : (w12.alloc (.cells #[.int .i64 D3, .int .i64 G3, .slice b1 m1 e1] 24)).cell? ⟨w.heap.size, 0, none⟩ = _ := HA12.out.p.c0
  have p1 : (w12.alloc (.cells #[.int .i64 D3, .int .i64 G3, .slice b1 m1 e1] 24)).cell? ⟨w.heap.size, 1, none⟩ = _ := HA12.out.p.c1
  have p2 : (w12.alloc (.cells #[.int .i64 D3, .int .i64 G3, .slice b1 m1 e1] 24)).cell? ⟨w.heap.size, 2, none⟩ = _ := HA12.out.p.c2
  have r0 : (w12.alloc (.cells #[.int .i64 D3, .int .i64 G3, .slice b1 m1 e1] 24)).cell? ⟨w.heap.size + 1 + 1, 0, none⟩ = _ := HA12.out.r.c0
  have r1 : (w12.alloc (.cells #[.int .i64 D3, .int .i64 G3, .slice b1 m1 e1] 24)).cell? ⟨w.heap.size + 1 + 1, 1, none⟩ = _ := HA12.out.r.c1
  have r2 : (w12.alloc (.cells #[.int .i64 D3, .int .i64 G3, .slice b1 m1 e1] 24)).cell? ⟨w.heap.size + 1 + 1, 2, none⟩ = _ := HA12.out.r.c2
  have r3 : (w12.alloc (.cells #[.int .i64 D3, .int .i64 G3, .slice b1 m1 e1] 24)).cell? ⟨w.heap.size + 1 + 1, 3, none⟩ = _ := HA12.out.r.c3
  go_wp2_with fail
  refine (K7.out _ HA12.out.lat).mono ?_
  rintro e w13 ⟨b2, m2, e2, rfl, hq2, hb13⟩
  clear p0 p1 p2 r0 r1 r2 r3
  have hl13 := Lat.alloc w13 (.cells #[.int .i64 D3, .int .i64 G3, .slice b2 m2 e2] 24)
  have HL13 := Lib.hid (Lat.trans HA12.out.lat (Lat.trans hb13 hl13))
  have Q13 := Lib.hid (Q12.out.keep (Lat.trans hb13 hl13))
  have Q13b := Lib.hid (hq2.keep hl13)
  have x0 := Lib.hid ((Lat.trans hb13 hl13).cell_at (cell_new rfl rfl : (w12.alloc (.cells #[.int .i64 D3, .int .i64 G3, .slice b1 m1 e1] 24)).cell? ⟨w12.heap.size, 0, none⟩ = some (.int .i64 D3)))
  have x1 := Lib.hid ((Lat.trans hb13 hl13).cell_at (cell_new rfl rfl : (w12.alloc (.cells #[.int .i64 D3, .int .i64 G3, .slice b1 m1 e1] 24)).cell? ⟨w12.heap.size, 1, none⟩ = some (.int .i64 G3)))
  have x2 := Lib.hid ((Lat.trans hb13 hl13).cell_at (cell_new rfl rfl : (w12.alloc (.cells #[.int .i64 D3, .int .i64 G3, .slice b1 m1 e1] 24)).cell? ⟨w12.heap.size, 2, none⟩ = some (.slice b1 m1 e1)))
  clear hq2 hb13 hl13 HA12 Q12
  go_wp2_with fail
  refine (sameErr_any E2 _ (HG.out.keep HL13.out)).mono ?_
  rintro e w14 ⟨rfl, hb14⟩
  have y0 := hb14.cell_at x0.out
  have y1 := hb14.cell_at x1.out
  have y2 := hb14.cell_at x2.out
  have z0 : w14.cell? ⟨w13.heap.size, 0, none⟩ = some (.int .i64 D3) := hb14.cell_at (cell_new rfl rfl)
  have z1 : w14.cell? ⟨w13.heap.size, 1, none⟩ = some (.int .i64 G3) := hb14.cell_at (cell_new rfl rfl)
  have z2 : w14.cell? ⟨w13.heap.size, 2, none⟩ = some (.slice b2 m2 e2) := hb14.cell_at (cell_new rfl rfl)
  have Q14 := Lib.hid (Q13.out.keep hb14)
  have Q14b := Lib.hid (Q13b.out.keep hb14)
  have HL14 := Lib.hid (Lat.trans HL13.out hb14)
  have hsp : sameP D3 G3 R3 D3 G3 R3 = true := decide_eq_true ⟨rfl, rfl, rfl⟩
  have HSP := Lib.hid hsp
  clear hb14 x0 x1 x2 Q13 Q13b hsp
  go_wp2_with fail
  refine (samePic_any D3 G3 b2 m2 e2 R3 D3 G3 b1 m1 e1 R3 _ Q14b.out Q14.out).mono ?_
  rw [HSP.out]
  rintro e w15 ⟨rfl, hb15⟩
  go_wp2
  go_ret
  exact ⟨rfl, Lat.trans HL14.out hb15⟩
end Go.Proofs.YtnnjijdpenifjaaDoor
