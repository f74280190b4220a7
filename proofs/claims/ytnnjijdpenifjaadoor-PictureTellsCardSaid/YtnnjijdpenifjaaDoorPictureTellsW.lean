/- The walk of PictureTells: it returns true, whatever it is asked. -/
import Derived.Test.YtnnjijdpenifjaaDoorRefShift
import Derived.Test.YtnnjijdpenifjaaDoorFlat
import Derived.Test.YtnnjijdpenifjaaDoorMovedC
import Derived.Test.YtnnjijdpenifjaaDoorOpenPic
import Derived.Test.YtnnjijdpenifjaaDoorSame
import Derived.Deep.DeepCutAuto
import Derived.Deep.CutBlock
namespace Go.Proofs.YtnnjijdpenifjaaDoor
open Go.ChangeShapes Go.WideShapes Go.ChangeAt Go.RowKit

structure PT (w W : World) (d0 g0 : Int) (a0 : Option Addr) (n0 c0 : Nat) (d1 g1 : Int) (a1 : Option Addr) (n1 c1 : Nat) (mx my : Int) : Prop where
  lat : Lat w W
  p : Cells3 W w.heap.size 0 (.int .i64 d0) (.int .i64 g0) (.slice a0 n0 c0)
  q : Cells3 W (w.heap.size + 1) 0 (.int .i64 d1) (.int .i64 g1) (.slice a1 n1 c1)
  m0 : W.cell? ⟨w.heap.size + 1 + 1, 0, none⟩ = some (.int .i64 mx)
  m1 : W.cell? ⟨w.heap.size + 1 + 1, 1, none⟩ = some (.int .i64 my)
  sz : w.heap.size + 1 + 1 < W.heap.size
section
variable {w W W' : World} {d0 g0 : Int} {a0 : Option Addr} {n0 c0 : Nat} {d1 g1 : Int} {a1 : Option Addr} {n1 c1 : Nat} {mx my : Int}
theorem PT.keep (h : PT w W d0 g0 a0 n0 c0 d1 g1 a1 n1 c1 mx my) (hb : Lat W W') : PT w W' d0 g0 a0 n0 c0 d1 g1 a1 n1 c1 mx my :=
  ⟨Lat.trans h.lat hb, h.p.keep hb, h.q.keep hb, hb.cell_at h.m0, hb.cell_at h.m1, Nat.lt_of_lt_of_le h.sz hb.size⟩
theorem cellThree {W : World} {b j g : Nat} {v x y z : Value} (h : W.cell? ⟨b, j, none⟩ = some v) (hne : b ≠ g) : (((W.setCell ⟨g, 0, none⟩ x).setCell ⟨g, 1, none⟩ y).setCell ⟨g, 2, none⟩ z).cell? ⟨b, j, none⟩ = some v := by
  have nn : ∀ k, (⟨g, k, none⟩ : Addr) ≠ ⟨b, j, none⟩ := fun k e => hne (by injection e with e _ _; exact e.symm)
  rw [World.cell?_setCell_other _ _ _ _ (nn 2), World.cell?_setCell_other _ _ _ _ (nn 1), World.cell?_setCell_other _ _ _ _ (nn 0)]; exact h
theorem PT.three (h : PT w W d0 g0 a0 n0 c0 d1 g1 a1 n1 c1 mx my) {g : Nat} (hg : w.heap.size + 1 + 1 < g) (x y z : Value) : PT w (((W.setCell ⟨g, 0, none⟩ x).setCell ⟨g, 1, none⟩ y).setCell ⟨g, 2, none⟩ z) d0 g0 a0 n0 c0 d1 g1 a1 n1 c1 mx my :=
  ⟨lat_three h.lat (by omega) _ _ _, ⟨cellThree h.p.c0 (by omega), cellThree h.p.c1 (by omega), cellThree h.p.c2 (by omega)⟩, ⟨cellThree h.q.c0 (by omega), cellThree h.q.c1 (by omega), cellThree h.q.c2 (by omega)⟩, cellThree h.m0 (by omega), cellThree h.m1 (by omega), by simp [World.setCell]; exact h.sz⟩
end
def shD (wd hg : Int) (zs : List Int) (mx my : Int) : Int := if shE wd hg zs mx my = 0 then wd else 0
def shG (wd hg : Int) (zs : List Int) (mx my : Int) : Int := if shE wd hg zs mx my = 0 then hg else 0
def shR (wd hg : Int) (zs : List Int) (mx my : Int) : List Int := if shE wd hg zs mx my = 0 then shI wd hg zs mx my else []
theorem shift_same (wd hg : Int) (a : Option Addr) (n cap : Nat) (zs : List Int) (mx my : Int) (w : World) (h : IntsAt w a n cap zs) :
    Calls Tryd.prog 26 #[picV wd hg a n cap, .agg #[.int .i64 mx, .int .i64 my]] w fun e w' => ∃ b m c, e = .returned (.tuple #[picV (shD wd hg zs mx my) (shG wd hg zs mx my) b m c, errv (shE wd hg zs mx my)]) ∧ IntsAt w' b m c (shR wd hg zs mx my) ∧ Lat w w' := by
  refine (shift_totF wd hg a n cap zs mx my w h).mono ?_
  rintro e w' ⟨d, g, b, m, c, L, rfl, hat, h0, h1, _, hb⟩
  unfold shD shG shR
  by_cases he : shE wd hg zs mx my = 0
  · obtain ⟨rfl, rfl, rfl, rfl⟩ := h0 he
    rw [if_pos he, if_pos he, if_pos he]
    exact ⟨b, m, c, rfl, by unfold shI; rw [h.len]; exact hat, hb⟩
  · obtain ⟨rfl, rfl, rfl, rfl⟩ := h1 he
    rw [if_neg he, if_neg he, if_neg he]
    exact ⟨b, 0, c, rfl, hat, hb⟩
theorem refShift_same (wd hg : Int) (a : Option Addr) (n cap : Nat) (zs : List Int) (mx my : Int) (w : World) (h : IntsAt w a n cap zs) (he : shE wd hg zs mx my = 0) :
    Calls Tryd.prog 25 #[picV wd hg a n cap, .agg #[.int .i64 mx, .int .i64 my]] w fun e w' => ∃ b m c, e = .returned (picV (shD wd hg zs mx my) (shG wd hg zs mx my) b m c) ∧ IntsAt w' b m c (shR wd hg zs mx my) ∧ Fresh w b m ∧ Lat w w' := by
  unfold shD shG shR
  rw [if_pos he, if_pos he, if_pos he]
  obtain ⟨hc, x1, x2, y1, y2⟩ := shE_zero he
  have oa := chkPic_ok hc
  obtain ⟨wd, rfl⟩ := Int.eq_ofNat_of_zero_le (show 0 ≤ wd by have := oa.w1; omega)
  obtain ⟨hg, rfl⟩ := Int.eq_ofNat_of_zero_le (show 0 ≤ hg by have := oa.h1; omega)
  have hn : wd * hg = n := by
    have := oa.len
    rw [h.len, ← Int.natCast_mul] at this
    omega
  refine (refShift wd hg a n cap zs mx my w h hn (by have := oa.w1; omega) (by have := oa.w6; omega) (by have := oa.h1; omega) (by have := oa.h6; omega) x1 x2 y1 y2 oa.pix).mono ?_
  rintro e w' ⟨va, vc, rfl, hat, hf, hb⟩
  exact ⟨va, n, vc, rfl, by unfold shI; rw [h.len]; exact hat, hf, hb⟩
def unlV (wd hg : Int) (zs : List Int) (wd2 hg2 : Int) (ys : List Int) : Int := if alkE wd hg zs wd2 hg2 ys = 0 then unl zs ys zs.length else 0
theorem unlike_same (wd hg : Int) (a : Option Addr) (n cap : Nat) (zs : List Int) (wd2 hg2 : Int) (b : Option Addr) (m cap2 : Nat) (ys : List Int) (w : World) (h : IntsAt w a n cap zs) (h2 : IntsAt w b m cap2 ys) :
    Calls Tryd.prog 29 #[picV wd hg a n cap, picV wd2 hg2 b m cap2] w fun e w' => e = .returned (.tuple #[.int .i64 (unlV wd hg zs wd2 hg2 ys), errv (alkE wd hg zs wd2 hg2 ys)]) ∧ Lat w w' := by
  unfold unlV
  by_cases he : alkE wd hg zs wd2 hg2 ys = 0
  · rw [if_pos he, he, errv_zero rfl, h.len]
    exact unlike_ok wd hg a n cap zs wd2 hg2 b m cap2 ys w h h2 he
  · rw [if_neg he, errv_pos he]
    exact unlike_bad wd hg a n cap zs wd2 hg2 b m cap2 ys w h h2 he
def flD (wd hg c : Int) : Int := if flE wd hg c = 0 then wd else 0
def flG (wd hg c : Int) : Int := if flE wd hg c = 0 then hg else 0
def flR (wd hg c : Int) : List Int := if flE wd hg c = 0 then List.replicate (wd * hg).toNat c else []
theorem flE_is {wd hg c : Int} (h : flE wd hg c ≠ 0) : flE wd hg c = 1 := by
  unfold flE at h ⊢
  split at h
  · rename_i h1; rw [if_pos h1]
  · omega
theorem flat_same (wd hg c : Int) (w : World) :
    Calls Tryd.prog 30 #[.int .i64 wd, .int .i64 hg, .int .i64 c] w fun e w' => ∃ b m cp, e = .returned (.tuple #[picV (flD wd hg c) (flG wd hg c) b m cp, errv (flE wd hg c)]) ∧ IntsAt w' b m cp (flR wd hg c) ∧ Fresh w b m ∧ Lat w w' := by
  unfold flD flG flR
  by_cases he : flE wd hg c = 0
  · have hz := flE_zero he
    have h0 : 0 ≤ wd * hg := Int.mul_nonneg (by omega) (by omega)
    rw [if_pos he, if_pos he, if_pos he, he, errv_zero rfl]
    refine (flat_okF wd hg c (wd * hg).toNat w he (by omega)).mono ?_
    rintro e w' ⟨b, cp, rfl, hat, hf, hb⟩
    exact ⟨b, _, cp, rfl, hat, hf, hb⟩
  · rw [if_neg he, if_neg he, if_neg he, errv_pos he, flE_is he]
    refine (flat_bad wd hg c w he).mono ?_
    rintro e w' ⟨rfl, hb⟩
    exact ⟨none, 0, 0, rfl, IntsAt.nil _, fun _ _ _ _ _ h => absurd rfl h, hb⟩

set_option maxHeartbeats 16000000 in
set_option maxRecDepth 100000 in
theorem walk_pictureTells (d0 g0 : Int) (a0 : Option Addr) (n0 c0 : Nat) (z0 : List Int) (d1 g1 : Int) (a1 : Option Addr) (n1 c1 : Nat) (z1 : List Int) (mx my wd hi n : Int) (w : World) (hg : Hnd w)
    (h0 : PicAt w d0 g0 a0 n0 c0 z0) (h1 : PicAt w d1 g1 a1 n1 c1 z1) (_ : MoveAt mx my) (_ : (Lit.int .i64 wd).wf = true) (_ : (Lit.int .i64 hi).wf = true) (hnw : (Lit.int .i64 n).wf = true) :
    Calls Tryd.prog 4 #[picV d0 g0 a0 n0 c0, picV d1 g1 a1 n1 c1, .agg #[.int .i64 mx, .int .i64 my], .int .i64 wd, .int .i64 hi, .int .i64 n] w fun e w' => e = .returned (.bool true) ∧ Lat w w' := by
  obtain ⟨W0, hW0⟩ : ∃ W, W = (((w.alloc (.cells #[.int .i64 d0, .int .i64 g0, .slice a0 n0 c0] 24)).alloc (.cells #[.int .i64 d1, .int .i64 g1, .slice a1 n1 c1] 24)).alloc (.cells #[.int .i64 mx, .int .i64 my] 44)) := ⟨_, rfl⟩
  have ha : PT w W0 d0 g0 a0 n0 c0 d1 g1 a1 n1 c1 mx my := by
    rw [hW0]
    have l1 := Lat.alloc w (.cells #[.int .i64 d0, .int .i64 g0, .slice a0 n0 c0] 24)
    have l2 := Lat.alloc (w.alloc (.cells #[.int .i64 d0, .int .i64 g0, .slice a0 n0 c0] 24)) (.cells #[.int .i64 d1, .int .i64 g1, .slice a1 n1 c1] 24)
    have l3 := Lat.alloc ((w.alloc (.cells #[.int .i64 d0, .int .i64 g0, .slice a0 n0 c0] 24)).alloc (.cells #[.int .i64 d1, .int .i64 g1, .slice a1 n1 c1] 24)) (.cells #[.int .i64 mx, .int .i64 my] 44)
    exact ⟨Lat.trans l1 (Lat.trans l2 l3), (cells3_new rfl rfl rfl rfl).keep (Lat.trans l2 l3), (cells3_new (by simp) rfl rfl rfl).keep l3, cell_new (by simp) rfl, cell_new (by simp) rfl, by simp⟩
  obtain ⟨E, hE⟩ : ∃ E, E = chkPic d0 g0 z0 := ⟨_, rfl⟩
  obtain ⟨E1, hE1⟩ : ∃ E, E = shE d0 g0 z0 mx my := ⟨_, rfl⟩
  obtain ⟨D1, hD1⟩ : ∃ E, E = shD d0 g0 z0 mx my := ⟨_, rfl⟩
  obtain ⟨G1, hG1⟩ : ∃ E, E = shG d0 g0 z0 mx my := ⟨_, rfl⟩
  obtain ⟨R1, hR1⟩ : ∃ E, E = shR d0 g0 z0 mx my := ⟨_, rfl⟩
  obtain ⟨E2, hE2⟩ : ∃ E, E = alkE d0 g0 z0 d1 g1 z1 := ⟨_, rfl⟩
  obtain ⟨U2, hU2⟩ : ∃ E, E = unlV d0 g0 z0 d1 g1 z1 := ⟨_, rfl⟩
  obtain ⟨E3, hE3⟩ : ∃ E, E = flE wd hi n := ⟨_, rfl⟩
  obtain ⟨D3, hD3⟩ : ∃ E, E = flD wd hi n := ⟨_, rfl⟩
  obtain ⟨G3, hG3⟩ : ∃ E, E = flG wd hi n := ⟨_, rfl⟩
  obtain ⟨R3, hR3⟩ : ∃ E, E = flR wd hi n := ⟨_, rfl⟩
  have k1 : ∀ W, Lat w W → _ := fun W hW => refPic d0 g0 a0 n0 c0 z0 W (h0.pix.keep hW)
  have k2 : ∀ W, Lat w W → _ := fun W hW => pchk_any d0 g0 a0 n0 c0 z0 W (h0.pix.keep hW)
  have k3 : ∀ W, Lat w W → E1 = 0 → _ := fun W hW he => refShift_same d0 g0 a0 n0 c0 z0 mx my W (h0.pix.keep hW) (by rw [← hE1]; exact he)
  have k4 : ∀ W, Lat w W → _ := fun W hW => shift_same d0 g0 a0 n0 c0 z0 mx my W (h0.pix.keep hW)
  have k5 : ∀ W, Lat w W → _ := fun W hW => refTwo d0 g0 a0 n0 c0 z0 d1 g1 a1 n1 c1 z1 W (h0.pix.keep hW) (h1.pix.keep hW)
  have k6 : ∀ W, Lat w W → _ := fun W hW => unlike_same d0 g0 a0 n0 c0 z0 d1 g1 a1 n1 c1 z1 W (h0.pix.keep hW) (h1.pix.keep hW)
  have k7 : ∀ W : World, _ := fun W => flat_same wd hi n W
  simp only [← hE, ← hE1, ← hD1, ← hG1, ← hR1, ← hE2, ← hU2, ← hE3, ← hD3, ← hG3, ← hR3] at k1 k2 k3 k4 k5 k6 k7
  have he1 : E1 = if E ≠ 0 then E else if mvB mx my = false then 1 else 0 := by rw [hE1, hE]; rfl
  have hr1 : E1 ≠ 0 → D1 = 0 ∧ G1 = 0 ∧ R1 = [] := fun q => by rw [hD1, hG1, hR1]; unfold shD shG shR; rw [← hE1, if_neg q, if_neg q, if_neg q]; exact ⟨rfl, rfl, rfl⟩
  have hu2 : U2 = if E2 = 0 then unl z0 z1 n0 else 0 := by rw [hU2, hE2, ← h0.pix.len]; rfl
  have hok2 : E2 = 0 → n1 = n0 ∧ n0 ≤ 36 ∧ (∀ z ∈ z0, 0 ≤ z ∧ z ≤ 255) ∧ ∀ z ∈ z1, 0 ≤ z ∧ z ≤ 255 := fun q => by
    rw [hE2] at q
    obtain ⟨ka, kb, e1, e2⟩ := alkE_zero.1 q
    have oa := chkPic_ok ka
    have ob := chkPic_ok kb
    have l0 := h0.pix.len
    have l1 := h1.pix.len
    refine ⟨?_, ?_, oa.pix, ob.pix⟩
    · have := oa.len; have := ob.len; rw [← e1, ← e2] at this; omega
    · have := oa.len_le; omega
  have HE1 := Lib.hid he1
  have HR1 := Lib.hid hr1
  have HU2 := Lib.hid hu2
  have HOK2 := Lib.hid hok2
  have HE3 := Lib.hid hE3
  have HD3 := Lib.hid hD3
  have HG3 := Lib.hid hG3
  have HR3 := Lib.hid hR3
  have IW0 := Lib.hid h0.pix
  have IW1 := Lib.hid h1.pix
  have hcap2 := h0.pix.row.cap
  have hle2 := h0.pix.row.le
  unfold maxLen at hcap2
  have NW := Lib.hid (wf_I64 hnw)
  have K1 := Lib.hid k1
  have K2 := Lib.hid k2
  have K3 := Lib.hid k3
  have K4 := Lib.hid k4
  have K5 := Lib.hid k5
  have K6 := Lib.hid k6
  have K7 := Lib.hid k7
  have HA := Lib.hid ha
  have HG := Lib.hid hg
  clear h0 h1 hnw hg ha hE hE1 hD1 hG1 hR1 hE2 hU2 hE3 hD3 hG3 hR3 k1 k2 k3 k4 k5 k6 k7 he1 hr1 hu2 hok2
  go_enter Tryd.func4, Tryd.ntmps4
  go_upto_region 1 with fail
  rw [← hW0]
  clear hW0
  have p0 : W0.cell? ⟨w.heap.size, 0, none⟩ = _ := HA.out.p.c0
  have p1 : W0.cell? ⟨w.heap.size, 1, none⟩ = _ := HA.out.p.c1
  have p2 : W0.cell? ⟨w.heap.size, 2, none⟩ = _ := HA.out.p.c2
  go_wp2_with fail
  refine (K1.out _ HA.out.lat).mono ?_
  rintro e w1 ⟨rfl, hb1⟩
  have HA1 := Lib.hid (HA.out.keep hb1)
  clear p0 p1 p2
  clear hb1 HA K1
  have p0 : w1.cell? ⟨w.heap.size, 0, none⟩ = _ := HA1.out.p.c0
  have p1 : w1.cell? ⟨w.heap.size, 1, none⟩ = _ := HA1.out.p.c1
  have p2 : w1.cell? ⟨w.heap.size, 2, none⟩ = _ := HA1.out.p.c2
  go_wp2_with fail
  refine (K2.out _ HA1.out.lat).mono ?_
  rintro e w2 ⟨rfl, hb2⟩
  have HA2 := Lib.hid (HA1.out.keep hb2)
  clear p0 p1 p2
  clear hb2 HA1 K2
  go_wp2_with fail
  refine (sameErr_any E _ (HG.out.keep HA2.out.lat)).mono ?_
  rintro e w3 ⟨rfl, hb3⟩
  have HA3 := Lib.hid (HA2.out.keep hb3)
  clear hb3 HA2
  obtain ⟨W4, hW4⟩ : ∃ W, W = w3.alloc (.cells #[.int .i64 0, .int .i64 0, .slice none 0 0] 24) := ⟨_, rfl⟩
  have hl4 : Lat w3 W4 := by rw [hW4]; exact Lat.alloc _ _
  have hc4 : Cells3 W4 w3.heap.size 0 (.int .i64 0) (.int .i64 0) (.slice none 0 0) := by rw [hW4]; exact cells3_new rfl rfl rfl rfl
  have hf4 : ∀ k, W4.frozen? ⟨w3.heap.size, k, none⟩ = false := fun k => by rw [hW4]; simp
  have HA4 := Lib.hid (HA3.out.keep hl4)
  have HC4 := Lib.hid hc4
  have HF4 := Lib.hid hf4
  have LW : w3.heap.size < W4.heap.size := World.block_lt_of_cell? _ _ hc4.c0
  have GW : w.heap.size + 1 + 1 < w3.heap.size := HA3.out.sz
  clear hl4 hc4 hf4 HA3
  go_upto_region 5 with fail
  rw [← hW4]
  clear hW4
  obtain ⟨TT, hTT⟩ : ∃ b : Bool, b = decide (E = 0 ∧ mvB mx my = false) := ⟨_, rfl⟩
  have HTT := Lib.hid hTT
  clear hTT
  go_cut [55] (fun c wx => c = .bool TT ∧ W4 = wx)
  case first =>
    by_cases he : E = 0
    case neg =>
      have d1' : ((E : Int) == 0) = false := by rw [beq_eq_false_iff_ne]; omega
      have hT : TT = false := by rw [HTT.out]; exact decide_eq_false (fun h => he h.1)
      have HT := Lib.hid hT
      clear he hT
      go_wp2_with fail
      go_meet
      case rel => exact ⟨by rw [HT.out], rfl⟩
    have d1' : ((E : Int) == 0) = true := by rw [beq_iff_eq]; omega
    have hd : (decide (mx < -6) = true ∧ TT = true) ∨ (decide (mx < -6) = false ∧ decide (6 < mx) = true ∧ TT = true) ∨ (decide (mx < -6) = false ∧ decide (6 < mx) = false ∧ decide (my < -6) = true ∧ TT = true) ∨
        (decide (mx < -6) = false ∧ decide (6 < mx) = false ∧ decide (my < -6) = false ∧ decide (6 < my) = true ∧ TT = true) ∨ (decide (mx < -6) = false ∧ decide (6 < mx) = false ∧ decide (my < -6) = false ∧ decide (6 < my) = false ∧ TT = false) := by
      have hT := HTT.out
      by_cases p1 : mx < -6
      · exact .inl ⟨decide_eq_true p1, by rw [hT]; exact decide_eq_true ⟨he, by simp [mvB]; omega⟩⟩
      by_cases p2 : 6 < mx
      · exact .inr (.inl ⟨decide_eq_false p1, decide_eq_true p2, by rw [hT]; exact decide_eq_true ⟨he, by simp [mvB]; omega⟩⟩)
      by_cases p3 : my < -6
      · exact .inr (.inr (.inl ⟨decide_eq_false p1, decide_eq_false p2, decide_eq_true p3, by rw [hT]; exact decide_eq_true ⟨he, by simp [mvB]; omega⟩⟩))
      by_cases p4 : 6 < my
      · exact .inr (.inr (.inr (.inl ⟨decide_eq_false p1, decide_eq_false p2, decide_eq_false p3, decide_eq_true p4, by rw [hT]; exact decide_eq_true ⟨he, by simp [mvB]; omega⟩⟩)))
      · exact .inr (.inr (.inr (.inr ⟨decide_eq_false p1, decide_eq_false p2, decide_eq_false p3, decide_eq_false p4, by rw [hT]; exact decide_eq_false (fun h => by have := h.2; simp [mvB] at this; omega)⟩)))
    clear he
    have m0 : W4.cell? ⟨w.heap.size + 1 + 1, 0, none⟩ = _ := HA4.out.m0
    have m1 : W4.cell? ⟨w.heap.size + 1 + 1, 1, none⟩ = _ := HA4.out.m1
    rcases hd with ⟨b1, q⟩ | ⟨b1, b2, q⟩ | ⟨b1, b2, b3, q⟩ | ⟨b1, b2, b3, b4, q⟩ | ⟨b1, b2, b3, b4, q⟩
    all_goals
      have HQ := Lib.hid q
      clear q
      go_wp2_with fail
      go_meet
      case rel => exact ⟨by rw [HQ.out], rfl⟩
  case rest =>
  obtain ⟨rfl, rfl⟩ := hcut
  go_upto_if 55 with fail
  go_cut [15] (fun f wx => f = .int .i64 E1 ∧ Hid (PT w wx d0 g0 a0 n0 c0 d1 g1 a1 n1 c1 mx my ∧ (∀ k, wx.frozen? ⟨w3.heap.size, k, none⟩ = false) ∧ ∃ c k cc, Cells3 wx w3.heap.size 0 (.int .i64 D1) (.int .i64 G1) (.slice c k cc) ∧ IntsAt wx c k cc R1))
  case first =>
    cases TT with
    | true =>
      have hq := of_decide_eq_true HTT.out.symm
      have e1 : E1 = 1 := by rw [HE1.out, if_neg (by omega), if_pos hq.2]
      obtain ⟨rfl, rfl, rfl⟩ := HR1.out (by omega)
      have EE := Lib.hid e1
      clear hq e1
      go_wp2_with fail
      go_meet
      case rel => exact ⟨by rw [EE.out]; rfl, HA4.out, HF4.out, none, 0, 0, HC4.out, IntsAt.nil _⟩
    | false =>
      have hq := of_decide_eq_false HTT.out.symm
      have e1 : E1 = E := by
        rw [HE1.out]
        by_cases h : E = 0
        · rw [if_neg (by omega), if_neg (fun h2 => hq ⟨h, h2⟩)]; exact h.symm
        · rw [if_pos h]
      have EE := Lib.hid e1
      clear hq
      by_cases he : E1 = 0
      · have d1' : ((E : Int) == 0) = true := by rw [beq_iff_eq]; omega
        have p0 : W4.cell? ⟨w.heap.size, 0, none⟩ = _ := HA4.out.p.c0
        have p1 : W4.cell? ⟨w.heap.size, 1, none⟩ = _ := HA4.out.p.c1
        have p2 : W4.cell? ⟨w.heap.size, 2, none⟩ = _ := HA4.out.p.c2
        have m0 : W4.cell? ⟨w.heap.size + 1 + 1, 0, none⟩ = _ := HA4.out.m0
        have m1 : W4.cell? ⟨w.heap.size + 1 + 1, 1, none⟩ = _ := HA4.out.m1
        have hk := K3.out W4 HA4.out.lat he
        have HK := Lib.hid hk
        clear he hk e1
        go_wp2_with fail
        refine HK.out.mono ?_
        rintro e w5 ⟨c, k, cc, rfl, hat, hfr, hb5⟩
        have hC5 := HC4.out.keep hb5
        have n0' := hC5.c0
        have n1' := hC5.c1
        have n2' := hC5.c2
        have hff : ∀ k, w5.frozen? ⟨w3.heap.size, k, none⟩ = false := fun k => hb5.free_at LW (HF4.out k)
        have g0' := hff 0
        have g1' := hff 1
        have g2' := hff 2
        have Q := three_set n0' n1' n2' (.int .i64 D1) (.int .i64 G1) (.slice c k cc)
        have HS2 := Lib.hid ((HA4.out.keep hb5).three GW (.int .i64 D1) (.int .i64 G1) (.slice c k cc))
        have HAT2 := Lib.hid (ints_three (g := w3.heap.size) hat (hfr _ LW) (.int .i64 D1) (.int .i64 G1) (.slice c k cc))
        have HQ := Lib.hid Q
        have HFF := Lib.hid hff
        clear Q hat hfr hb5 hC5 hff p0 p1 p2 m0 m1
        go_wp2_with fail
        go_meet
        case rel => exact ⟨by rw [EE.out], HS2.out, fun k => by rw [World.frozen?_setCell, World.frozen?_setCell, World.frozen?_setCell]; exact HFF.out k, c, k, cc, ⟨HQ.out.1, HQ.out.2.1, HQ.out.2.2⟩, HAT2.out⟩
      · have d1' : ((E : Int) == 0) = false := by rw [beq_eq_false_iff_ne]; omega
        obtain ⟨rfl, rfl, rfl⟩ := HR1.out he
        clear he e1
        go_wp2_with fail
        go_meet
        case rel => exact ⟨by rw [EE.out], HA4.out, HF4.out, none, 0, 0, HC4.out, IntsAt.nil _⟩
  case rest =>
  obtain ⟨rfl, hcc⟩ := hcut
  obtain ⟨hc1, hfw, c, k, cc, hC, hat⟩ := hcc.out
  have HC1 := Lib.hid hc1
  have HFW := Lib.hid hfw
  have HCC := Lib.hid hC
  have HAT := Lib.hid hat
  have LW5 : w3.heap.size < wc.heap.size := World.block_lt_of_cell? _ _ hC.c0
  clear hcc hc1 hfw hC hat HTT HE1 HR1 K3 HA4 HC4 HF4 LW
  generalize wc = w6 at *
  have p0 : w6.cell? ⟨w.heap.size, 0, none⟩ = _ := HC1.out.p.c0
  have p1 : w6.cell? ⟨w.heap.size, 1, none⟩ = _ := HC1.out.p.c1
  have p2 : w6.cell? ⟨w.heap.size, 2, none⟩ = _ := HC1.out.p.c2
  have m0 : w6.cell? ⟨w.heap.size + 1 + 1, 0, none⟩ = _ := HC1.out.m0
  have m1 : w6.cell? ⟨w.heap.size + 1 + 1, 1, none⟩ = _ := HC1.out.m1
  go_wp2_with fail
  refine (K4.out _ HC1.out.lat).mono ?_
  rintro e w7 ⟨c', k', cc', rfl, hat', hb7⟩
  clear p0 p1 p2 m0 m1
  have hl7 := Lat.alloc w7 (.cells #[.int .i64 D1, .int .i64 G1, .slice c' k' cc'] 24)
  have HA7 := Lib.hid (HC1.out.keep (Lat.trans hb7 hl7))
  have C7 := Lib.hid (HCC.out.keep (Lat.trans hb7 hl7))
  have F7 := Lib.hid (show ∀ k, (w7.alloc (.cells #[.int .i64 D1, .int .i64 G1, .slice c' k' cc'] 24)).frozen? ⟨w3.heap.size, k, none⟩ = false from fun k => (Lat.trans hb7 hl7).free_at LW5 (HFW.out k))
  have AT7 := Lib.hid (HAT.out.keep (Lat.trans hb7 hl7))
  have AT7b := Lib.hid (hat'.keep hl7)
  have X7 := Lib.hid (show Cells3 (w7.alloc (.cells #[.int .i64 D1, .int .i64 G1, .slice c' k' cc'] 24)) w7.heap.size 0 (.int .i64 D1) (.int .i64 G1) (.slice c' k' cc') from cells3_new rfl rfl rfl rfl)
  have XF7 := Lib.hid (show ∀ k, (w7.alloc (.cells #[.int .i64 D1, .int .i64 G1, .slice c' k' cc'] 24)).frozen? ⟨w7.heap.size, k, none⟩ = false from fun k => by simp)
  have LX : w3.heap.size < w7.heap.size := Nat.lt_of_lt_of_le LW5 hb7.size
  have LXX : w7.heap.size < (w7.alloc (.cells #[.int .i64 D1, .int .i64 G1, .slice c' k' cc'] 24)).heap.size := by simp
  have LWW : w3.heap.size < (w7.alloc (.cells #[.int .i64 D1, .int .i64 G1, .slice c' k' cc'] 24)).heap.size := by simp; omega
  clear hat' hb7 hl7 HC1 HCC HFW HAT K4
  go_wp2_with fail
  refine (sameErr_any E1 _ (HG.out.keep HA7.out.lat)).mono ?_
  rintro e w8 ⟨rfl, hb8⟩
  have HA8 := Lib.hid (HA7.out.keep hb8)
  have hC8 := C7.out.keep hb8
  have hX8 := X7.out.keep hb8
  have u0 := hC8.c0
  have u1 := hC8.c1
  have u2 := hC8.c2
  have v0 := hX8.c0
  have v1 := hX8.c1
  have v2 := hX8.c2
  have AT8 := Lib.hid (AT7.out.keep hb8)
  have AT8b := Lib.hid (AT7b.out.keep hb8)
  have F8 := Lib.hid (show ∀ k, w8.frozen? ⟨w3.heap.size, k, none⟩ = false from fun k => hb8.free_at LWW (F7.out k))
  have XF8 := Lib.hid (show ∀ k, w8.frozen? ⟨w7.heap.size, k, none⟩ = false from fun k => hb8.free_at LXX (XF7.out k))
  have C8 := Lib.hid hC8
  have X8 := Lib.hid hX8
  have HSP := Lib.hid (show sameP D1 G1 R1 D1 G1 R1 = true from decide_eq_true ⟨rfl, rfl, rfl⟩)
  clear hb8 hC8 hX8 C7 X7 F7 XF7 AT7 AT7b HA7 LWW LXX
  go_wp2_with fail
  refine (samePic_any D1 G1 c' k' cc' R1 D1 G1 c k cc R1 _ AT8b.out AT8.out).mono ?_
  rw [HSP.out]
  rintro e w9 ⟨rfl, hb9⟩
  have L7w : w7.heap.size < w8.heap.size := World.block_lt_of_cell? _ _ X8.out.c0
  have HA9 := Lib.hid (HA8.out.keep hb9)
  have C9 := Lib.hid (C8.out.keep hb9)
  have X9 := Lib.hid (X8.out.keep hb9)
  have F9 := Lib.hid (show ∀ k, w9.frozen? ⟨w3.heap.size, k, none⟩ = false from fun k => hb9.free_at (Nat.lt_trans LX L7w) (F8.out k))
  have XF9 := Lib.hid (show ∀ k, w9.frozen? ⟨w7.heap.size, k, none⟩ = false from fun k => hb9.free_at L7w (XF8.out k))
  clear hb9 HA8 AT8 AT8b F8 XF8 C8 X8 HSP u0 u1 u2 v0 v1 v2
  have p0 : w9.cell? ⟨w.heap.size, 0, none⟩ = _ := HA9.out.p.c0
  have p1 : w9.cell? ⟨w.heap.size, 1, none⟩ = _ := HA9.out.p.c1
  have p2 : w9.cell? ⟨w.heap.size, 2, none⟩ = _ := HA9.out.p.c2
  have q0 : w9.cell? ⟨w.heap.size + 1, 0, none⟩ = _ := HA9.out.q.c0
  have q1 : w9.cell? ⟨w.heap.size + 1, 1, none⟩ = _ := HA9.out.q.c1
  have q2 : w9.cell? ⟨w.heap.size + 1, 2, none⟩ = _ := HA9.out.q.c2
  go_wp2_with fail
  refine (K5.out _ HA9.out.lat).mono ?_
  rintro e w10 ⟨rfl, hb10⟩
  clear p0 p1 p2 q0 q1 q2
  have L7x : w7.heap.size < w9.heap.size := World.block_lt_of_cell? _ _ X9.out.c0
  have HA10 := Lib.hid (HA9.out.keep hb10)
  have C10 := Lib.hid (C9.out.keep hb10)
  have X10 := Lib.hid (X9.out.keep hb10)
  have F10 := Lib.hid (show ∀ k, w10.frozen? ⟨w3.heap.size, k, none⟩ = false from fun k => hb10.free_at (Nat.lt_trans LX L7x) (F9.out k))
  have XF10 := Lib.hid (show ∀ k, w10.frozen? ⟨w7.heap.size, k, none⟩ = false from fun k => hb10.free_at L7x (XF9.out k))
  clear hb10 HA9 C9 X9 F9 XF9 K5
  go_upto_block 0 with fail
  go_cut [20] (fun v wx => v = .int .i64 U2 ∧ Hid (Lat w10 wx))
  case first =>
    have p2 := HA10.out.p.c2
    have q2 := HA10.out.q.c2
    by_cases he : E2 = 0
    · have d1' : ((E2 : Int) == 0) = true := by rw [beq_iff_eq]; omega
      obtain ⟨hn1, hn36, hp0, hp1⟩ := HOK2.out he
      have hu : U2 = unl z0 z1 n0 := by rw [HU2.out, if_pos he]
      subst hn1
      have HUE := Lib.hid hu
      have P0 := Lib.hid hp0
      have P1 := Lib.hid hp1
      clear he hu hp0 hp1
      go_wp2_with fail
      go_loopw [20, 21] (fun v i wr => ∃ k : Nat, k ≤ n1 ∧ i = .int .i64 k ∧ v = .int .i64 (unl z0 z1 k) ∧ Hid (Lat w10 wr)) (fun _ i _ => n1 - (intOf i).toNat)
      case atStart => exact ⟨0, Nat.zero_le _, rfl, rfl, Lat.refl _⟩
      case round =>
        obtain ⟨j, hj, rfl, rfl, hrel⟩ := hrel
        have c3 := hrel.out.cell_at p2
        have c4 := hrel.out.cell_at q2
        by_cases hlt : j < n1
        · have hz := getD_pix P0.out j
          have hy := getD_pix P1.out j
          have hu := unl_bd P0.out P1.out j
          obtain ⟨b1, o1, rfl, hc1⟩ := (IW0.out.keep (Lat.trans HA10.out.lat hrel.out)).row.at_ (by omega)
          obtain ⟨b2, o2, rfl, hc2⟩ := (IW1.out.keep (Lat.trans HA10.out.lat hrel.out)).row.at_ (by omega)
          have c1 := hc1 j hlt
          have c2 := hc2 j hlt
          have hst : unl z0 z1 (j + 1) = max (unl z0 z1 j) (apt (z0.getD j 0) (z1.getD j 0)) := rfl
          obtain ⟨z, hzd⟩ : ∃ z, z = z0.getD j 0 := ⟨_, rfl⟩
          obtain ⟨y, hyd⟩ : ∃ z, z = z1.getD j 0 := ⟨_, rfl⟩
          obtain ⟨U, hU⟩ : ∃ z, z = unl z0 z1 j := ⟨_, rfl⟩
          rw [← hzd] at c1 hz hst
          rw [← hyd] at c2 hy hst
          rw [← hU] at hu hst
          rw [← hU]
          obtain ⟨D, hD⟩ : ∃ d, d = apt z y := ⟨_, rfl⟩
          rw [← hD] at hst
          have hap : ∀ W, Calls Tryd.prog 28 #[.int .i64 z, .int .i64 y] W fun e w' => e = .returned (.int .i64 D) ∧ W = w' := fun W => by rw [hD]; exact refApart z y W (by omega) (by omega) (by omega) (by omega)
          have hd : (decide (U < D) = true ∧ unl z0 z1 (j + 1) = D) ∨ (decide (U < D) = false ∧ unl z0 z1 (j + 1) = U) := by
            by_cases h : U < D
            · exact .inl ⟨decide_eq_true h, by rw [hst]; omega⟩
            · exact .inr ⟨decide_eq_false h, by rw [hst]; omega⟩
          have HAP := Lib.hid hap
          have i1 : (0 : Int) ≤ (j : Int) := by omega
          have i2 : (j : Int) < (n1 : Int) := by omega
          clear hc1 hc2 hzd hyd hst hU hD hap
          rcases hd with ⟨d2', hst⟩ | ⟨d2', hst⟩
          all_goals
            have HST := Lib.hid hst
            clear hst
            go_wp2_with fail
            go_quiet ((go_at_call 28; exact quiet_left (HAP.out _)))
            go_wp2
            go_roundw
            case rel => exact ⟨j + 1, by omega, by go_num, by rw [HST.out], Lat.trans hrel.out (Lat.drewN _ _)⟩
            case measure => simp [intOf]; omega
        · obtain rfl : j = n1 := by omega
          go_wp2
          go_meet
          case rel => exact ⟨by rw [HUE.out], hrel.out⟩
    · have d1' : ((E2 : Int) == 0) = false := by rw [beq_eq_false_iff_ne]; omega
      have hu : U2 = 0 := by rw [HU2.out, if_neg he]
      have HUE := Lib.hid hu
      clear he hu
      by_cases hn : 0 < n0
      all_goals
        go_wp2_with fail
        refine wp_loop_rounds 1 ?_
        rw [rounds_succ]
        go_wp2
        go_meet
        case rel => exact ⟨by rw [HUE.out], Lat.refl _⟩
  case rest =>
  obtain ⟨rfl, hb11⟩ := hcut
  have HA11 := Lib.hid (HA10.out.keep hb11.out)
  have C11 := Lib.hid (C10.out.keep hb11.out)
  have X11 := Lib.hid (X10.out.keep hb11.out)
  have L7y : w7.heap.size < w10.heap.size := World.block_lt_of_cell? _ _ X10.out.c0
  have F11 := Lib.hid (show ∀ k, wc.frozen? ⟨w3.heap.size, k, none⟩ = false from fun k => hb11.out.free_at (Nat.lt_trans LX L7y) (F10.out k))
  have XF11 := Lib.hid (show ∀ k, wc.frozen? ⟨w7.heap.size, k, none⟩ = false from fun k => hb11.out.free_at L7y (XF10.out k))
  clear hb11 HA10 C10 X10 F10 XF10 HU2 HOK2
  generalize wc = w11 at *
  have p0 : w11.cell? ⟨w.heap.size, 0, none⟩ = _ := HA11.out.p.c0
  have p1 : w11.cell? ⟨w.heap.size, 1, none⟩ = _ := HA11.out.p.c1
  have p2 : w11.cell? ⟨w.heap.size, 2, none⟩ = _ := HA11.out.p.c2
  have q0 : w11.cell? ⟨w.heap.size + 1, 0, none⟩ = _ := HA11.out.q.c0
  have q1 : w11.cell? ⟨w.heap.size + 1, 1, none⟩ = _ := HA11.out.q.c1
  have q2 : w11.cell? ⟨w.heap.size + 1, 2, none⟩ = _ := HA11.out.q.c2
  go_wp2_with fail
  refine (K6.out _ HA11.out.lat).mono ?_
  rintro e w12 ⟨rfl, hb12⟩
  clear p0 p1 p2 q0 q1 q2
  have L7z : w7.heap.size < w11.heap.size := World.block_lt_of_cell? _ _ X11.out.c0
  have HA12 := Lib.hid (HA11.out.keep hb12)
  have C12 := Lib.hid (C11.out.keep hb12)
  have X12 := Lib.hid (X11.out.keep hb12)
  have F12 := Lib.hid (show ∀ k, w12.frozen? ⟨w3.heap.size, k, none⟩ = false from fun k => hb12.free_at (Nat.lt_trans LX L7z) (F11.out k))
  have XF12 := Lib.hid (show ∀ k, w12.frozen? ⟨w7.heap.size, k, none⟩ = false from fun k => hb12.free_at L7z (XF11.out k))
  clear hb12 HA11 C11 X11 F11 XF11 K6
  go_wp2_with fail
  refine (sameErr_any E2 _ (HG.out.keep HA12.out.lat)).mono ?_
  rintro e w13 ⟨rfl, hb13⟩
  have L7u : w7.heap.size < w12.heap.size := World.block_lt_of_cell? _ _ X12.out.c0
  have HL13 := Lib.hid (Lat.trans HA12.out.lat hb13)
  have hC13 := C12.out.keep hb13
  have hF13 : ∀ k, w13.frozen? ⟨w3.heap.size, k, none⟩ = false := fun k => hb13.free_at (Nat.lt_trans LX L7u) (F12.out k)
  have hX13 := X12.out.keep hb13
  have XF13 := Lib.hid (show ∀ k, w13.frozen? ⟨w7.heap.size, k, none⟩ = false from fun k => hb13.free_at L7u (XF12.out k))
  have X13 := Lib.hid hX13
  have s0 := hC13.c0
  have s1 := hC13.c1
  have s2 := hC13.c2
  have f0 := hF13 0
  have f1 := hF13 1
  have f2 := hF13 2
  obtain ⟨W14, hW14⟩ : ∃ W, W = ((w13.setCell ⟨w3.heap.size, 0, none⟩ (.int .i64 0)).setCell ⟨w3.heap.size, 1, none⟩ (.int .i64 0)).setCell ⟨w3.heap.size, 2, none⟩ (.slice none 0 0) := ⟨_, rfl⟩
  have C14 := Lib.hid (show Cells3 W14 w3.heap.size 0 (.int .i64 0) (.int .i64 0) (.slice none 0 0) by rw [hW14]; have := three_set s0 s1 s2 (.int .i64 0) (.int .i64 0) (.slice none 0 0); exact ⟨this.1, this.2.1, this.2.2⟩)
  have F14 := Lib.hid (show ∀ k, W14.frozen? ⟨w3.heap.size, k, none⟩ = false from fun k => by rw [hW14, World.frozen?_setCell, World.frozen?_setCell, World.frozen?_setCell]; exact hF13 k)
  have X14 := Lib.hid (show Cells3 W14 w7.heap.size 0 (.int .i64 D1) (.int .i64 G1) (.slice c' k' cc') by rw [hW14]; exact ⟨cellThree hX13.c0 (by omega), cellThree hX13.c1 (by omega), cellThree hX13.c2 (by omega)⟩)
  have XF14 := Lib.hid (show ∀ k, W14.frozen? ⟨w7.heap.size, k, none⟩ = false from fun k => by rw [hW14, World.frozen?_setCell, World.frozen?_setCell, World.frozen?_setCell]; exact XF13.out k)
  have HL14 := Lib.hid (show Lat w W14 by rw [hW14]; exact lat_three HL13.out (by omega) _ _ _)
  clear hb13 HA12 C12 X12 F12 XF12 hC13 hF13 hX13 X13 XF13 HL13 L7w L7x L7y L7z L7u
  go_upto_region 23 with fail
  rw [← hW14]
  clear hW14 s0 s1 s2 f0 f1 f2
  obtain ⟨T3, hT3⟩ : ∃ b : Bool, b = decide (E3 ≠ 0) := ⟨_, rfl⟩
  have HT3 := Lib.hid hT3
  clear hT3
  go_cut [140] (fun c wx => c = .bool T3 ∧ W14 = wx)
  case first =>
    have hd : (decide (wd < 1) = true ∧ T3 = true) ∨ (decide (wd < 1) = false ∧ decide (6 < wd) = true ∧ T3 = true) ∨ (decide (wd < 1) = false ∧ decide (6 < wd) = false ∧ decide (hi < 1) = true ∧ T3 = true) ∨ (decide (wd < 1) = false ∧ decide (6 < wd) = false ∧ decide (hi < 1) = false ∧ decide (6 < hi) = true ∧ T3 = true) ∨
        (decide (wd < 1) = false ∧ decide (6 < wd) = false ∧ decide (hi < 1) = false ∧ decide (6 < hi) = false ∧ decide (n < 0) = true ∧ T3 = true) ∨ (decide (wd < 1) = false ∧ decide (6 < wd) = false ∧ decide (hi < 1) = false ∧ decide (6 < hi) = false ∧ decide (n < 0) = false ∧ decide (255 < n) = true ∧ T3 = true) ∨
        (decide (wd < 1) = false ∧ decide (6 < wd) = false ∧ decide (hi < 1) = false ∧ decide (6 < hi) = false ∧ decide (n < 0) = false ∧ decide (255 < n) = false ∧ T3 = false) := by
      have hT : T3 = decide (flE wd hi n ≠ 0) := by rw [HT3.out, HE3.out]
      have hb : (sideB wd = false ∨ sideB hi = false ∨ pixB n = false) → T3 = true := fun q => by rw [hT]; unfold flE; rw [if_pos q]; rfl
      by_cases p1 : wd < 1
      · exact .inl ⟨decide_eq_true p1, hb (.inl (by simp [sideB]; omega))⟩
      by_cases p2 : 6 < wd
      · exact .inr (.inl ⟨decide_eq_false p1, decide_eq_true p2, hb (.inl (by simp [sideB]; omega))⟩)
      by_cases p3 : hi < 1
      · exact .inr (.inr (.inl ⟨decide_eq_false p1, decide_eq_false p2, decide_eq_true p3, hb (.inr (.inl (by simp [sideB]; omega)))⟩))
      by_cases p4 : 6 < hi
      · exact .inr (.inr (.inr (.inl ⟨decide_eq_false p1, decide_eq_false p2, decide_eq_false p3, decide_eq_true p4, hb (.inr (.inl (by simp [sideB]; omega)))⟩)))
      by_cases p5 : n < 0
      · exact .inr (.inr (.inr (.inr (.inl ⟨decide_eq_false p1, decide_eq_false p2, decide_eq_false p3, decide_eq_false p4, decide_eq_true p5, hb (.inr (.inr (by simp [pixB]; omega)))⟩))))
      by_cases p6 : 255 < n
      · exact .inr (.inr (.inr (.inr (.inr (.inl ⟨decide_eq_false p1, decide_eq_false p2, decide_eq_false p3, decide_eq_false p4, decide_eq_false p5, decide_eq_true p6, hb (.inr (.inr (by simp [pixB]; omega)))⟩)))))
      · have e : T3 = false := by
          rw [hT]; unfold flE
          rw [if_neg (by simp [sideB, pixB]; omega)]; rfl
        exact .inr (.inr (.inr (.inr (.inr (.inr ⟨decide_eq_false p1, decide_eq_false p2, decide_eq_false p3, decide_eq_false p4, decide_eq_false p5, decide_eq_false p6, e⟩)))))
    rcases hd with ⟨b1, q⟩ | ⟨b1, b2, q⟩ | ⟨b1, b2, b3, q⟩ | ⟨b1, b2, b3, b4, q⟩ | ⟨b1, b2, b3, b4, b5, q⟩ | ⟨b1, b2, b3, b4, b5, b6, q⟩ | ⟨b1, b2, b3, b4, b5, b6, q⟩
    all_goals
      have HQ := Lib.hid q
      clear q
      go_wp2_with fail
      go_meet
      case rel => exact ⟨by rw [HQ.out], rfl⟩
  case rest =>
  obtain ⟨rfl, rfl⟩ := hcut
  go_upto_if 140 with fail
  go_cut [13] (fun f wx => f = .int .i64 E3 ∧ Hid (Lat w wx ∧ (∀ k, wx.frozen? ⟨w7.heap.size, k, none⟩ = false) ∧ Cells3 wx w7.heap.size 0 (.int .i64 D1) (.int .i64 G1) (.slice c' k' cc') ∧ ∃ c k cc, Cells3 wx w3.heap.size 0 (.int .i64 D3) (.int .i64 G3) (.slice c k cc) ∧ IntsAt wx c k cc R3 ∧ ∀ b o, c = some ⟨b, o, none⟩ → k ≠ 0 → b ≠ w7.heap.size))
  case first =>
    cases T3 with
    | true =>
      have hq := of_decide_eq_true HT3.out.symm
      have hq0 : flE wd hi n ≠ 0 := by rw [← HE3.out]; exact hq
      have e1 : E3 = 1 := by rw [HE3.out]; exact flE_is hq0
      have e2 : D3 = 0 := by rw [HD3.out]; unfold flD; rw [if_neg hq0]
      have e3 : G3 = 0 := by rw [HG3.out]; unfold flG; rw [if_neg hq0]
      have e4 : R3 = [] := by rw [HR3.out]; unfold flR; rw [if_neg hq0]
      subst e2 e3 e4
      have EE := Lib.hid e1
      clear hq hq0 e1
      go_wp2_with fail
      go_meet
      case rel => exact ⟨by rw [EE.out]; rfl, HL14.out, XF14.out, X14.out, none, 0, 0, C14.out, IntsAt.nil _, fun _ _ _ h => absurd rfl h⟩
    | false =>
      have hq := of_decide_eq_false HT3.out.symm
      have hq0 : flE wd hi n = 0 := by rw [← HE3.out]; omega
      have e1 : E3 = 0 := by rw [HE3.out]; exact hq0
      have e2 : D3 = wd := by rw [HD3.out]; unfold flD; rw [if_pos hq0]
      have e3 : G3 = hi := by rw [HG3.out]; unfold flG; rw [if_pos hq0]
      have e4 : R3 = List.replicate (wd * hi).toNat n := by rw [HR3.out]; unfold flR; rw [if_pos hq0]
      obtain ⟨w1', w6', g1', g6', n1', n6'⟩ := flE_zero hq0
      have m1 : wd * hi ≤ 6 * 6 := Int.mul_le_mul w6' g6' (by omega) (by omega)
      have m0 : 0 ≤ wd * hi := Int.mul_nonneg (by omega) (by omega)
      obtain ⟨M, hM⟩ := Int.eq_ofNat_of_zero_le m0
      rw [hM] at e4 m1
      rw [Int.toNat_natCast] at e4
      have eM : wd * hi = (M : Int) := hM
      have EE := Lib.hid e1
      have ED := Lib.hid e2
      have EG := Lib.hid e3
      have ER := Lib.hid e4
      have s0 := C14.out.c0
      have s1 := C14.out.c1
      have s2 := C14.out.c2
      have f0 := F14.out 0
      have f1 := F14.out 1
      have f2 := F14.out 2
      have LW14 : w3.heap.size < W14.heap.size := World.block_lt_of_cell? _ _ s0
      obtain ⟨W15, hW15⟩ : ∃ W, W = ((W14.setCell ⟨w3.heap.size, 0, none⟩ (.int .i64 wd)).setCell ⟨w3.heap.size, 1, none⟩ (.int .i64 hi)).setCell ⟨w3.heap.size, 2, none⟩ (.slice none 0 0) := ⟨_, rfl⟩
      have C15 := Lib.hid (show Cells3 W15 w3.heap.size 0 (.int .i64 wd) (.int .i64 hi) (.slice none 0 0) by rw [hW15]; have := three_set s0 s1 s2 (.int .i64 wd) (.int .i64 hi) (.slice none 0 0); exact ⟨this.1, this.2.1, this.2.2⟩)
      have F15 := Lib.hid (show ∀ k, W15.frozen? ⟨w3.heap.size, k, none⟩ = false from fun k => by rw [hW15, World.frozen?_setCell, World.frozen?_setCell, World.frozen?_setCell]; exact F14.out k)
      have X15 := Lib.hid (show Cells3 W15 w7.heap.size 0 (.int .i64 D1) (.int .i64 G1) (.slice c' k' cc') by rw [hW15]; exact ⟨cellThree X14.out.c0 (by omega), cellThree X14.out.c1 (by omega), cellThree X14.out.c2 (by omega)⟩)
      have XF15 := Lib.hid (show ∀ k, W15.frozen? ⟨w7.heap.size, k, none⟩ = false from fun k => by rw [hW15, World.frozen?_setCell, World.frozen?_setCell, World.frozen?_setCell]; exact XF14.out k)
      have HL15 := Lib.hid (show Lat w W15 by rw [hW15]; exact lat_three HL14.out (by omega) _ _ _)
      have LX15 : w7.heap.size < W15.heap.size := World.block_lt_of_cell? _ _ X15.out.c0
      have NWF := Lib.hid (show ∀ z ∈ List.replicate M n, -9223372036854775808 ≤ z ∧ z ≤ 9223372036854775807 from fun z hz => by rw [List.eq_of_mem_replicate hz]; omega)
      clear hq hq0 e1 e2 e3 e4 hM
      go_upto_region 26 with fail
      rw [← hW15]
      clear hW15 s0 s1 s2 f0 f1 f2
      go_wp2_with fail
      go_loopw [25] (fun i wr => ∃ k : Nat, k ≤ M ∧ i = .int .i64 k ∧ Hid (AccSome w.heap.size W15 wr w3.heap.size 2 (List.replicate k n))) (fun i _ => M - (intOf i).toNat)
      case atStart => exact ⟨0, Nat.zero_le _, rfl, _, AccInv.start (by omega) C15.out.c2⟩
      case round =>
        obtain ⟨j, hj, rfl, hrel⟩ := hrel
        obtain ⟨v, hI⟩ := hrel.out
        by_cases hlt : j < M
        · have c4 := hI.at_
          have hst : List.replicate (j + 1) n = List.replicate j n ++ [n] := (replicate_snoc j n).symm
          obtain ⟨L, hL⟩ : ∃ L, L = List.replicate j n := ⟨_, rfl⟩
          have hlen : L.length ≤ 1000000000 := by rw [hL, List.length_replicate]; omega
          rw [← hL] at hst hI
          have HST := Lib.hid hst
          have HLEN := Lib.hid hlen
          have HI := Lib.hid hI
          clear hst hlen hL hI hrel
          go_wp2_with (at_builtin; refine app_acc HI.out (F15.out 2) HLEN.out rfl _ _ rfl n rfl rfl ?_)
          intro q c5 w5 hacc hc5 hf5 _
          have HH := Lib.hid hacc
          clear hacc c4
          go_wp2
          go_roundw
          case rel =>
            refine ⟨j + 1, by omega, by go_num, ?_⟩
            show AccSome _ _ _ _ _ (List.replicate (j + 1) n)
            rw [HST.out]; exact ⟨_, HH.out⟩
          case measure => simp [intOf]; omega
        · obtain rfl : j = M := by omega
          obtain ⟨ra, rc, rfl, hrat⟩ := OwnInts.sliceN hI.own NWF.out List.length_replicate
          have xx := X15.out
          have HQ := Lib.hid (show Cells3 wr w3.heap.size 0 (.int .i64 wd) (.int .i64 hi) (.slice ra j rc) from ⟨hI.same _ _ (by simp) C15.out.c0, hI.same _ _ (by simp) C15.out.c1, hI.at_⟩)
          have HX := Lib.hid (show Cells3 wr w7.heap.size 0 (.int .i64 D1) (.int .i64 G1) (.slice c' k' cc') from ⟨hI.same _ _ (by intro e; injection e with e _ _; omega) xx.c0, hI.same _ _ (by intro e; injection e with e _ _; omega) xx.c1, hI.same _ _ (by intro e; injection e with e _ _; omega) xx.c2⟩)
          have HXF := Lib.hid (show ∀ k, wr.frozen? ⟨w7.heap.size, k, none⟩ = false from fun k => hI.free _ LX15 (XF15.out k))
          have HLL := Lib.hid (hI.lat HL15.out)
          have HRAT := Lib.hid hrat
          have HNE := Lib.hid (own_ne hI.own LX15)
          clear hI hrel hrat xx
          go_wp2
          go_meet
          case rel => exact ⟨by rw [EE.out]; rfl, HLL.out, HXF.out, HX.out, ra, j, rc, by rw [ED.out, EG.out]; exact HQ.out, by rw [ER.out]; exact HRAT.out, HNE.out⟩
  case rest =>
  obtain ⟨rfl, hcc⟩ := hcut
  obtain ⟨hlw, hxf, hxc, c5, k5, cc5, hC, hat, hne5⟩ := hcc.out
  have HL16 := Lib.hid hlw
  have XF16 := Lib.hid hxf
  have X16 := Lib.hid hxc
  have C16 := Lib.hid hC
  have AT16 := Lib.hid hat
  have NE16 := Lib.hid hne5
  have LX16 : w7.heap.size < wc.heap.size := World.block_lt_of_cell? _ _ hxc.c0
  clear hcc hlw hxf hxc hC hat hne5 HT3 HE3 HD3 HG3 HR3 HL14 XF14 X14 C14 F14
  generalize wc = w16 at *
  go_wp2_with fail
  refine (K7.out _).mono ?_
  rintro e w17 ⟨c6, k6, cc6, rfl, hat6, hf6, hb17⟩
  have hX17 := X16.out.keep hb17
  have hC17 := C16.out.keep hb17
  have s0 := hX17.c0
  have s1 := hX17.c1
  have s2 := hX17.c2
  have f0 := hb17.free_at LX16 (XF16.out 0)
  have f1 := hb17.free_at LX16 (XF16.out 1)
  have f2 := hb17.free_at LX16 (XF16.out 2)
  obtain ⟨W18, hW18⟩ : ∃ W, W = ((w17.setCell ⟨w7.heap.size, 0, none⟩ (.int .i64 D3)).setCell ⟨w7.heap.size, 1, none⟩ (.int .i64 G3)).setCell ⟨w7.heap.size, 2, none⟩ (.slice c6 k6 cc6) := ⟨_, rfl⟩
  have X18 := Lib.hid (show Cells3 W18 w7.heap.size 0 (.int .i64 D3) (.int .i64 G3) (.slice c6 k6 cc6) by rw [hW18]; have := three_set s0 s1 s2 (.int .i64 D3) (.int .i64 G3) (.slice c6 k6 cc6); exact ⟨this.1, this.2.1, this.2.2⟩)
  have C18 := Lib.hid (show Cells3 W18 w3.heap.size 0 (.int .i64 D3) (.int .i64 G3) (.slice c5 k5 cc5) by rw [hW18]; exact ⟨cellThree hC17.c0 (by omega), cellThree hC17.c1 (by omega), cellThree hC17.c2 (by omega)⟩)
  have HL18 := Lib.hid (show Lat w W18 by rw [hW18]; exact lat_three (Lat.trans HL16.out hb17) (by omega) _ _ _)
  have I5 := Lib.hid (show IntsAt W18 c5 k5 cc5 R3 by rw [hW18]; exact ints_three (AT16.out.keep hb17) NE16.out _ _ _)
  have I6 := Lib.hid (show IntsAt W18 c6 k6 cc6 R3 by rw [hW18]; exact ints_three hat6 (hf6 _ LX16) _ _ _)
  clear hX17 hC17 hat6 hf6 hb17 X16 C16 XF16 AT16 NE16 HL16 K7
  go_upto_region 31 with fail
  rw [← hW18]
  clear hW18 s0 s1 s2 f0 f1 f2
  go_wp2_with fail
  refine (sameErr_any E3 _ (HG.out.keep HL18.out)).mono ?_
  rintro e w19 ⟨rfl, hb19⟩
  have hX19 := X18.out.keep hb19
  have hC19 := C18.out.keep hb19
  have x0 := hX19.c0
  have x1 := hX19.c1
  have x2 := hX19.c2
  have y0 := hC19.c0
  have y1 := hC19.c1
  have y2 := hC19.c2
  have J5 := Lib.hid (I5.out.keep hb19)
  have J6 := Lib.hid (I6.out.keep hb19)
  have HL19 := Lib.hid (Lat.trans HL18.out hb19)
  have HSP := Lib.hid (show sameP D3 G3 R3 D3 G3 R3 = true from decide_eq_true ⟨rfl, rfl, rfl⟩)
  clear hX19 hC19 hb19 X18 C18 I5 I6 HL18
  go_wp2_with fail
  refine (samePic_any D3 G3 c6 k6 cc6 R3 D3 G3 c5 k5 cc5 R3 _ J6.out J5.out).mono ?_
  rw [HSP.out]
  rintro e w20 ⟨rfl, hb20⟩
  go_wp2
  go_ret
  exact ⟨rfl, Lat.trans HL19.out hb20⟩
end Go.Proofs.YtnnjijdpenifjaaDoor
