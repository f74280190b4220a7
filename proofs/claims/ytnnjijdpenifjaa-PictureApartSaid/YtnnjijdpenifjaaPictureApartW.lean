/- The walk of PictureApart: it returns true, whatever it is asked. -/
import Derived.Test.YtnnjijdpenifjaaShiftC
import Derived.Test.YtnnjijdpenifjaaUnlike
import Derived.Test.YtnnjijdpenifjaaOpenPic
namespace Go.Proofs.Ytnnjijdpenifjaa
open Go.ChangeShapes Go.WideShapes Go.ChangeAt Go.RowKit

structure PA (w W : World) (d0 g0 : Int) (a0 : Option Addr) (n0 c0 : Nat) (d1 g1 : Int) (a1 : Option Addr) (n1 c1 : Nat) (d2 g2 : Int) (a2 : Option Addr) (n2 c2 : Nat) (mx my : Int) : Prop where
  lat : Lat w W
  p0 : Cells3 W (w.heap.size) 0 (.int .i64 d0) (.int .i64 g0) (.slice a0 n0 c0)
  p1 : Cells3 W (w.heap.size + 1) 0 (.int .i64 d1) (.int .i64 g1) (.slice a1 n1 c1)
  p2 : Cells3 W (w.heap.size + 1 + 1) 0 (.int .i64 d2) (.int .i64 g2) (.slice a2 n2 c2)
  m0 : W.cell? ⟨w.heap.size + 1 + 1 + 1, 0, none⟩ = some (.int .i64 mx)
  m1 : W.cell? ⟨w.heap.size + 1 + 1 + 1, 1, none⟩ = some (.int .i64 my)
  sz : w.heap.size + 1 + 1 + 1 < W.heap.size
theorem PA.keep {w W W1 : World} {d0 g0 d1 g1 d2 g2 : Int} {a0 a1 a2 : Option Addr} {n0 c0 n1 c1 n2 c2 : Nat} {mx my : Int} (h : PA w W d0 g0 a0 n0 c0 d1 g1 a1 n1 c1 d2 g2 a2 n2 c2 mx my) (hb : Lat W W1) : PA w W1 d0 g0 a0 n0 c0 d1 g1 a1 n1 c1 d2 g2 a2 n2 c2 mx my :=
  ⟨Lat.trans h.lat hb, h.p0.keep hb, h.p1.keep hb, h.p2.keep hb, hb.cell_at h.m0, hb.cell_at h.m1, Nat.lt_of_lt_of_le h.sz hb.size⟩
theorem pa_open (w : World) (d0 g0 : Int) (a0 : Option Addr) (n0 c0 : Nat) (d1 g1 : Int) (a1 : Option Addr) (n1 c1 : Nat) (d2 g2 : Int) (a2 : Option Addr) (n2 c2 : Nat) (mx my : Int) : PA w ((((w.alloc (.cells #[.int .i64 d0, .int .i64 g0, .slice a0 n0 c0] 24)).alloc (.cells #[.int .i64 d1, .int .i64 g1, .slice a1 n1 c1] 24)).alloc (.cells #[.int .i64 d2, .int .i64 g2, .slice a2 n2 c2] 24)).alloc (.cells #[.int .i64 mx, .int .i64 my] 26)) d0 g0 a0 n0 c0 d1 g1 a1 n1 c1 d2 g2 a2 n2 c2 mx my := by
  have l1 := Lat.alloc w (.cells #[.int .i64 d0, .int .i64 g0, .slice a0 n0 c0] 24)
  have l2 := Lat.alloc (w.alloc (.cells #[.int .i64 d0, .int .i64 g0, .slice a0 n0 c0] 24)) (.cells #[.int .i64 d1, .int .i64 g1, .slice a1 n1 c1] 24)
  have l3 := Lat.alloc ((w.alloc (.cells #[.int .i64 d0, .int .i64 g0, .slice a0 n0 c0] 24)).alloc (.cells #[.int .i64 d1, .int .i64 g1, .slice a1 n1 c1] 24)) (.cells #[.int .i64 d2, .int .i64 g2, .slice a2 n2 c2] 24)
  have l4 := Lat.alloc (((w.alloc (.cells #[.int .i64 d0, .int .i64 g0, .slice a0 n0 c0] 24)).alloc (.cells #[.int .i64 d1, .int .i64 g1, .slice a1 n1 c1] 24)).alloc (.cells #[.int .i64 d2, .int .i64 g2, .slice a2 n2 c2] 24)) (.cells #[.int .i64 mx, .int .i64 my] 26)
  exact ⟨Lat.trans l1 (Lat.trans l2 (Lat.trans l3 l4)), (cells3_new rfl rfl rfl rfl).keep (Lat.trans l2 (Lat.trans l3 l4)), (cells3_new (by simp) rfl rfl rfl).keep (Lat.trans l3 l4), (cells3_new (by simp) rfl rfl rfl).keep l4, cell_new (by simp) rfl, cell_new (by simp) rfl, by simp⟩
theorem unlike_tot (wd hg : Int) (a : Option Addr) (n cap : Nat) (zs : List Int) (wd2 hg2 : Int) (b : Option Addr) (m cap2 : Nat) (ys : List Int) (w : World) (h : IntsAt w a n cap zs) (h2 : IntsAt w b m cap2 ys) :
    Calls Try.prog 10 #[picV wd hg a n cap, picV wd2 hg2 b m cap2] w fun e w' => ∃ v : Int, e = .returned (.tuple #[.int .i64 v, errv (alkE wd hg zs wd2 hg2 ys)]) ∧ (alkE wd hg zs wd2 hg2 ys = 0 → v = unl zs ys n) ∧ Lat w w' := by
  by_cases he : alkE wd hg zs wd2 hg2 ys = 0
  · exact (unlike_ok wd hg a n cap zs wd2 hg2 b m cap2 ys w h h2 he).mono fun e w' ⟨x, y⟩ => ⟨_, by rw [x, errv_zero he], fun _ => rfl, y⟩
  · exact (unlike_bad wd hg a n cap zs wd2 hg2 b m cap2 ys w h h2 he).mono fun e w' ⟨x, y⟩ => ⟨0, by rw [x, errv_pos he], fun h0 => absurd h0 he, y⟩

set_option maxHeartbeats 4000000 in
set_option maxRecDepth 100000 in
theorem walk_pictureApart (d0 g0 : Int) (a0 : Option Addr) (n0 c0 : Nat) (z0 : List Int) (d1 g1 : Int) (a1 : Option Addr) (n1 c1 : Nat) (z1 : List Int) (d2 g2 : Int) (a2 : Option Addr) (n2 c2 : Nat) (z2 : List Int) (mx my : Int) (w : World)
    (h0 : PicAt w d0 g0 a0 n0 c0 z0) (h1 : PicAt w d1 g1 a1 n1 c1 z1) (h2 : PicAt w d2 g2 a2 n2 c2 z2) (_ : MoveAt mx my) :
    Calls Try.prog 3 #[picV d0 g0 a0 n0 c0, picV d1 g1 a1 n1 c1, picV d2 g2 a2 n2 c2, .agg #[.int .i64 mx, .int .i64 my]] w fun e w' => e = .returned (.bool true) ∧ Lat w w' := by
  obtain ⟨W0, hW0⟩ : ∃ W, W = ((((w.alloc (.cells #[.int .i64 d0, .int .i64 g0, .slice a0 n0 c0] 24)).alloc (.cells #[.int .i64 d1, .int .i64 g1, .slice a1 n1 c1] 24)).alloc (.cells #[.int .i64 d2, .int .i64 g2, .slice a2 n2 c2] 24)).alloc (.cells #[.int .i64 mx, .int .i64 my] 26)) := ⟨_, rfl⟩
  have ha := pa_open w d0 g0 a0 n0 c0 d1 g1 a1 n1 c1 d2 g2 a2 n2 c2 mx my
  rw [← hW0] at ha
  have HA := Lib.hid ha
  have I0 := Lib.hid (h0.pix.keep ha.lat)
  have I1 := Lib.hid (h1.pix.keep ha.lat)
  have I2 := Lib.hid (h2.pix.keep ha.lat)
  obtain ⟨E, hE⟩ : ∃ E, E = alkE d0 g0 z0 d1 g1 z1 := ⟨_, rfl⟩
  have HE := Lib.hid hE
  clear h0 h1 h2 ha hE
  have hu : unl [7] [3] 1 = 4 := by decide
  have HU0 := Lib.hid hu
  have hk : alkE 1 1 [7] 1 1 [3] = 0 := by decide
  have HK0 := Lib.hid hk
  clear hu hk
  go_enter Try.func3, Try.ntmps3
  go_upto_region 1 with fail
  rw [← hW0]
  clear hW0
  go_wp2_with fail
  have x1 : IntsAt (W0.alloc (.cells #[.int .i64 7] 3)) (some ⟨W0.heap.size, 0, none⟩) 1 1 [7] := ints_new W0 [7] 3 (by decide) (by decide)
  have x2 : IntsAt ((W0.alloc (.cells #[.int .i64 7] 3)).alloc (.cells #[.int .i64 3] 3)) (some ⟨W0.heap.size + 1, 0, none⟩) 1 1 [3] := by
    have := ints_new (W0.alloc (.cells #[.int .i64 7] 3)) [3] 3 (by decide) (by decide)
    simpa using this
  have hl1 := Lat.alloc W0 (.cells #[.int .i64 7] 3)
  have hl2 := Lat.alloc (W0.alloc (.cells #[.int .i64 7] 3)) (.cells #[.int .i64 3] 3)
  refine (unlike_ok 1 1 _ 1 1 [7] 1 1 _ 1 1 [3] _ (x1.keep hl2) x2 HK0.out).mono ?_
  rw [HU0.out]
  rintro e w1 ⟨rfl, hb1⟩
  have hb := Lat.trans (Lat.trans hl1 hl2) hb1
  have HA1 := Lib.hid (HA.out.keep hb)
  have I01 := Lib.hid (I0.out.keep hb)
  have I11 := Lib.hid (I1.out.keep hb)
  have I21 := Lib.hid (I2.out.keep hb)
  clear x1 x2 hl1 hl2 hb1 hb I0 I1 I2 HA
  have q00 : w1.cell? ⟨w.heap.size, 0, none⟩ = _ := HA1.out.p0.c0
  have q01 : w1.cell? ⟨w.heap.size, 1, none⟩ = _ := HA1.out.p0.c1
  have q02 : w1.cell? ⟨w.heap.size, 2, none⟩ = _ := HA1.out.p0.c2
  have q10 : w1.cell? ⟨w.heap.size + 1, 0, none⟩ = _ := HA1.out.p1.c0
  have q11 : w1.cell? ⟨w.heap.size + 1, 1, none⟩ = _ := HA1.out.p1.c1
  have q12 : w1.cell? ⟨w.heap.size + 1, 2, none⟩ = _ := HA1.out.p1.c2
  go_wp2_with fail
  refine (unlike_tot d0 g0 a0 n0 c0 z0 d1 g1 a1 n1 c1 z1 w1 I01.out I11.out).mono ?_
  rw [← HE.out]
  rintro e w2 ⟨U, rfl, hU, hb2⟩
  have HA2 := Lib.hid (HA1.out.keep hb2)
  have I02 := Lib.hid (I01.out.keep hb2)
  have I12 := Lib.hid (I11.out.keep hb2)
  have I22 := Lib.hid (I21.out.keep hb2)
  clear q00 q01 q02 q10 q11 q12
  clear hb2 HA1 I01 I11 I21
  by_cases hE : E = 0
  case neg =>
    rw [errv_pos hE]
    clear hE hU
    go_wp2
    go_ret
    exact ⟨rfl, HA2.out.lat⟩
  rw [errv_zero hE]
  have hz := hE
  rw [HE.out, alkE_zero] at hz
  obtain ⟨hk0, hk1, rfl, rfl⟩ := hz
  have ok0 := chkPic_ok hk0
  have ok1 := chkPic_ok hk1
  have e01 : n0 = n1 := by
    have := ok0.len
    have := ok1.len
    have := I02.out.len
    have := I12.out.len
    omega
  subst e01
  have hU := hU hE
  have hbd := unl_bd ok0.pix ok1.pix n0
  rw [← hU] at hbd
  have hcm : unl z1 z0 n0 = U := by rw [unl_comm]; exact hU.symm
  have hSU : (U == 0) = sameP d0 g0 z0 d0 g0 z1 := by
    have hz := unl_zero z0 z1 (by rw [I02.out.len, I12.out.len])
    rw [I02.out.len, ← hU] at hz
    by_cases q : U = 0
    · have e := hz.1 q
      subst e
      rw [q]; exact (decide_eq_true ⟨rfl, rfl, rfl⟩ : sameP d0 g0 z0 d0 g0 z0 = true).symm
    · have e : sameP d0 g0 z0 d0 g0 z1 = false := decide_eq_false (fun h => q (hz.2 h.2.2))
      rw [e, beq_eq_false_iff_ne]; exact q
  obtain ⟨S, hS⟩ : ∃ S, S = sameP d0 g0 z0 d0 g0 z1 := ⟨_, rfl⟩
  rw [← hS] at hSU
  have HS := Lib.hid hS
  have HCM := Lib.hid hcm
  have HUU := Lib.hid hU
  have K0 := Lib.hid hk0
  have K1 := Lib.hid hk1
  have hba : alkE d0 g0 z1 d0 g0 z0 = 0 := alkE_zero.2 ⟨hk1, hk0, rfl, rfl⟩
  have HBA := Lib.hid hba
  obtain ⟨u0, u255⟩ := hbd
  clear hE hS hcm hU hk0 hk1 hba ok0 ok1
  have q00 : w2.cell? ⟨w.heap.size, 0, none⟩ = _ := HA2.out.p0.c0
  have q01 : w2.cell? ⟨w.heap.size, 1, none⟩ = _ := HA2.out.p0.c1
  have q02 : w2.cell? ⟨w.heap.size, 2, none⟩ = _ := HA2.out.p0.c2
  have q10 : w2.cell? ⟨w.heap.size + 1, 0, none⟩ = _ := HA2.out.p1.c0
  have q11 : w2.cell? ⟨w.heap.size + 1, 1, none⟩ = _ := HA2.out.p1.c1
  have q12 : w2.cell? ⟨w.heap.size + 1, 2, none⟩ = _ := HA2.out.p1.c2
  go_wp2_with fail
  refine (unlike_ok d0 g0 a1 n0 c1 z1 d0 g0 a0 n0 c0 z0 w2 I12.out I02.out HBA.out).mono ?_
  rw [HCM.out]
  rintro e w3 ⟨rfl, hb3⟩
  have HA3 := Lib.hid (HA2.out.keep hb3)
  have I03 := Lib.hid (I02.out.keep hb3)
  have I13 := Lib.hid (I12.out.keep hb3)
  have I23 := Lib.hid (I22.out.keep hb3)
  clear q00 q01 q02 q10 q11 q12
  clear hb3 HA2 I02 I12 I22
  have q00 : w3.cell? ⟨w.heap.size, 0, none⟩ = _ := HA3.out.p0.c0
  have q01 : w3.cell? ⟨w.heap.size, 1, none⟩ = _ := HA3.out.p0.c1
  have q02 : w3.cell? ⟨w.heap.size, 2, none⟩ = _ := HA3.out.p0.c2
  have q10 : w3.cell? ⟨w.heap.size + 1, 0, none⟩ = _ := HA3.out.p1.c0
  have q11 : w3.cell? ⟨w.heap.size + 1, 1, none⟩ = _ := HA3.out.p1.c1
  have q12 : w3.cell? ⟨w.heap.size + 1, 2, none⟩ = _ := HA3.out.p1.c2
  go_wp2_with fail
  refine (samePic_any d0 g0 a0 n0 c0 z0 d0 g0 a1 n0 c1 z1 w3 I03.out I13.out).mono ?_
  rw [← HS.out]
  rintro e w4 ⟨rfl, hb4⟩
  have HA4 := Lib.hid (HA3.out.keep hb4)
  have I04 := Lib.hid (I03.out.keep hb4)
  have I14 := Lib.hid (I13.out.keep hb4)
  have I24 := Lib.hid (I23.out.keep hb4)
  clear q00 q01 q02 q10 q11 q12
  clear hb4 HA3 I03 I13 I23
  have q00 : w4.cell? ⟨w.heap.size, 0, none⟩ = _ := HA4.out.p0.c0
  have q01 : w4.cell? ⟨w.heap.size, 1, none⟩ = _ := HA4.out.p0.c1
  have q02 : w4.cell? ⟨w.heap.size, 2, none⟩ = _ := HA4.out.p0.c2
  have q20 : w4.cell? ⟨w.heap.size + 1 + 1, 0, none⟩ = _ := HA4.out.p2.c0
  have q21 : w4.cell? ⟨w.heap.size + 1 + 1, 1, none⟩ = _ := HA4.out.p2.c1
  have q22 : w4.cell? ⟨w.heap.size + 1 + 1, 2, none⟩ = _ := HA4.out.p2.c2
  go_wp2_with fail
  obtain ⟨EX, hEX⟩ : ∃ E, E = alkE d0 g0 z0 d2 g2 z2 := ⟨_, rfl⟩
  obtain ⟨EY, hEY⟩ : ∃ E, E = alkE d2 g2 z2 d0 g0 z1 := ⟨_, rfl⟩
  obtain ⟨ES, hES⟩ : ∃ E, E = shE d0 g0 z0 mx my := ⟨_, rfl⟩
  have hET : ES = shE d0 g0 z1 mx my := by rw [hES]; unfold shE; rw [K0.out, K1.out]
  have ok0 := chkPic_ok K0.out
  have ok1 := chkPic_ok K1.out
  have hnn : d0.toNat * g0.toNat = n0 := by
    have h1 := ok0.len
    have h2 := ok0.w1
    have h3 := ok0.h1
    have e : ((d0.toNat * g0.toNat : Nat) : Int) = d0 * g0 := by rw [Int.natCast_mul, Int.toNat_of_nonneg (by omega), Int.toNat_of_nonneg (by omega)]
    have := I04.out.len
    omega
  have hsok : ∀ z : List Int, (∀ y ∈ z, 0 ≤ y ∧ y ≤ 255) → chkPic d0 g0 (shf d0.toNat g0.toNat z mx my n0) = 0 := fun z hz => chkPic_of ⟨ok0.w1, ok0.w6, ok0.h1, ok0.h6, by rw [shf_length]; have := ok0.len; have := I04.out.len; omega, shf_mem hz⟩
  have HAK := Lib.hid (alkE_zero.2 ⟨hsok z0 ok0.pix, hsok z1 ok1.pix, rfl, rfl⟩ : alkE d0 g0 (shf d0.toNat g0.toNat z0 mx my n0) d0 g0 (shf d0.toNat g0.toNat z1 mx my n0) = 0)
  obtain ⟨V, hV⟩ : ∃ V, V = unl (shf d0.toNat g0.toNat z0 mx my n0) (shf d0.toNat g0.toNat z1 mx my n0) n0 := ⟨_, rfl⟩
  have hVU : V ≤ U := by
    rw [hV, HUU.out]
    exact shf_unl _ _ _ _ _ _ _ _ (by have := ok0.w1; omega) (by have := ok0.h1; omega) hnn
  have HV := Lib.hid hV
  have HES := Lib.hid hES
  have HET := Lib.hid hET
  have HEX := Lib.hid hEX
  have HEY := Lib.hid hEY
  have dVU : decide (V ≤ U) = true := decide_eq_true hVU
  clear hV hES hET hEX hEY ok0 ok1 hnn hsok
  refine (unlike_tot d0 g0 a0 n0 c0 z0 d2 g2 a2 n2 c2 z2 w4 I04.out I24.out).mono ?_
  rw [← HEX.out]
  rintro e w5 ⟨X, rfl, hX, hb5⟩
  have HX := Lib.hid hX
  have HA5 := Lib.hid (HA4.out.keep hb5)
  have I05 := Lib.hid (I04.out.keep hb5)
  have I15 := Lib.hid (I14.out.keep hb5)
  have I25 := Lib.hid (I24.out.keep hb5)
  clear q00 q01 q02 q20 q21 q22
  clear hb5 HA4 I04 I14 I24 hX
  have q10 : w5.cell? ⟨w.heap.size + 1, 0, none⟩ = _ := HA5.out.p1.c0
  have q11 : w5.cell? ⟨w.heap.size + 1, 1, none⟩ = _ := HA5.out.p1.c1
  have q12 : w5.cell? ⟨w.heap.size + 1, 2, none⟩ = _ := HA5.out.p1.c2
  have q20 : w5.cell? ⟨w.heap.size + 1 + 1, 0, none⟩ = _ := HA5.out.p2.c0
  have q21 : w5.cell? ⟨w.heap.size + 1 + 1, 1, none⟩ = _ := HA5.out.p2.c1
  have q22 : w5.cell? ⟨w.heap.size + 1 + 1, 2, none⟩ = _ := HA5.out.p2.c2
  go_wp2_with fail
  refine (unlike_tot d2 g2 a2 n2 c2 z2 d0 g0 a1 n0 c1 z1 w5 I25.out I15.out).mono ?_
  rw [← HEY.out]
  rintro e w6 ⟨Y, rfl, hY, hb6⟩
  have HY := Lib.hid hY
  have HA6 := Lib.hid (HA5.out.keep hb6)
  have I06 := Lib.hid (I05.out.keep hb6)
  have I16 := Lib.hid (I15.out.keep hb6)
  have HL2 := Lib.hid I25.out.len
  clear q10 q11 q12 q20 q21 q22
  clear hb6 HA5 I05 I15 I25 hY
  by_cases hex : EX = 0
  case neg =>
    rw [errv_pos hex]
    clear hex
    have q00 : w6.cell? ⟨w.heap.size, 0, none⟩ = _ := HA6.out.p0.c0
    have q01 : w6.cell? ⟨w.heap.size, 1, none⟩ = _ := HA6.out.p0.c1
    have q02 : w6.cell? ⟨w.heap.size, 2, none⟩ = _ := HA6.out.p0.c2
    have qm0 : w6.cell? ⟨w.heap.size + 1 + 1 + 1, 0, none⟩ = _ := HA6.out.m0
    have qm1 : w6.cell? ⟨w.heap.size + 1 + 1 + 1, 1, none⟩ = _ := HA6.out.m1
    go_wp2_with fail
    refine (shift_tot d0 g0 a0 n0 c0 z0 mx my w6 I06.out).mono ?_
    rw [← HES.out]
    rintro e w7 ⟨ws, gs, bs, ms, cs, Ls, rfl, hats, hqs, hb7⟩
    clear q00 q01 q02 qm0 qm1
    have HA7 := Lib.hid (HA6.out.keep hb7)
    have I17 := Lib.hid (I16.out.keep (Lat.trans hb7 (Lat.alloc w7 (.cells #[.int .i64 ws, .int .i64 gs, .slice bs ms cs] 24))))
    have HATS := Lib.hid (hats.keep (Lat.alloc w7 (.cells #[.int .i64 ws, .int .i64 gs, .slice bs ms cs] 24)))
    have q10 : w7.cell? ⟨w.heap.size + 1, 0, none⟩ = _ := HA7.out.p1.c0
    have q11 : w7.cell? ⟨w.heap.size + 1, 1, none⟩ = _ := HA7.out.p1.c1
    have q12 : w7.cell? ⟨w.heap.size + 1, 2, none⟩ = _ := HA7.out.p1.c2
    have qm0 : w7.cell? ⟨w.heap.size + 1 + 1 + 1, 0, none⟩ = _ := HA7.out.m0
    have qm1 : w7.cell? ⟨w.heap.size + 1 + 1 + 1, 1, none⟩ = _ := HA7.out.m1
    have r3 : w.heap.size + 1 + 1 + 1 < w7.heap.size := HA7.out.sz
    have r1 : w.heap.size + 1 < w7.heap.size := by omega
    have HQS := Lib.hid hqs
    have HL7 := Lib.hid (Lat.trans HA7.out.lat (Lat.alloc w7 (.cells #[.int .i64 ws, .int .i64 gs, .slice bs ms cs] 24)))
    clear hats hqs hb7
    go_wp2_with fail
    refine (shift_tot d0 g0 a1 n0 c1 z1 mx my _ I17.out).mono ?_
    rw [← HET.out]
    rintro e w8 ⟨wt, gt, bt, mt, ct, Lt, rfl, hatt, hqt, hb8⟩
    have s0 : w8.cell? ⟨w7.heap.size, 0, none⟩ = some (.int .i64 ws) := hb8.cell_at (by simp)
    have s1 : w8.cell? ⟨w7.heap.size, 1, none⟩ = some (.int .i64 gs) := hb8.cell_at (by simp)
    have s2 : w8.cell? ⟨w7.heap.size, 2, none⟩ = some (.slice bs ms cs) := hb8.cell_at (by simp)
    have hlt8 : w7.heap.size < w8.heap.size := World.block_lt_of_cell? _ _ s0
    have hl8 := Lat.alloc w8 (.cells #[.int .i64 wt, .int .i64 gt, .slice bt mt ct] 24)
    have HATT := Lib.hid (hatt.keep hl8)
    have HATS8 := Lib.hid (HATS.out.keep (Lat.trans hb8 hl8))
    have HL8 := Lib.hid (Lat.trans HL7.out (Lat.trans hb8 hl8))
    clear q10 q11 q12 qm0 qm1
    clear hatt hb8 hl8 r1 r3
    by_cases hes : ES = 0
    case neg =>
      rw [errv_pos hes]
      clear hes hqt
      go_wp2
      go_ret
      exact ⟨rfl, HL8.out⟩
    obtain ⟨rfl, rfl, rfl, rfl⟩ := HQS.out hes
    obtain ⟨rfl, rfl, rfl, rfl⟩ := hqt hes
    rw [errv_zero hes]
    clear hes hqt HQS
    go_wp2_with fail
    refine (unlike_ok _ _ bs _ cs _ _ _ bt _ ct _ _ HATS8.out HATT.out HAK.out).mono ?_
    rw [← HV.out]
    rintro e w9 ⟨rfl, hb9⟩
    go_wp2
    go_ret
    exact ⟨rfl, Lat.trans HL8.out hb9⟩
  by_cases hey : EY = 0
  case neg =>
    rw [errv_zero hex, errv_pos hey]
    clear hex hey
    have q00 : w6.cell? ⟨w.heap.size, 0, none⟩ = _ := HA6.out.p0.c0
    have q01 : w6.cell? ⟨w.heap.size, 1, none⟩ = _ := HA6.out.p0.c1
    have q02 : w6.cell? ⟨w.heap.size, 2, none⟩ = _ := HA6.out.p0.c2
    have qm0 : w6.cell? ⟨w.heap.size + 1 + 1 + 1, 0, none⟩ = _ := HA6.out.m0
    have qm1 : w6.cell? ⟨w.heap.size + 1 + 1 + 1, 1, none⟩ = _ := HA6.out.m1
    go_wp2_with fail
    refine (shift_tot d0 g0 a0 n0 c0 z0 mx my w6 I06.out).mono ?_
    rw [← HES.out]
    rintro e w7 ⟨ws, gs, bs, ms, cs, Ls, rfl, hats, hqs, hb7⟩
    clear q00 q01 q02 qm0 qm1
    have HA7 := Lib.hid (HA6.out.keep hb7)
    have I17 := Lib.hid (I16.out.keep (Lat.trans hb7 (Lat.alloc w7 (.cells #[.int .i64 ws, .int .i64 gs, .slice bs ms cs] 24))))
    have HATS := Lib.hid (hats.keep (Lat.alloc w7 (.cells #[.int .i64 ws, .int .i64 gs, .slice bs ms cs] 24)))
    have q10 : w7.cell? ⟨w.heap.size + 1, 0, none⟩ = _ := HA7.out.p1.c0
    have q11 : w7.cell? ⟨w.heap.size + 1, 1, none⟩ = _ := HA7.out.p1.c1
    have q12 : w7.cell? ⟨w.heap.size + 1, 2, none⟩ = _ := HA7.out.p1.c2
    have qm0 : w7.cell? ⟨w.heap.size + 1 + 1 + 1, 0, none⟩ = _ := HA7.out.m0
    have qm1 : w7.cell? ⟨w.heap.size + 1 + 1 + 1, 1, none⟩ = _ := HA7.out.m1
    have r3 : w.heap.size + 1 + 1 + 1 < w7.heap.size := HA7.out.sz
    have r1 : w.heap.size + 1 < w7.heap.size := by omega
    have HQS := Lib.hid hqs
    have HL7 := Lib.hid (Lat.trans HA7.out.lat (Lat.alloc w7 (.cells #[.int .i64 ws, .int .i64 gs, .slice bs ms cs] 24)))
    clear hats hqs hb7
    go_wp2_with fail
    refine (shift_tot d0 g0 a1 n0 c1 z1 mx my _ I17.out).mono ?_
    rw [← HET.out]
    rintro e w8 ⟨wt, gt, bt, mt, ct, Lt, rfl, hatt, hqt, hb8⟩
    have s0 : w8.cell? ⟨w7.heap.size, 0, none⟩ = some (.int .i64 ws) := hb8.cell_at (by simp)
    have s1 : w8.cell? ⟨w7.heap.size, 1, none⟩ = some (.int .i64 gs) := hb8.cell_at (by simp)
    have s2 : w8.cell? ⟨w7.heap.size, 2, none⟩ = some (.slice bs ms cs) := hb8.cell_at (by simp)
    have hlt8 : w7.heap.size < w8.heap.size := World.block_lt_of_cell? _ _ s0
    have hl8 := Lat.alloc w8 (.cells #[.int .i64 wt, .int .i64 gt, .slice bt mt ct] 24)
    have HATT := Lib.hid (hatt.keep hl8)
    have HATS8 := Lib.hid (HATS.out.keep (Lat.trans hb8 hl8))
    have HL8 := Lib.hid (Lat.trans HL7.out (Lat.trans hb8 hl8))
    clear q10 q11 q12 qm0 qm1
    clear hatt hb8 hl8 r1 r3
    by_cases hes : ES = 0
    case neg =>
      rw [errv_pos hes]
      clear hes hqt
      go_wp2
      go_ret
      exact ⟨rfl, HL8.out⟩
    obtain ⟨rfl, rfl, rfl, rfl⟩ := HQS.out hes
    obtain ⟨rfl, rfl, rfl, rfl⟩ := hqt hes
    rw [errv_zero hes]
    clear hes hqt HQS
    go_wp2_with fail
    refine (unlike_ok _ _ bs _ cs _ _ _ bt _ ct _ _ HATS8.out HATT.out HAK.out).mono ?_
    rw [← HV.out]
    rintro e w9 ⟨rfl, hb9⟩
    go_wp2
    go_ret
    exact ⟨rfl, Lat.trans HL8.out hb9⟩
  have hX := HX.out hex
  have hY := HY.out hey
  have hkx := hex
  rw [HEX.out, alkE_zero] at hkx
  obtain ⟨kx1, kx2, rfl, rfl⟩ := hkx
  have okx := chkPic_ok kx2
  have ok0 := chkPic_ok K0.out
  have ok1 := chkPic_ok K1.out
  have e02 : n2 = n0 := by
    have := okx.len
    have := ok0.len
    have := HL2.out
    have := I06.out.len
    omega
  have hbx := unl_bd ok0.pix okx.pix n0
  have hby := unl_bd okx.pix ok1.pix n2
  have htri := unl_tri z0 z1 z2 n0
  rw [← HUU.out, ← hX] at htri
  rw [← hX] at hbx
  rw [← hY] at hby
  rw [← e02, ← hY] at htri
  have x0 := hbx.1
  have x9 := hbx.2
  have y0 := hby.1
  have y9 := hby.2
  have dxy : decide (X + Y < U) = false := decide_eq_false (by omega)
  rw [errv_zero hex, errv_zero hey]
  clear hex hey hX hY kx1 kx2 okx ok0 ok1 e02 hbx hby
  have q00 : w6.cell? ⟨w.heap.size, 0, none⟩ = _ := HA6.out.p0.c0
  have q01 : w6.cell? ⟨w.heap.size, 1, none⟩ = _ := HA6.out.p0.c1
  have q02 : w6.cell? ⟨w.heap.size, 2, none⟩ = _ := HA6.out.p0.c2
  have qm0 : w6.cell? ⟨w.heap.size + 1 + 1 + 1, 0, none⟩ = _ := HA6.out.m0
  have qm1 : w6.cell? ⟨w.heap.size + 1 + 1 + 1, 1, none⟩ = _ := HA6.out.m1
  go_wp2_with fail
  refine (shift_tot d0 g0 a0 n0 c0 z0 mx my w6 I06.out).mono ?_
  rw [← HES.out]
  rintro e w7 ⟨ws, gs, bs, ms, cs, Ls, rfl, hats, hqs, hb7⟩
  clear q00 q01 q02 qm0 qm1
  have HA7 := Lib.hid (HA6.out.keep hb7)
  have I17 := Lib.hid (I16.out.keep (Lat.trans hb7 (Lat.alloc w7 (.cells #[.int .i64 ws, .int .i64 gs, .slice bs ms cs] 24))))
  have HATS := Lib.hid (hats.keep (Lat.alloc w7 (.cells #[.int .i64 ws, .int .i64 gs, .slice bs ms cs] 24)))
  have q10 : w7.cell? ⟨w.heap.size + 1, 0, none⟩ = _ := HA7.out.p1.c0
  have q11 : w7.cell? ⟨w.heap.size + 1, 1, none⟩ = _ := HA7.out.p1.c1
  have q12 : w7.cell? ⟨w.heap.size + 1, 2, none⟩ = _ := HA7.out.p1.c2
  have qm0 : w7.cell? ⟨w.heap.size + 1 + 1 + 1, 0, none⟩ = _ := HA7.out.m0
  have qm1 : w7.cell? ⟨w.heap.size + 1 + 1 + 1, 1, none⟩ = _ := HA7.out.m1
  have r3 : w.heap.size + 1 + 1 + 1 < w7.heap.size := HA7.out.sz
  have r1 : w.heap.size + 1 < w7.heap.size := by omega
  have HQS := Lib.hid hqs
  have HL7 := Lib.hid (Lat.trans HA7.out.lat (Lat.alloc w7 (.cells #[.int .i64 ws, .int .i64 gs, .slice bs ms cs] 24)))
  clear hats hqs hb7
  go_wp2_with fail
  refine (shift_tot d0 g0 a1 n0 c1 z1 mx my _ I17.out).mono ?_
  rw [← HET.out]
  rintro e w8 ⟨wt, gt, bt, mt, ct, Lt, rfl, hatt, hqt, hb8⟩
  have s0 : w8.cell? ⟨w7.heap.size, 0, none⟩ = some (.int .i64 ws) := hb8.cell_at (by simp)
  have s1 : w8.cell? ⟨w7.heap.size, 1, none⟩ = some (.int .i64 gs) := hb8.cell_at (by simp)
  have s2 : w8.cell? ⟨w7.heap.size, 2, none⟩ = some (.slice bs ms cs) := hb8.cell_at (by simp)
  have hlt8 : w7.heap.size < w8.heap.size := World.block_lt_of_cell? _ _ s0
  have hl8 := Lat.alloc w8 (.cells #[.int .i64 wt, .int .i64 gt, .slice bt mt ct] 24)
  have HATT := Lib.hid (hatt.keep hl8)
  have HATS8 := Lib.hid (HATS.out.keep (Lat.trans hb8 hl8))
  have HL8 := Lib.hid (Lat.trans HL7.out (Lat.trans hb8 hl8))
  clear q10 q11 q12 qm0 qm1
  clear hatt hb8 hl8 r1 r3
  by_cases hes : ES = 0
  case neg =>
    rw [errv_pos hes]
    clear hes hqt
    go_wp2
    go_ret
    exact ⟨rfl, HL8.out⟩
  obtain ⟨rfl, rfl, rfl, rfl⟩ := HQS.out hes
  obtain ⟨rfl, rfl, rfl, rfl⟩ := hqt hes
  rw [errv_zero hes]
  clear hes hqt HQS
  go_wp2_with fail
  refine (unlike_ok _ _ bs _ cs _ _ _ bt _ ct _ _ HATS8.out HATT.out HAK.out).mono ?_
  rw [← HV.out]
  rintro e w9 ⟨rfl, hb9⟩
  go_wp2
  go_ret
  exact ⟨rfl, Lat.trans HL8.out hb9⟩
end Go.Proofs.Ytnnjijdpenifjaa
