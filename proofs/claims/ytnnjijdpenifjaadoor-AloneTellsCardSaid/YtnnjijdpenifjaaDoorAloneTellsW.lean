/- The walk of AloneTells: it returns true, whatever it is asked. -/
import Derived.Test.YtnnjijdpenifjaaDoorRefAlone
import Derived.Test.YtnnjijdpenifjaaDoorOpenPic
import Derived.Test.YtnnjijdpenifjaaDoorSame
import Derived.Deep.DeepCutAuto
import Derived.Deep.CutBlock
namespace Go.Proofs.YtnnjijdpenifjaaDoor
open Go.ChangeShapes Go.WideShapes Go.ChangeAt Go.RowKit

set_option maxHeartbeats 2000000 in
set_option maxRecDepth 100000 in
theorem decode_bad (wd hg s : Int) (a : Option Addr) (n cap : Nat) (rs : List Int) (w : World) (h : IntsAt w a n cap rs) (he : dcE wd hg s rs ≠ 0) :
    Calls Tryd.prog 20 #[.int .i64 wd, .int .i64 hg, .int .i64 s, .slice a n cap] w fun e w' => e = .returned (.tuple #[picV 0 0 none 0 0, eno (dcE wd hg s rs)]) ∧ Lat w w' := by
  obtain ⟨W0, hW0⟩ : ∃ W, W = w.alloc (.cells #[.int .i64 0, .int .i64 0, .slice none 0 0] 24) := ⟨_, rfl⟩
  have hat : IntsAt W0 a n cap rs := by rw [hW0]; exact h.keep (Lat.alloc _ _)
  have hl0 : Lat w W0 := by rw [hW0]; exact Lat.alloc _ _
  have hc : Cells3 W0 w.heap.size 0 (.int .i64 0) (.int .i64 0) (.slice none 0 0) := by rw [hW0]; exact cells3_new rfl rfl rfl rfl
  have hf : ∀ k, W0.frozen? ⟨w.heap.size, k, none⟩ = false := fun k => by rw [hW0]; simp
  have hrc := rests_any a n cap rs (wd * hg) W0 hat
  obtain ⟨E, hE⟩ : ∃ E, E = dcE wd hg s rs := ⟨_, rfl⟩
  rw [← hE] at he ⊢
  have HC := Lib.hid hc
  have HF := Lib.hid hf
  have Q := Lib.hid (three_set hc.c0 hc.c1 hc.c2 (.int .i64 0) (.int .i64 0) (.slice none 0 0))
  have HL3 := Lib.hid (lat_three hl0 (Nat.le_refl _) (.int .i64 0) (.int .i64 0) (.slice none 0 0))
  have hb : (sideB wd = false ∨ sideB hg = false ∨ stepB s = false) → E = 1 := fun q => by rw [hE]; unfold dcE; rw [if_pos q]
  have hd : (sideB wd = false ∧ E = 1) ∨ (sideB wd = true ∧ sideB hg = false ∧ E = 1) ∨ (sideB wd = true ∧ sideB hg = true ∧ stepB s = false ∧ E = 1) ∨ (sideB wd = true ∧ sideB hg = true ∧ stepB s = true) := by
    cases h1 : sideB wd with
    | false => exact .inl ⟨rfl, hb (.inl h1)⟩
    | true =>
      cases h2 : sideB hg with
      | false => exact .inr (.inl ⟨rfl, rfl, hb (.inr (.inl h2))⟩)
      | true =>
        cases h3 : stepB s with
        | false => exact .inr (.inr (.inl ⟨rfl, rfl, rfl, hb (.inr (.inr h3))⟩))
        | true => exact .inr (.inr (.inr ⟨rfl, rfl, rfl⟩))
  clear h hat hl0 hc hf hb
  rcases hd with ⟨d1, e1⟩ | ⟨d1, d2, e1⟩ | ⟨d1, d2, d3, e1⟩ | ⟨d1, d2, d3⟩
  iterate 3
    · rw [e1]
      clear hrc he hE e1
      go_enter Tryd.func20, Tryd.ntmps20
      go_upto_region 1 with fail
      rw [← hW0]
      clear hW0
      have c0 := HC.out.c0
      have c1 := HC.out.c1
      have c2 := HC.out.c2
      have f0 := HF.out 0
      have f1 := HF.out 1
      have f2 := HF.out 2
      go_wp2_with (first | (go_at_call 60; refine (side_any _ _).mono ?_; rintro e w' ⟨rfl, rfl⟩) | (go_at_call 56; refine (step_any _ _).mono ?_; rintro e w' ⟨rfl, rfl⟩))
      exact bodyPost_ret (v := .tuple #[picV 0 0 none 0 0, eno 1]) (by simp [results, Tryd.results20, go_sem, Q.out.1, Q.out.2.1, Q.out.2.2]) rfl ⟨rfl, HL3.out⟩
  have e1 : E = rstE rs (wd * hg) := by rw [hE]; unfold dcE; rw [if_neg (by simp [d1, d2, d3])]
  rw [← e1, errv_pos he] at hrc
  have m1 : wd * hg ≤ 6 * 6 := by
    have a1 := d1
    have a2 := d2
    simp only [sideB, decide_eq_true_eq] at a1 a2
    exact Int.mul_le_mul a1.2 a2.2 (by omega) (by omega)
  have m0 : 0 ≤ wd * hg := by
    have a1 := d1
    have a2 := d2
    simp only [sideB, decide_eq_true_eq] at a1 a2
    exact Int.mul_nonneg (by omega) (by omega)
  have HRC := Lib.hid hrc
  clear hrc he hE e1
  go_enter Tryd.func20, Tryd.ntmps20
  go_upto_region 1 with fail
  rw [← hW0]
  clear hW0
  have c0 := HC.out.c0
  have c1 := HC.out.c1
  have c2 := HC.out.c2
  have f0 := HF.out 0
  have f1 := HF.out 1
  have f2 := HF.out 2
  go_wp2_with (first | (go_at_call 60; refine (side_any _ _).mono ?_; rintro e w' ⟨rfl, rfl⟩) | (go_at_call 56; refine (step_any _ _).mono ?_; rintro e w' ⟨rfl, rfl⟩))
  refine HRC.out.mono ?_
  rintro e w' ⟨rfl, rfl⟩
  go_wp2
  exact bodyPost_ret (v := .tuple #[picV 0 0 none 0 0, eno E]) (by simp [results, Tryd.results20, go_sem, Q.out.1, Q.out.2.1, Q.out.2.2]) rfl ⟨rfl, HL3.out⟩
def tolD (wd hg s : Int) (rs : List Int) : Int := if dcE wd hg s rs = 0 then wd else 0
def tolG (wd hg s : Int) (rs : List Int) : Int := if dcE wd hg s rs = 0 then hg else 0
theorem decode_same (wd hg s : Int) (a : Option Addr) (n cap : Nat) (rs : List Int) (w : World) (h : IntsAt w a n cap rs) :
    Calls Tryd.prog 20 #[.int .i64 wd, .int .i64 hg, .int .i64 s, .slice a n cap] w fun e w' => ∃ b m c, e = .returned (.tuple #[picV (tolD wd hg s rs) (tolG wd hg s rs) b m c, errv (dcE wd hg s rs)]) ∧ IntsAt w' b m c (tolR wd hg s rs) ∧ Lat w w' := by
  unfold tolD tolG tolR
  by_cases he : dcE wd hg s rs = 0
  · rw [if_pos he, if_pos he, if_pos he, he, errv_zero rfl]
    refine (decode_ok wd hg s a n cap rs w h he).mono ?_
    rintro e w' ⟨b, c, rfl, hat, hb⟩
    exact ⟨b, n, c, rfl, by rw [h.len]; exact hat, hb⟩
  · rw [if_neg he, if_neg he, if_neg he, errv_pos he]
    refine (decode_bad wd hg s a n cap rs w h he).mono ?_
    rintro e w' ⟨rfl, hb⟩
    exact ⟨none, 0, 0, rfl, IntsAt.nil _, hb⟩
theorem refTold_same (wd hg s : Int) (a : Option Addr) (n cap : Nat) (rs : List Int) (w : World) (h : IntsAt w a n cap rs) :
    Calls Tryd.prog 19 #[.int .i64 wd, .int .i64 hg, .int .i64 s, .slice a n cap] w fun e w' => ∃ b m c, e = .returned (.tuple #[picV (tolD wd hg s rs) (tolG wd hg s rs) b m c, .int .i64 (dcE wd hg s rs)]) ∧ IntsAt w' b m c (tolR wd hg s rs) ∧ Lat w w' := by
  refine (refTold wd hg s a n cap rs w h).mono ?_
  rintro e w' ⟨d, g, b, m, c, rfl, h0, h1, hat, hb⟩
  unfold tolD tolG
  by_cases he : dcE wd hg s rs = 0
  · obtain ⟨rfl, rfl, rfl⟩ := h0 he
    rw [if_pos he, if_pos he]
    exact ⟨b, m, c, rfl, hat, hb⟩
  · obtain ⟨rfl, rfl, rfl⟩ := h1 he
    rw [if_neg he, if_neg he]
    exact ⟨b, 0, c, rfl, hat, hb⟩
/-- the rests, none where something is wrong -/
def encR (wd hg : Int) (zs : List Int) (s : Int) : List Int := if encE wd hg zs s = 0 then (cod zs wd.toNat s zs.length).1 else []
theorem encode_same (wd hg : Int) (a : Option Addr) (n cap : Nat) (zs : List Int) (s : Int) (w : World) (h : IntsAt w a n cap zs) :
    Calls Tryd.prog 16 #[picV wd hg a n cap, .int .i64 s] w fun e w' => ∃ b m c, e = .returned (.tuple #[.slice b m c, errv (encE wd hg zs s)]) ∧ IntsAt w' b m c (encR wd hg zs s) ∧ Lat w w' := by
  unfold encR
  by_cases he : encE wd hg zs s = 0
  · rw [if_pos he, he, errv_zero rfl]
    refine (encode_ok wd hg a n cap zs s w h he).mono ?_
    rintro e w' ⟨b, c, rfl, hat, hb⟩
    exact ⟨b, n, c, rfl, by rw [h.len]; exact hat, hb⟩
  · rw [if_neg he, errv_pos he]
    refine (encode_bad wd hg a n cap zs s w h he).mono ?_
    rintro e w' ⟨rfl, hb⟩
    exact ⟨none, 0, 0, rfl, IntsAt.nil _, hb⟩
theorem refAlone_same (wd hg : Int) (a : Option Addr) (n cap : Nat) (zs : List Int) (s : Int) (w : World) (h : IntsAt w a n cap zs) (he : encE wd hg zs s = 0) :
    Calls Tryd.prog 15 #[picV wd hg a n cap, .int .i64 s] w fun e w' => ∃ b m c b2 m2 c2, e = .returned (.tuple #[.slice b m c, .slice b2 m2 c2]) ∧ IntsAt w' b m c (encR wd hg zs s) ∧ Lat w w' := by
  obtain ⟨hok, s1, s64⟩ := encE_zero he
  unfold encR
  rw [if_pos he]
  refine (refAlone wd hg a n cap zs s w h hok s1 s64).mono ?_
  rintro e w' ⟨b, c, b2, c2, rfl, hat, _, hb⟩
  exact ⟨b, n, c, b2, n, c2, rfl, by rw [h.len]; exact hat, hb⟩
def rndR (n s : Int) : Int := if rndE n s = 0 then near n s else 0
theorem rndE_one {n s : Int} (h : rndE n s ≠ 0) : rndE n s = 1 := by
  unfold rndE at h ⊢
  split at h
  · rename_i h1; rw [if_pos h1]
  · omega
theorem round_same (n s : Int) (w : World) : Calls Tryd.prog 23 #[.int .i64 n, .int .i64 s] w fun e w' => e = .returned (.tuple #[.int .i64 (rndR n s), errv (rndE n s)]) ∧ w = w' := by
  unfold rndR
  by_cases he : rndE n s = 0
  · rw [if_pos he, he, errv_zero rfl]
    exact round_ok n s w he
  · rw [if_neg he, errv_pos he, rndE_one he]
    exact round_bad n s w he

set_option maxHeartbeats 8000000 in
set_option maxRecDepth 100000 in
theorem walk_aloneTells (d0 g0 : Int) (a0 : Option Addr) (n0 c0 : Nat) (z0 : List Int) (s wd hi : Int) (a4 : Option Addr) (n4 c4 : Nat) (z4 : List Int) (n : Int) (w : World) (hg : Hnd w)
    (h0 : PicAt w d0 g0 a0 n0 c0 z0) (_ : (Lit.int .i64 s).wf = true) (_ : (Lit.int .i64 wd).wf = true) (_ : (Lit.int .i64 hi).wf = true) (h4 : IntsAt w a4 n4 c4 z4) (_ : (Lit.int .i64 n).wf = true) :
    Calls Tryd.prog 3 #[picV d0 g0 a0 n0 c0, .int .i64 s, .int .i64 wd, .int .i64 hi, .slice a4 n4 c4, .int .i64 n] w fun e w' => e = .returned (.bool true) ∧ Lat w w' := by
  obtain ⟨W0, hW0⟩ : ∃ W, W = w.alloc (.cells #[.int .i64 d0, .int .i64 g0, .slice a0 n0 c0] 24) := ⟨_, rfl⟩
  have hl0 : Lat w W0 := by rw [hW0]; exact Lat.alloc _ _
  have hp : Cells3 W0 w.heap.size 0 (.int .i64 d0) (.int .i64 g0) (.slice a0 n0 c0) := by rw [hW0]; exact cells3_new rfl rfl rfl rfl
  obtain ⟨E, hE⟩ : ∃ E, E = chkPic d0 g0 z0 := ⟨_, rfl⟩
  obtain ⟨E1, hE1⟩ : ∃ E, E = encE d0 g0 z0 s := ⟨_, rfl⟩
  obtain ⟨R1, hR1⟩ : ∃ E, E = encR d0 g0 z0 s := ⟨_, rfl⟩
  obtain ⟨E2, hE2⟩ : ∃ E, E = dcE wd hi s z4 := ⟨_, rfl⟩
  obtain ⟨R2, hR2⟩ : ∃ E, E = tolR wd hi s z4 := ⟨_, rfl⟩
  obtain ⟨D2, hD2⟩ : ∃ E, E = tolD wd hi s z4 := ⟨_, rfl⟩
  obtain ⟨G2, hG2⟩ : ∃ E, E = tolG wd hi s z4 := ⟨_, rfl⟩
  obtain ⟨E3, hE3⟩ : ∃ E, E = rndE n s := ⟨_, rfl⟩
  obtain ⟨R3, hR3⟩ : ∃ E, E = rndR n s := ⟨_, rfl⟩
  have k1 : ∀ W, Lat w W → _ := fun W hW => refPic d0 g0 a0 n0 c0 z0 W (h0.pix.keep hW)
  have k2 : ∀ W, Lat w W → E1 = 0 → _ := fun W hW he => refAlone_same d0 g0 a0 n0 c0 z0 s W (h0.pix.keep hW) (by rw [← hE1]; exact he)
  have k3 : ∀ W, Lat w W → _ := fun W hW => encode_same d0 g0 a0 n0 c0 z0 s W (h0.pix.keep hW)
  have k4 : ∀ W, Lat w W → _ := fun W hW => refTold_same wd hi s a4 n4 c4 z4 W (h4.keep hW)
  have k5 : ∀ W, Lat w W → _ := fun W hW => decode_same wd hi s a4 n4 c4 z4 W (h4.keep hW)
  have k6 : ∀ W : World, _ := fun W => round_same n s W
  simp only [← hE, ← hE1, ← hR1, ← hE2, ← hR2, ← hD2, ← hG2, ← hE3, ← hR3] at k1 k2 k3 k4 k5 k6
  have he1 : E1 = if E ≠ 0 then E else if stepB s = false then 1 else 0 := by rw [hE1, hE]; rfl
  have hr1 : E1 ≠ 0 → R1 = [] := fun q => by rw [hR1]; unfold encR; rw [← hE1, if_neg q]
  have HE1 := Lib.hid he1
  have HR1 := Lib.hid hr1
  have HE3 := Lib.hid hE3
  have HR3 := Lib.hid hR3
  have K1 := Lib.hid k1
  have K2 := Lib.hid k2
  have K3 := Lib.hid k3
  have K4 := Lib.hid k4
  have K5 := Lib.hid k5
  have K6 := Lib.hid k6
  have HL0 := Lib.hid hl0
  have HP := Lib.hid hp
  have HG := Lib.hid hg
  clear h0 h4 hg hl0 hp hE hE1 hR1 hE2 hR2 hD2 hG2 hE3 hR3 k1 k2 k3 k4 k5 k6 he1 hr1
  go_enter Tryd.func3, Tryd.ntmps3
  go_upto_region 1 with fail
  rw [← hW0]
  clear hW0
  have p0 := HP.out.c0
  have p1 := HP.out.c1
  have p2 := HP.out.c2
  go_wp2_with fail
  refine (K1.out _ HL0.out).mono ?_
  rintro e w1 ⟨rfl, hb1⟩
  clear p0 p1 p2
  have HP1 := Lib.hid (HP.out.keep hb1)
  have HL1 := Lib.hid (Lat.trans HL0.out hb1)
  clear hb1 HP HL0 K1
  obtain ⟨TT, hTT⟩ : ∃ b : Bool, b = decide (E = 0 ∧ stepB s = false) := ⟨_, rfl⟩
  have HTT := Lib.hid hTT
  clear hTT
  go_upto_region 2 with fail
  go_cut [35] (fun c wx => c = .bool TT ∧ w1 = wx)
  case first =>
    by_cases he : E = 0
    case neg =>
      have d1' : ((E : Int) == 0) = false := by rw [beq_eq_false_iff_ne]; omega
      have hT : TT = false := by rw [HTT.out]; exact decide_eq_false (fun h => he h.1)
      have HT := Lib.hid hT
      clear he hT
      go_wp2_with fail
      go_meet
      case rel => exact ⟨by rw [HT.out], rfl⟩
    have d1' : ((E : Int) == 0) = true := by rw [beq_iff_eq]; omega
    have hd : (decide (s < 1) = true ∧ TT = true) ∨ (decide (s < 1) = false ∧ decide (64 < s) = true ∧ TT = true) ∨ (decide (s < 1) = false ∧ decide (64 < s) = false ∧ TT = false) := by
      have hT := HTT.out
      by_cases p1 : s < 1
      · exact .inl ⟨decide_eq_true p1, by rw [hT]; exact decide_eq_true ⟨he, by simp [stepB]; omega⟩⟩
      by_cases p2 : 64 < s
      · exact .inr (.inl ⟨decide_eq_false p1, decide_eq_true p2, by rw [hT]; exact decide_eq_true ⟨he, by simp [stepB]; omega⟩⟩)
      · exact .inr (.inr ⟨decide_eq_false p1, decide_eq_false p2, by rw [hT]; exact decide_eq_false (fun h => by have := h.2; simp [stepB] at this; omega)⟩)
    clear he
    rcases hd with ⟨b1, b2⟩ | ⟨b1, b2, b3⟩ | ⟨b1, b2, b3⟩
    · have HT := Lib.hid b2
      clear b2
      go_wp2_with fail
      go_meet
      case rel => exact ⟨by rw [HT.out], rfl⟩
    all_goals
      have HT := Lib.hid b3
      clear b3
      go_wp2_with fail
      go_meet
      case rel => exact ⟨by rw [HT.out], rfl⟩
  case rest =>
  obtain ⟨rfl, rfl⟩ := hcut
  go_upto_if 35 with fail
  go_cut [13] (fun f wx => f = .int .i64 E1 ∧ w1 = wx)
  case first =>
    cases TT with
    | true =>
      have hq := of_decide_eq_true HTT.out.symm
      have e1 : E1 = 1 := by rw [HE1.out, if_neg (by omega), if_pos hq.2]
      have EE := Lib.hid e1
      clear hq e1
      go_wp2_with fail
      go_meet
      case rel => exact ⟨by rw [EE.out]; rfl, rfl⟩
    | false =>
      have hq := of_decide_eq_false HTT.out.symm
      have e1 : E1 = E := by
        rw [HE1.out]
        by_cases h : E = 0
        · rw [if_neg (by omega), if_neg (fun h2 => hq ⟨h, h2⟩)]; exact h.symm
        · rw [if_pos h]
      have EE := Lib.hid e1
      clear hq e1
      go_wp2_with fail
      go_meet
      case rel => exact ⟨by rw [EE.out], rfl⟩
  case rest =>
  obtain ⟨rfl, rfl⟩ := hcut
  clear HTT HE1
  go_upto_if 37 with fail
  go_cut [14] (fun v wx => ∃ b m c, v = .slice b m c ∧ Hid (IntsAt wx b m c R1 ∧ Lat w1 wx))
  case first =>
    by_cases he : E1 = 0
    · have d1' : ((E1 : Int) == 0) = true := by rw [beq_iff_eq]; omega
      have hk := K2.out w1 HL1.out he
      have HK := Lib.hid hk
      clear he hk
      have p0 := HP1.out.c0
      have p1 := HP1.out.c1
      have p2 := HP1.out.c2
      go_wp2_with fail
      refine HK.out.mono ?_
      rintro e w2 ⟨b, m, c, b2, m2, c2, rfl, hat, hb2⟩
      have HAT := Lib.hid hat
      have HB2 := Lib.hid hb2
      clear hat hb2 p0 p1 p2
      go_wp2_with fail
      go_meet
      case rel => exact ⟨b, m, c, rfl, HAT.out, HB2.out⟩
    · have d1' : ((E1 : Int) == 0) = false := by rw [beq_eq_false_iff_ne]; omega
      obtain rfl := HR1.out he
      clear he
      go_wp2_with fail
      go_meet
      case rel => exact ⟨none, 0, 0, rfl, IntsAt.nil _, Lat.refl _⟩
  case rest =>
  obtain ⟨vb, vm, vc, rfl, hc1⟩ := hcut
  have HC := Lib.hid hc1.out.1
  have HP2 := Lib.hid (HP1.out.keep hc1.out.2)
  have HL2 := Lib.hid (Lat.trans HL1.out hc1.out.2)
  clear hc1 HP1 HL1 K2 HR1
  generalize wc = w2 at *
  have p0 := HP2.out.c0
  have p1 := HP2.out.c1
  have p2 := HP2.out.c2
  go_wp2_with fail
  refine (K3.out _ HL2.out).mono ?_
  rintro e w3 ⟨b, m, c, rfl, hat, hb3⟩
  clear p0 p1 p2
  have HC3 := Lib.hid (HC.out.keep hb3)
  have HAT3 := Lib.hid hat
  have HL3 := Lib.hid (Lat.trans HL2.out hb3)
  clear hat hb3 HC HL2 HP2 K3
  go_wp2_with fail
  refine (sameErr_any E1 _ (HG.out.keep HL3.out)).mono ?_
  rintro e w4 ⟨rfl, hb4⟩
  have HC4 := Lib.hid (HC3.out.keep hb4)
  have HAT4 := Lib.hid (HAT3.out.keep hb4)
  have HL4 := Lib.hid (Lat.trans HL3.out hb4)
  have HSI := Lib.hid (show sameI R1 R1 = true from decide_eq_true rfl)
  clear hb4 HC3 HAT3 HL3
  go_wp2_with fail
  refine (sameInts_any b m c R1 vb vm vc R1 _ HAT4.out HC4.out).mono ?_
  rw [HSI.out]
  rintro e w5 ⟨rfl, hb5⟩
  have HL5 := Lib.hid (Lat.trans HL4.out hb5)
  clear hb5 HC4 HAT4 HL4 HSI
  go_wp2_with fail
  refine (K4.out _ HL5.out).mono ?_
  rintro e w12 ⟨b1, m1, e1, rfl, hq1, hb12⟩
  have hl12 := Lat.alloc w12 (.cells #[.int .i64 D2, .int .i64 G2, .slice b1 m1 e1] 24)
  have Q12 := Lib.hid (hq1.keep hl12)
  have HL12 := Lib.hid (Lat.trans HL5.out (Lat.trans hb12 hl12))
  clear hq1 hb12 hl12 HL5 K4
  go_wp2_with fail
  refine (K5.out _ HL12.out).mono ?_
  rintro e w13 ⟨b2, m2, e2, rfl, hq2, hb13⟩
  have hl13 := Lat.alloc w13 (.cells #[.int .i64 D2, .int .i64 G2, .slice b2 m2 e2] 24)
  have HL13 := Lib.hid (Lat.trans HL12.out (Lat.trans hb13 hl13))
  have Q13 := Lib.hid (Q12.out.keep (Lat.trans hb13 hl13))
  have Q13b := Lib.hid (hq2.keep hl13)
  have x0 := Lib.hid ((Lat.trans hb13 hl13).cell_at (cell_new rfl rfl : (w12.alloc (.cells #[.int .i64 D2, .int .i64 G2, .slice b1 m1 e1] 24)).cell? ⟨w12.heap.size, 0, none⟩ = some (.int .i64 D2)))
  have x1 := Lib.hid ((Lat.trans hb13 hl13).cell_at (cell_new rfl rfl : (w12.alloc (.cells #[.int .i64 D2, .int .i64 G2, .slice b1 m1 e1] 24)).cell? ⟨w12.heap.size, 1, none⟩ = some (.int .i64 G2)))
  have x2 := Lib.hid ((Lat.trans hb13 hl13).cell_at (cell_new rfl rfl : (w12.alloc (.cells #[.int .i64 D2, .int .i64 G2, .slice b1 m1 e1] 24)).cell? ⟨w12.heap.size, 2, none⟩ = some (.slice b1 m1 e1)))
  clear hq2 hb13 hl13 HL12 Q12 K5
  go_wp2_with fail
  refine (sameErr_any E2 _ (HG.out.keep HL13.out)).mono ?_
  rintro e w14 ⟨rfl, hb14⟩
  have y0 := hb14.cell_at x0.out
  have y1 := hb14.cell_at x1.out
  have y2 := hb14.cell_at x2.out
  have z0 : w14.cell? ⟨w13.heap.size, 0, none⟩ = some (.int .i64 D2) := hb14.cell_at (cell_new rfl rfl)
  have z1 : w14.cell? ⟨w13.heap.size, 1, none⟩ = some (.int .i64 G2) := hb14.cell_at (cell_new rfl rfl)
  have z2 : w14.cell? ⟨w13.heap.size, 2, none⟩ = some (.slice b2 m2 e2) := hb14.cell_at (cell_new rfl rfl)
  have Q14 := Lib.hid (Q13.out.keep hb14)
  have Q14b := Lib.hid (Q13b.out.keep hb14)
  have HL14 := Lib.hid (Lat.trans HL13.out hb14)
  have HSP := Lib.hid (show sameP D2 G2 R2 D2 G2 R2 = true from decide_eq_true ⟨rfl, rfl, rfl⟩)
  clear hb14 x0 x1 x2 Q13 Q13b HL13
  go_wp2_with fail
  refine (samePic_any D2 G2 b2 m2 e2 R2 D2 G2 b1 m1 e1 R2 _ Q14b.out Q14.out).mono ?_
  rw [HSP.out]
  rintro e w15 ⟨rfl, hb15⟩
  have HL15 := Lib.hid (Lat.trans HL14.out hb15)
  clear hb15 y0 y1 y2 z0 z1 z2 HL14 Q14 Q14b HSP
  obtain ⟨T3, hT3⟩ : ∃ b : Bool, b = decide (stepB s = false ∨ restB n = false) := ⟨_, rfl⟩
  have HT3 := Lib.hid hT3
  clear hT3
  go_upto_region 14 with fail
  go_cut [95] (fun c wx => c = .bool T3 ∧ w15 = wx)
  case first =>
    have hd : (decide (s < 1) = true ∧ T3 = true) ∨ (decide (s < 1) = false ∧ decide (64 < s) = true ∧ T3 = true) ∨ (decide (s < 1) = false ∧ decide (64 < s) = false ∧ decide (n < -255) = true ∧ T3 = true) ∨ (decide (s < 1) = false ∧ decide (64 < s) = false ∧ decide (n < -255) = false ∧ decide (255 < n) = true ∧ T3 = true) ∨
        (decide (s < 1) = false ∧ decide (64 < s) = false ∧ decide (n < -255) = false ∧ decide (255 < n) = false ∧ T3 = false) := by
      have hT := HT3.out
      by_cases p1 : s < 1
      · exact .inl ⟨decide_eq_true p1, by rw [hT]; exact decide_eq_true (.inl (by simp [stepB]; omega))⟩
      by_cases p2 : 64 < s
      · exact .inr (.inl ⟨decide_eq_false p1, decide_eq_true p2, by rw [hT]; exact decide_eq_true (.inl (by simp [stepB]; omega))⟩)
      by_cases p3 : n < -255
      · exact .inr (.inr (.inl ⟨decide_eq_false p1, decide_eq_false p2, decide_eq_true p3, by rw [hT]; exact decide_eq_true (.inr (by simp [restB]; omega))⟩))
      by_cases p4 : 255 < n
      · exact .inr (.inr (.inr (.inl ⟨decide_eq_false p1, decide_eq_false p2, decide_eq_false p3, decide_eq_true p4, by rw [hT]; exact decide_eq_true (.inr (by simp [restB]; omega))⟩)))
      · exact .inr (.inr (.inr (.inr ⟨decide_eq_false p1, decide_eq_false p2, decide_eq_false p3, decide_eq_false p4, by rw [hT]; exact decide_eq_false (fun h => by rcases h with h | h <;> simp [stepB, restB] at h <;> omega)⟩)))
    rcases hd with ⟨b1, q⟩ | ⟨b1, b2, q⟩ | ⟨b1, b2, b3, q⟩ | ⟨b1, b2, b3, b4, q⟩ | ⟨b1, b2, b3, b4, q⟩
    all_goals
      have HQ := Lib.hid q
      clear q
      go_wp2_with fail
      go_meet
      case rel => exact ⟨by rw [HQ.out], rfl⟩
  case rest =>
  obtain ⟨rfl, rfl⟩ := hcut
  go_upto_if 95 with fail
  go_cut [13, 21] (fun f k wx => f = .int .i64 E3 ∧ k = .int .i64 R3 ∧ w15 = wx)
  case first =>
    cases T3 with
    | true =>
      have hq := of_decide_eq_true HT3.out.symm
      have e1 : E3 = 1 := by rw [HE3.out]; unfold rndE; rw [if_pos hq]
      have e2 : R3 = 0 := by rw [HR3.out]; unfold rndR; rw [← HE3.out, if_neg (by omega)]
      have EE := Lib.hid e1
      have EF := Lib.hid e2
      clear hq e1 e2
      go_wp2_with fail
      go_meet
      case rel => exact ⟨by rw [EE.out]; rfl, by rw [EF.out], rfl⟩
    | false =>
      have hq := of_decide_eq_false HT3.out.symm
      have e1 : E3 = 0 := by rw [HE3.out]; unfold rndE; rw [if_neg hq]
      have e2 : R3 = near n s := by rw [HR3.out]; unfold rndR; rw [← HE3.out, if_pos e1]
      have hb := rndE_zero (n := n) (s := s) (by rw [← HE3.out]; exact e1)
      obtain ⟨s1, s64, n1, n2⟩ := hb
      have hk := fun W => refRound n s W (by omega) (by omega) s1 s64
      simp only [← e2] at hk
      have HK := Lib.hid hk
      have EE := Lib.hid e1
      clear hq e1 e2 hk
      go_wp2_with fail
      refine (HK.out _).mono ?_
      rintro e w' ⟨rfl, rfl⟩
      go_wp2_with fail
      go_meet
      case rel => exact ⟨by rw [EE.out]; rfl, rfl, rfl⟩
  case rest =>
  obtain ⟨rfl, rfl, rfl⟩ := hcut
  clear HT3 HE3 HR3
  go_wp2_with fail
  refine (K6.out _).mono ?_
  rintro e w' ⟨rfl, rfl⟩
  go_wp2_with fail
  refine (sameErr_any E3 _ (HG.out.keep HL15.out)).mono ?_
  rintro e w16 ⟨rfl, hb16⟩
  go_wp2
  go_ret
  exact ⟨rfl, Lat.trans HL15.out hb16⟩
end Go.Proofs.YtnnjijdpenifjaaDoor
