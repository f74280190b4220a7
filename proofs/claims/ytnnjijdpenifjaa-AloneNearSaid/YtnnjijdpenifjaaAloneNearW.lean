/- The walk of AloneNear: it returns true, whatever the picture, the step, and the number. -/
import Derived.Test.YtnnjijdpenifjaaAloneEnc
import Derived.Test.YtnnjijdpenifjaaOpenPic
import Derived.Deep.DeepCutAuto
import Derived.Deep.CutBlock
namespace Go.Proofs.Ytnnjijdpenifjaa
open Go.ChangeShapes Go.WideShapes Go.ChangeAt Go.RowKit

theorem rndE_one {n s : Int} (h : rndE n s ≠ 0) : rndE n s = 1 := by
  unfold rndE at h ⊢
  split at h
  · rename_i h1; rw [if_pos h1]
  · omega
theorem errv_eql (n : Nat) (w : World) : (binOp .eql 28 (errv n) .nilIface).run Try.prog w = .ok (.bool (decide (n = 0))) w := by
  by_cases h : n = 0
  · rw [errv_zero h, h]; kernel_rfl
  · rw [errv_pos h, decide_eq_false h]; kernel_rfl
theorem errv_neq (n : Nat) (w : World) : (binOp .neq 28 (errv n) .nilIface).run Try.prog w = .ok (.bool (decide (n ≠ 0))) w := by
  by_cases h : n = 0
  · rw [errv_zero h, h]; kernel_rfl
  · rw [errv_pos h, decide_eq_true h]; kernel_rfl
theorem errv_guard (op : BinOp) (a : Operand) (n : Nat) (w : World) : (eqGuard op 28 a (.const .nilIface) (errv n) .nilIface).run Try.prog w = .ok () w := by
  by_cases h : n = 0
  · rw [errv_zero h]; cases op <;> cases a <;> kernel_rfl
  · rw [errv_pos h]; cases op <;> kernel_rfl
theorem round_54 (w : World) : Calls Try.prog 16 #[.int .i64 (-5), .int .i64 4] w fun e w' => e = .returned (.tuple #[.int .i64 (-1), .nilIface]) ∧ w = w' := by
  have := round_ok (-5) 4 w (by decide)
  have e : near (-5) 4 = -1 := by decide
  rw [e] at this
  exact this

set_option maxHeartbeats 2000000 in
set_option maxRecDepth 100000 in
theorem walk_aloneNear (wd hg : Int) (a : Option Addr) (n cap : Nat) (zs : List Int) (s x : Int) (w : World) (h : PicAt w wd hg a n cap zs) (_ : (Lit.int .i64 s).wf = true) (_ : (Lit.int .i64 x).wf = true) :
    Calls Try.prog 6 #[picV wd hg a n cap, .int .i64 s, .int .i64 x] w fun e w' => e = .returned (.bool true) ∧ Lat w w' := by
  obtain ⟨W0, hW0⟩ : ∃ W, W = w.alloc (.cells #[.int .i64 wd, .int .i64 hg, .slice a n cap] 24) := ⟨_, rfl⟩
  have hat : IntsAt W0 a n cap zs := by rw [hW0]; exact h.pix.keep (Lat.alloc _ _)
  have hl0 : Lat w W0 := by rw [hW0]; exact Lat.alloc _ _
  have k0 : W0.cell? ⟨w.heap.size, 0, none⟩ = some (.int .i64 wd) := by rw [hW0]; simp
  have k1 : W0.cell? ⟨w.heap.size, 1, none⟩ = some (.int .i64 hg) := by rw [hW0]; simp
  have k2 : W0.cell? ⟨w.heap.size, 2, none⟩ = some (.slice a n cap) := by rw [hW0]; simp
  have HAT := Lib.hid hat
  have HL0 := Lib.hid hl0
  clear h hat hl0
  go_enter Try.func6, Try.ntmps6
  go_upto_region 1 with fail
  rw [← hW0]
  clear hW0
  go_wp2_with fail
  refine (round_54 _).mono ?_
  rintro e w' ⟨rfl, rfl⟩
  go_wp2_with fail
  have hstep : Calls Try.prog 16 #[.int .i64 x, .int .i64 s] W0 fun e w' => (∃ v, e = .returned (.tuple #[.int .i64 v, errv (rndE x s)]) ∧ (rndE x s = 0 → v = near x s)) ∧ W0 = w' := by
    by_cases hr : rndE x s = 0
    · exact (round_ok x s W0 hr).mono fun e w' ⟨h1, h2⟩ => ⟨⟨near x s, by rw [h1, errv_zero hr], fun _ => rfl⟩, h2⟩
    · exact (round_bad x s W0 hr).mono fun e w' ⟨h1, h2⟩ => ⟨⟨0, by rw [h1, errv_pos hr, rndE_one hr]; rfl, fun h => absurd h hr⟩, h2⟩
  refine hstep.mono ?_
  rintro e w' ⟨⟨V, rfl, hV⟩, rfl⟩
  clear hstep
  have HV := Lib.hid hV
  clear hV
  obtain ⟨RE, hRE⟩ : ∃ r, r = rndE x s := ⟨_, rfl⟩
  rw [← hRE] at HV ⊢
  have HRE := Lib.hid hRE
  clear hRE
  obtain ⟨TE, hTE⟩ : ∃ t : Bool, t = decide (RE = 0) := ⟨_, rfl⟩
  have heq := errv_eql RE
  rw [← hTE] at heq
  have HTE := Lib.hid hTE
  clear hTE
  have hgd := fun op a => errv_guard op a RE
  go_upto_if 34 with fail
  go_cut [11] (fun _ wx => W0 = wx)
  case first =>
    by_cases hr : RE = 0
    · have hv := HV.out hr
      have hb := rndE_zero (n := x) (s := s) (by rw [← HRE.out]; exact hr)
      obtain ⟨s1, s64, x1, x2⟩ := hb
      have hn := near_bd x s s1 255 (by omega) (by omega)
      have hh := near_half x s s1
      rw [← hv] at hn hh
      have hm := mul_bd V s hn.1 hn.2 s1 s64
      obtain ⟨M, hM⟩ : ∃ m, m = V * s := ⟨_, rfl⟩
      rw [← hM] at hm hh
      have eM : V * s = M := hM.symm
      obtain rfl : TE = true := by rw [HTE.out]; exact decide_eq_true hr
      clear hv hr heq hgd hM
      by_cases hd : x - M < 0
      · have d1 : decide (x - M < 0) = true := decide_eq_true hd
        have d2 : decide (s / 2 < -(x - M)) = false := decide_eq_false (by omega)
        have d3 : decide (s / 2 < M - x) = false := decide_eq_false (by omega)
        clear hd
        go_wp2_with fail
        go_meet
        case rel => exact rfl
      · have d1 : decide (x - M < 0) = false := decide_eq_false hd
        have d2 : decide (s / 2 < x - M) = false := decide_eq_false (by omega)
        clear hd
        go_wp2_with fail
        go_meet
        case rel => exact rfl
    · obtain rfl : TE = false := by rw [HTE.out]; exact decide_eq_false hr
      clear hr heq hgd
      go_wp2_with fail
      go_meet
      case rel => exact rfl
  case rest =>
  obtain rfl := hcut
  clear heq hgd HV
  by_cases he : encE wd hg zs s = 0
  case neg =>
    have HE := Lib.hid he
    clear he
    go_wp2_with fail
    refine (encode_bad wd hg a n cap zs s _ HAT.out HE.out).mono ?_
    rintro e w1 ⟨rfl, hb1⟩
    go_wp2
    go_ret
    exact ⟨rfl, Lat.trans HL0.out hb1⟩
  obtain ⟨hok, s1, s64⟩ := encE_zero he
  have hlen := hok.len
  have hn36 := hok.len_le
  have hl := HAT.out.len
  have hnear := cod_near zs wd.toNat s s1 hok.pix n
  have hub := unl_nonneg zs (cod zs wd.toNat s n).2 n
  have hone : s = 1 → (cod zs wd.toNat s n).2 = zs := fun e => by subst e; rw [← hl]; exact cod_one zs wd.toNat hok.pix
  have hdc : dcE wd hg s (cod zs wd.toNat s n).1 = 0 := dcE_of hok.w1 hok.w6 hok.h1 hok.h6 s1 s64 (by rw [(cod_len zs wd.toNat s n).1]; omega) (cod_bd zs wd.toNat s s1 hok.pix n)
  have htel : tel (cod zs wd.toNat s n).1 wd.toNat s n = (cod zs wd.toNat s n).2 := tel_cod zs wd.toNat s n n (Nat.le_refl _)
  have hok2 : PicOk wd hg (cod zs wd.toNat s n).2 := ⟨hok.w1, hok.w6, hok.h1, hok.h6, by rw [(cod_len zs wd.toNat s n).2]; omega, cod_pix zs wd.toNat s n⟩
  have halk : alkE wd hg zs wd hg (cod zs wd.toNat s n).2 = 0 := alkE_zero.2 ⟨chkPic_of hok, chkPic_of hok2, rfl, rfl⟩
  obtain ⟨RS, hRS⟩ : ∃ r, r = (cod zs wd.toNat s n).1 := ⟨_, rfl⟩
  obtain ⟨TD, hTD⟩ : ∃ r, r = (cod zs wd.toNat s n).2 := ⟨_, rfl⟩
  obtain ⟨U, hU⟩ : ∃ r, r = unl zs TD n := ⟨_, rfl⟩
  rw [← hTD] at hnear hub hone htel hok2 halk
  rw [← hRS] at hdc htel
  rw [← hU] at hnear hub
  have HE := Lib.hid he
  have HRS := Lib.hid hRS
  have HU := Lib.hid hU
  have HONE := Lib.hid hone
  have HDC := Lib.hid hdc
  have HTEL := Lib.hid htel
  have HALK := Lib.hid halk
  clear he hRS hTD hU hone hdc htel halk hok hok2 hlen hn36 hl
  go_wp2_with fail
  refine (encode_ok wd hg a n cap zs s _ HAT.out HE.out).mono ?_
  rintro e w1 ⟨b1, c1, rfl, hat1, hb1⟩
  rw [← HRS.out] at hat1
  have q0 := hb1.cell_at k0
  have q1 := hb1.cell_at k1
  have q2 := hb1.cell_at k2
  have HB1 := Lib.hid hb1
  have HAT1 := Lib.hid hat1
  clear hb1 hat1 k0 k1 k2
  go_wp2_with fail
  refine (decode_ok wd hg s b1 n c1 RS _ HAT1.out HDC.out).mono ?_
  rintro e w2 ⟨b2, c2, rfl, hat2, hb2⟩
  rw [HTEL.out] at hat2
  have HAT2 := Lib.hid (hat2.keep (Lat.alloc w2 (.cells #[.int .i64 wd, .int .i64 hg, .slice b2 n c2] 24)))
  have hb02 := Lat.trans HB1.out (Lat.trans hb2 (Lat.alloc w2 (.cells #[.int .i64 wd, .int .i64 hg, .slice b2 n c2] 24)))
  have HB02 := Lib.hid hb02
  have r0 := hb2.cell_at q0
  have r1 := hb2.cell_at q1
  have r2 := hb2.cell_at q2
  have hlt : w.heap.size < w2.heap.size := World.block_lt_of_cell? _ _ r0
  clear hb2 hat2 q0 q1 q2 hb02
  go_wp2_with fail
  refine (unlike_ok wd hg a n cap zs wd hg b2 n c2 TD _ (HAT.out.keep HB02.out) HAT2.out HALK.out).mono ?_
  rw [← HU.out]
  rintro e w3 ⟨rfl, hb3⟩
  have d1 : decide (U ≤ s / 2) = true := decide_eq_true (by omega)
  by_cases hs1 : s = 1
  · have d2 : (s != 1) = false := by rw [bne_eq_false_iff_eq]; exact hs1
    have hone := HONE.out hs1
    have hsame : sameP wd hg zs wd hg TD = true := decide_eq_true ⟨rfl, rfl, hone.symm⟩
    have HSAME := Lib.hid hsame
    have x0 := hb3.cell_at (p := ⟨w2.heap.size, 0, none⟩) (v := .int .i64 wd) (by simp)
    have x1 := hb3.cell_at (p := ⟨w2.heap.size, 1, none⟩) (v := .int .i64 hg) (by simp)
    have x2 := hb3.cell_at (p := ⟨w2.heap.size, 2, none⟩) (v := .slice b2 n c2) (by simp)
    have y0 := (Lat.trans (Lat.alloc w2 _) hb3).cell_at r0
    have y1 := (Lat.trans (Lat.alloc w2 _) hb3).cell_at r1
    have y2 := (Lat.trans (Lat.alloc w2 _) hb3).cell_at r2
    have HB3 := Lib.hid hb3
    clear hs1 hone hsame hb3 r0 r1 r2
    go_wp2_with fail
    refine (samePic_any wd hg a n cap zs wd hg b2 n c2 TD _ ((HAT.out.keep HB02.out).keep HB3.out) (HAT2.out.keep HB3.out)).mono ?_
    rw [HSAME.out]
    rintro e w4 ⟨rfl, hb4⟩
    go_wp2
    go_ret
    exact ⟨rfl, Lat.trans HL0.out (Lat.trans HB02.out (Lat.trans HB3.out hb4))⟩
  · have d2 : (s != 1) = true := by rw [bne_iff_ne]; exact hs1
    clear hs1
    go_wp2
    go_ret
    exact ⟨rfl, Lat.trans HL0.out (Lat.trans HB02.out hb3)⟩
end Go.Proofs.Ytnnjijdpenifjaa
