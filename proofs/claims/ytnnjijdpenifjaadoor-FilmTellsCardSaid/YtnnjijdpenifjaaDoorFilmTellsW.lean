/- The walk of FilmTells: it returns true, whatever it is asked. -/
import Derived.Test.YtnnjijdpenifjaaDoorRefFilm
import Derived.Test.YtnnjijdpenifjaaDoorRefSeen
import Derived.Test.YtnnjijdpenifjaaDoorFilmDec
import Derived.Test.YtnnjijdpenifjaaDoorSameCds
import Derived.Test.YtnnjijdpenifjaaDoorSamePds
import Derived.Test.YtnnjijdpenifjaaDoorSame
import Derived.Test.YtnnjijdpenifjaaDoorOpenCods
import Derived.Deep.DeepCutAuto
import Derived.Deep.CutBlock
namespace Go.Proofs.YtnnjijdpenifjaaDoor
open Go.ChangeShapes Go.WideShapes Go.ChangeAt Go.RowKit

set_option maxHeartbeats 4000000 in
set_option maxRecDepth 100000 in
theorem walk_filmTells (a0 : Option Addr) (n0 c0 : Nat) (ps : List Pc) (ev s wd hi : Int) (a5 : Option Addr) (n5 c5 : Nat) (qs : List Cd) (w : World) (hg : Hnd w) (h0 : PicsAt w a0 n0 c0 ps) (_ : (Lit.int .i64 ev).wf = true) (_ : (Lit.int .i64 s).wf = true) (_ : (Lit.int .i64 wd).wf = true) (_ : (Lit.int .i64 hi).wf = true) (h5 : CodsAt w a5 n5 c5 qs) :
    Calls Tryd.prog 10 #[.slice a0 n0 c0, .int .i64 ev, .int .i64 s, .int .i64 wd, .int .i64 hi, .slice a5 n5 c5] w fun e w' => e = .returned (.bool true) ∧ Lat w w' := by
  have hl := h0.len
  have k1 := fun W (hW : Lat w W) => refFilm_any a0 n0 c0 ps ev s W (h0.keep hW)
  have k2 := fun W (hW : Lat w W) he => refShot a0 n0 c0 ps ev s W (h0.keep hW) he
  have k3 := fun W (hW : Lat w W) => fencode_any a0 n0 c0 ps ev s W (h0.keep hW)
  have k4 := fun W (hW : Lat w W) => refSeen wd hi s a5 n5 c5 qs W (h5.keep hW)
  have k5 := fun W (hW : Lat w W) => fdecode_any wd hi s a5 n5 c5 qs W (h5.keep hW)
  obtain ⟨E, hE⟩ : ∃ E, E = fenE (ps.map Pc.pt) ev s := ⟨_, rfl⟩
  obtain ⟨R, hR⟩ : ∃ E, E = fenL (ps.map Pc.pt) ev s := ⟨_, rfl⟩
  obtain ⟨E2, hE2⟩ : ∃ E, E = fdE wd hi s (qs.map Cd.c) := ⟨_, rfl⟩
  obtain ⟨R2, hR2⟩ : ∃ E, E = fdL wd hi s (qs.map Cd.c) := ⟨_, rfl⟩
  have hr0 : E = 0 → (sht (ps.map Pc.pt) ev s n0).1 = R := fun h => by rw [hR]; unfold fenL; rw [if_pos (by rw [← hE]; exact h), List.length_map, hl]
  have hr1 : E ≠ 0 → R = [] := fun h => by rw [hR]; unfold fenL; rw [if_neg (by rw [← hE]; exact h)]
  simp only [← hE, ← hR, ← hE2, ← hR2] at k1 k2 k3 k4 k5
  have K1 := Lib.hid k1
  have K2 := Lib.hid k2
  have K3 := Lib.hid k3
  have K4 := Lib.hid k4
  have K5 := Lib.hid k5
  have HR0 := Lib.hid hr0
  have HR1 := Lib.hid hr1
  have HG := Lib.hid hg
  clear k1 k2 k3 k4 k5 hr0 hr1 hg h0 h5 hE hR hE2 hR2 hl
  go_enter Tryd.func10, Tryd.ntmps10
  go_wp2_with fail
  refine (K1.out w (Lat.refl w)).mono ?_
  rintro e w1 ⟨rfl, hb1⟩
  have HB1 := Lib.hid hb1
  clear hb1
  go_upto_if 26 with fail
  go_cut [14] (fun v wx => ∃ (a : Option Addr) (n c : Nat) (cs : List Cd), v = .slice a n c ∧ Hid (CodsAt wx a n c cs ∧ cs.map Cd.c = R ∧ Lat w wx))
  case first =>
    by_cases he : E = 0
    · have t0 : ((E : Int) == 0) = true := beq_iff_eq.2 (by omega)
      have hcall := K2.out w1 HB1.out he
      rw [HR0.out he] at hcall
      have HCL := Lib.hid hcall
      clear hcall he
      go_wp2_with fail
      refine HCL.out.mono ?_
      rintro e w2 ⟨va, vc, cs, rfl, hat, hcs, hb2⟩
      have HAT := Lib.hid hat
      have HCS := Lib.hid hcs
      have HB2 := Lib.hid (Lat.trans HB1.out hb2)
      clear hat hcs hb2
      go_wp2_with fail
      go_meet
      case rel => exact ⟨va, n0, vc, cs, rfl, HAT.out, HCS.out, HB2.out⟩
    · have t0 : ((E : Int) == 0) = false := beq_eq_false_iff_ne.2 (by omega)
      have HR := Lib.hid (HR1.out he)
      clear he
      go_wp2_with fail
      go_meet
      case rel => exact ⟨none, 0, 0, [], rfl, CodsAt.nil _, by rw [HR.out]; rfl, HB1.out⟩
  case rest =>
  obtain ⟨wa, wn, wcp, cs, rfl, hcut⟩ := hcut
  have HW := Lib.hid hcut.out.1
  have HWC := Lib.hid hcut.out.2.1
  have HB2 := Lib.hid hcut.out.2.2
  clear hcut
  generalize wc = w2 at *
  go_wp2_with fail
  refine (K3.out w2 HB2.out).mono ?_
  rintro e w3 ⟨xa, xc, xs, rfl, hat, hxs, hb3⟩
  have HX := Lib.hid hat
  have HXC := Lib.hid hxs
  have HW3 := Lib.hid (HW.out.keep hb3)
  have HB3 := Lib.hid (Lat.trans HB2.out hb3)
  clear hat hxs hb3
  go_wp2_with fail
  refine (sameErr_any E _ (HG.out.keep HB3.out)).mono ?_
  rintro e w4 ⟨rfl, hb4⟩
  have HX4 := Lib.hid (HX.out.keep hb4)
  have HW4 := Lib.hid (HW3.out.keep hb4)
  have HB4 := Lib.hid (Lat.trans HB3.out hb4)
  have hln : xs.length = wn := by
    have h1 := congrArg List.length HXC.out
    have h2 := congrArg List.length HWC.out
    rw [List.length_map] at h1 h2
    have h3 := HW.out.len
    omega
  rw [hln] at HX4 ⊢
  clear hb4 hln
  go_wp2_with fail
  refine (sameCds_yes xa wn xc xs wa wcp cs w4 HX4.out HW4.out (by rw [HXC.out, HWC.out])).mono ?_
  rintro e w5 ⟨rfl, hb5⟩
  have HB5 := Lib.hid (Lat.trans HB4.out hb5)
  clear hb5
  go_wp2_with fail
  refine (K4.out w5 HB5.out).mono ?_
  rintro e w6 ⟨sa, sc, ss, rfl, hat, hss, hb6⟩
  have HS6 := Lib.hid hat
  have HSS := Lib.hid hss
  have HB6 := Lib.hid (Lat.trans HB5.out hb6)
  clear hat hss hb6
  go_wp2_with fail
  refine (K5.out w6 HB6.out).mono ?_
  rintro e w7 ⟨ya, yc, ys, rfl, hat, hys, hb7⟩
  have HY7 := Lib.hid hat
  have HYS := Lib.hid hys
  have HS7 := Lib.hid (HS6.out.keep hb7)
  have HB7 := Lib.hid (Lat.trans HB6.out hb7)
  clear hat hys hb7
  go_wp2_with fail
  refine (sameErr_any E2 _ (HG.out.keep HB7.out)).mono ?_
  rintro e w8 ⟨rfl, hb8⟩
  have HY8 := Lib.hid (HY7.out.keep hb8)
  have HS8 := Lib.hid (HS7.out.keep hb8)
  have HB8 := Lib.hid (Lat.trans HB7.out hb8)
  have hln : ys.length = ss.length := by
    have h1 := congrArg List.length HYS.out
    have h2 := congrArg List.length HSS.out
    rw [List.length_map] at h1 h2
    omega
  rw [hln] at HY8 ⊢
  clear hb8 hln
  go_wp2_with fail
  refine (samePds_yes ya ss.length yc ys sa sc ss w8 HY8.out HS8.out (by rw [HYS.out, HSS.out])).mono ?_
  rintro e w9 ⟨rfl, hb9⟩
  have HB9 := Lib.hid (Lat.trans HB8.out hb9)
  clear hb9
  go_wp2_with fail
  go_ret
  exact ⟨rfl, HB9.out⟩
end Go.Proofs.YtnnjijdpenifjaaDoor
