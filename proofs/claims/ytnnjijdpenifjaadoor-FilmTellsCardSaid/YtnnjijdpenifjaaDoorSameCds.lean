/- The contract of dropsame.Film, where it answers yes. -/
import Derived.Test.YtnnjijdpenifjaaDoorFilmRow
import Derived.Test.YtnnjijdpenifjaaDoorSameCod
import Derived.StillTailTactics
namespace Go.Proofs.YtnnjijdpenifjaaDoor
open Go.ChangeShapes Go.WideShapes Go.ChangeAt Go.RowKit

set_option maxHeartbeats 1000000 in
set_option maxRecDepth 100000 in
theorem sameCds_yes (a : Option Addr) (n cap : Nat) (cs : List Cd) (a2 : Option Addr) (cap2 : Nat) (ds : List Cd) (w : World) (h : CodsAt w a n cap cs) (h2 : CodsAt w a2 n cap2 ds) (he : cs.map Cd.c = ds.map Cd.c) :
    Calls Tryd.prog 46 #[.slice a n cap, .slice a2 n cap2] w fun e w' => e = .returned (.bool true) ∧ Lat w w' := by
  have hc := h.cap
  have hle := h.le
  unfold maxLen at hc
  have dn : ((n : Int) != (n : Int)) = false := by simp
  have H1 := Lib.hid h
  have H2 := Lib.hid h2
  have HE := Lib.hid he
  clear h h2 he
  go_enter Tryd.func46, Tryd.ntmps46
  go_wp2_with fail
  go_loopw [5] (fun i wr => ∃ k : Nat, k ≤ n ∧ i = .int .i64 k ∧ Hid (Lat w wr)) (fun i _ => n - (intOf i).toNat)
  case atStart => exact ⟨0, Nat.zero_le _, rfl, Lat.refl _⟩
  case round =>
    obtain ⟨k, hk, rfl, hrel⟩ := hrel
    by_cases hlt : k < n
    · obtain ⟨b1, o1, rfl, _, hc1⟩ := cods_at H1.out (by omega)
      obtain ⟨b2, o2, rfl, _, hc2⟩ := cods_at H2.out (by omega)
      obtain ⟨x0, x1, x2, x3, xi⟩ := hc1 k hlt
      obtain ⟨y0, y1, y2, y3, yi⟩ := hc2 k hlt
      have hp : (cs.getD k default).c = (ds.getD k default).c := by
        rw [← cts_getD (by have := H1.out.len; omega), ← cts_getD (by have := H2.out.len; omega), HE.out]
      obtain ⟨⟨⟨pl, px, py, pz⟩, pa, pn, pc⟩, hP⟩ : ∃ p, p = cs.getD k default := ⟨_, rfl⟩
      obtain ⟨⟨⟨ql, qx, qy, qz⟩, qa, qn, qc⟩, hQ⟩ : ∃ p, p = ds.getD k default := ⟨_, rfl⟩
      rw [← hP] at x0 x1 x2 x3 xi hp
      rw [← hQ] at y0 y1 y2 y3 yi hp
      simp only [Ct.mk.injEq] at hp
      obtain ⟨rfl, rfl, rfl, rfl⟩ := hp
      have x0 := hrel.out.cell_at x0
      have x1 := hrel.out.cell_at x1
      have x2 := hrel.out.cell_at x2
      have x3 := hrel.out.cell_at x3
      have y0 := hrel.out.cell_at y0
      have y1 := hrel.out.cell_at y1
      have y2 := hrel.out.cell_at y2
      have y3 := hrel.out.cell_at y3
      have HXI := Lib.hid (xi.keep hrel.out)
      have HYI := Lib.hid (yi.keep hrel.out)
      have hsp : sameC pl px py pz pl px py pz = true := decide_eq_true ⟨rfl, rfl, rfl, rfl⟩
      have HSP := Lib.hid hsp
      clear hc1 hc2 xi yi hP hQ hsp
      go_wp2_with fail
      go_still_tail 8, (by kernel_rfl)
      change wpList _ _ _ _ _ wr.drew
      have hdr : Lat wr wr.drew := Lat.drewN wr 1
      have HDR := Lib.hid hdr
      have HWD := Lib.hid (Lat.trans hrel.out hdr)
      clear hdr
      generalize wr.drew = w4 at *
      go_wp2_with fail
      refine (sameCod_any pl px py pa pn pc pz pl px py qa qn qc pz w4 (HXI.out.keep HDR.out) (HYI.out.keep HDR.out)).mono ?_
      rw [HSP.out]
      rintro e w5 ⟨rfl, hb5⟩
      have HB5 := Lib.hid (Lat.trans HWD.out hb5)
      clear hb5
      go_wp2_with fail
      go_roundw
      case rel => exact ⟨k + 1, by omega, by go_num, HB5.out⟩
      case measure => simp [intOf]; omega
    · go_wp2_with fail
      go_ret
      exact ⟨rfl, hrel.out⟩
end Go.Proofs.YtnnjijdpenifjaaDoor
