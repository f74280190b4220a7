/- The contracts of dropsame.Pictures, where it answers yes. -/
import Derived.Test.YtnnjijdpenifjaaDoorFilmRow
import Derived.Test.YtnnjijdpenifjaaDoorUnlike
import Derived.StillTailTactics
namespace Go.Proofs.YtnnjijdpenifjaaDoor
open Go.ChangeShapes Go.WideShapes Go.ChangeAt Go.RowKit

theorem pds_at {w : World} {a : Option Addr} {n cap : Nat} {cs : List Pd} (h : PdsAt w a n cap cs) (hn : n ≠ 0) : ∃ b off, a = some ⟨b, off, none⟩ ∧ b < w.heap.size ∧ ∀ j, j < n → Cells3 w b (off + j * 3) (.int .i64 (cs.getD j default).p.d) (.int .i64 (cs.getD j default).p.g) (.slice (cs.getD j default).a (cs.getD j default).n (cs.getD j default).cap) ∧
    IntsAt w (cs.getD j default).a (cs.getD j default).n (cs.getD j default).cap (cs.getD j default).p.zs := by
  obtain ⟨b, off, rfl, hc⟩ := h.at_ hn
  have hj : ∀ j, j < n → cs[j]? = some (cs.getD j default) := fun j hj => by rw [List.getD_eq_getElem?_getD, List.getElem?_eq_getElem (by rw [h.len]; exact hj)]; rfl
  refine ⟨b, off, rfl, World.block_lt_of_cell? _ _ (hc 0 _ (hj 0 (by omega))).c0, fun j hlt => ⟨hc j _ (hj j hlt), h.rest _ (List.mem_of_getElem? (hj j hlt))⟩⟩
theorem pts_of {cs : List Pd} {k : Nat} (h : k < cs.length) : (cs.map Pd.p).getD k default = (cs.getD k default).p := by
  rw [List.getD_eq_getElem?_getD, List.getD_eq_getElem?_getD, List.getElem?_map, List.getElem?_eq_getElem h]; rfl

set_option maxHeartbeats 1000000 in
set_option maxRecDepth 100000 in
theorem samePds_yes (a : Option Addr) (n cap : Nat) (cs : List Pd) (a2 : Option Addr) (cap2 : Nat) (ds : List Pd) (w : World) (h : PdsAt w a n cap cs) (h2 : PdsAt w a2 n cap2 ds) (he : cs.map Pd.p = ds.map Pd.p) :
    Calls Tryd.prog 49 #[.slice a n cap, .slice a2 n cap2] w fun e w' => e = .returned (.bool true) ∧ Lat w w' := by
  have hc := h.cap
  have hle := h.le
  unfold maxLen at hc
  have dn : ((n : Int) != (n : Int)) = false := by simp
  have H1 := Lib.hid h
  have H2 := Lib.hid h2
  have HE := Lib.hid he
  clear h h2 he
  go_enter Tryd.func49, Tryd.ntmps49
  go_wp2_with fail
  go_loopw [5] (fun i wr => ∃ k : Nat, k ≤ n ∧ i = .int .i64 k ∧ Hid (Lat w wr)) (fun i _ => n - (intOf i).toNat)
  case atStart => exact ⟨0, Nat.zero_le _, rfl, Lat.refl _⟩
  case round =>
    obtain ⟨k, hk, rfl, hrel⟩ := hrel
    by_cases hlt : k < n
    · obtain ⟨b1, o1, rfl, _, hc1⟩ := pds_at H1.out (by omega)
      obtain ⟨b2, o2, rfl, _, hc2⟩ := pds_at H2.out (by omega)
      obtain ⟨x3, xi⟩ := hc1 k hlt
      obtain ⟨y3, yi⟩ := hc2 k hlt
      have hp : (cs.getD k default).p = (ds.getD k default).p := by
        rw [← pts_of (by have := H1.out.len; omega), ← pts_of (by have := H2.out.len; omega), HE.out]
      obtain ⟨⟨⟨pd, pg, pz⟩, pa, pn, pc⟩, hP⟩ : ∃ p, p = cs.getD k default := ⟨_, rfl⟩
      obtain ⟨⟨⟨qd, qg, qz⟩, qa, qn, qc⟩, hQ⟩ : ∃ p, p = ds.getD k default := ⟨_, rfl⟩
      rw [← hP] at x3 xi hp
      rw [← hQ] at y3 yi hp
      simp only [Pt.mk.injEq] at hp
      obtain ⟨rfl, rfl, rfl⟩ := hp
      have hx := x3.keep hrel.out
      have hy := y3.keep hrel.out
      have x0 := hx.c0
      have x1 := hx.c1
      have x2 := hx.c2
      have y0 := hy.c0
      have y1 := hy.c1
      have y2 := hy.c2
      have HXI := Lib.hid (xi.keep hrel.out)
      have HYI := Lib.hid (yi.keep hrel.out)
      have hsp : sameP pd pg pz pd pg pz = true := decide_eq_true ⟨rfl, rfl, rfl⟩
      have HSP := Lib.hid hsp
      clear hc1 hc2 x3 xi y3 yi hP hQ hx hy hsp
      go_wp2_with fail
      go_still_tail 8, (by kernel_rfl)
      change wpList _ _ _ _ _ wr.drew
      have hdr : Lat wr wr.drew := Lat.drewN wr 1
      have HDR := Lib.hid hdr
      have HWD := Lib.hid (Lat.trans hrel.out hdr)
      clear hdr
      generalize wr.drew = w4 at *
      go_wp2_with fail
      refine (samePic_any pd pg pa pn pc pz pd pg qa qn qc pz w4 (HXI.out.keep HDR.out) (HYI.out.keep HDR.out)).mono ?_
      rw [HSP.out]
      rintro e w5 ⟨rfl, hb5⟩
      have HB5 := Lib.hid (Lat.trans HWD.out hb5)
      clear hb5 x0 x1 x2 y0 y1 y2
      go_wp2_with fail
      go_roundw
      case rel => exact ⟨k + 1, by omega, by go_num, HB5.out⟩
      case measure => simp [intOf]; omega
    · go_wp2_with fail
      go_ret
      exact ⟨rfl, hrel.out⟩
end Go.Proofs.YtnnjijdpenifjaaDoor
