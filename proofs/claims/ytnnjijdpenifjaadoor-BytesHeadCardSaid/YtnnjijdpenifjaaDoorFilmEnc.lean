/- The contract of film.Encode: one answer whatever is asked. -/
import Derived.Test.YtnnjijdpenifjaaDoorFilmRow
import Derived.Test.YtnnjijdpenifjaaDoorErrv
import Derived.Test.YtnnjijdpenifjaaDoorPic2
import Derived.Deep.DeepCutAuto
import Derived.Deep.CutBlock
namespace Go.Proofs.YtnnjijdpenifjaaDoor
open Go.ChangeShapes Go.WideShapes Go.ChangeAt Go.RowKit

theorem alkE_self (wd hg : Int) (zs : List Int) : alkE wd hg zs wd hg zs = chkPic wd hg zs := by
  unfold alkE
  by_cases h : chkPic wd hg zs = 0
  · rw [if_neg (by omega), if_neg (by omega), if_neg (by simp), h]
  · rw [if_pos h]
theorem pts_getD {ps : List Pc} {k : Nat} (h : k < ps.length) : (ps.map Pc.pt).getD k default = (ps.getD k default).pt := by
  rw [List.getD_eq_getElem?_getD, List.getD_eq_getElem?_getD, List.getElem?_map, List.getElem?_eq_getElem h]; rfl
theorem getElem?_getD {α : Type} [Inhabited α] {l : List α} {k : Nat} (h : k < l.length) : l[k]? = some (l.getD k default) := by
  rw [List.getD_eq_getElem?_getD, List.getElem?_eq_getElem h]; rfl
theorem pcs_at {w : World} {a : Option Addr} {n cap : Nat} {ps : List Pc} (h : PicsAt w a n cap ps) (hn : n ≠ 0) : ∃ b off, a = some ⟨b, off, none⟩ ∧ b < w.heap.size ∧ ∀ j, j < n → Cells3 w b (off + j * 3) (.int .i64 (ps.getD j default).wd) (.int .i64 (ps.getD j default).hg) (.slice (ps.getD j default).a (ps.getD j default).n (ps.getD j default).cap) ∧
    IntsAt w (ps.getD j default).a (ps.getD j default).n (ps.getD j default).cap (ps.getD j default).zs := by
  obtain ⟨b, off, rfl, hc⟩ := h.at_ hn
  have hj : ∀ j, j < n → ps[j]? = some (ps.getD j default) := fun j hj => getElem?_getD (by rw [h.len]; exact hj)
  refine ⟨b, off, rfl, World.block_lt_of_cell? _ _ (hc 0 _ (hj 0 (by omega))).c0, fun j hlt => ⟨hc j _ (hj j hlt), (h.pix _ (List.mem_of_getElem? (hj j hlt))).pix⟩⟩

set_option maxHeartbeats 2000000 in
set_option maxRecDepth 100000 in
theorem fencode_any (a : Option Addr) (n cap : Nat) (ps : List Pc) (ev s : Int) (w : World) (h : PicsAt w a n cap ps) :
    Calls Tryd.prog 43 #[.slice a n cap, .int .i64 ev, .int .i64 s] w fun e w' => ∃ va vc cs, e = .returned (.tuple #[.slice va cs.length vc, errv (fenE (ps.map Pc.pt) ev s)]) ∧ CodsAt w' va cs.length vc cs ∧
      cs.map Cd.c = fenL (ps.map Pc.pt) ev s ∧ Lat w w' := by
  have hl := h.len
  obtain ⟨E, hE⟩ : ∃ E, E = fenE (ps.map Pc.pt) ev s := ⟨_, rfl⟩
  have hE2 : E = if fchkE n ≠ 0 then fchkE n else if fstE (ps.map Pc.pt) n ≠ 0 then fstE (ps.map Pc.pt) n else if evB ev = false ∨ stepB s = false then 1 else 0 := by
    rw [hE]; unfold fenE; rw [List.length_map, hl]
  obtain ⟨R, hR⟩ : ∃ R, R = fenL (ps.map Pc.pt) ev s := ⟨_, rfl⟩
  have hr1 : E ≠ 0 → R = [] := fun h => by rw [hR]; unfold fenL; rw [if_neg (by rw [← hE]; exact h)]
  have hr0 : E = 0 → R = (sht (ps.map Pc.pt) ev s n).1 := fun h => by rw [hR]; unfold fenL; rw [if_pos (by rw [← hE]; exact h), List.length_map, hl]
  rw [← hE, ← hR]
  have HR1 := Lib.hid hr1
  have HR0 := Lib.hid hr0
  clear hR hr1 hr0
  have HE := Lib.hid hE
  have HE2 := Lib.hid hE2
  have HL := Lib.hid hl
  have H := Lib.hid h
  obtain ⟨C, hC⟩ : ∃ C, C = fchkE n := ⟨_, rfl⟩
  have hck := fun W => fcheck_any n W
  rw [← hC] at hck
  have HCK := Lib.hid hck
  have HC := Lib.hid hC
  clear hE hE2 hl h hck hC
  by_cases hC0 : C = 0
  case neg =>
    have e1 : E = C := by rw [HE2.out, if_pos (by rw [← HC.out]; exact hC0), HC.out]
    have hE0 : E ≠ 0 := by omega
    have hr := HR1.out hE0
    rw [hr, e1, errv_pos hC0]
    have HCK2 : Hid (∀ W, Calls Tryd.prog 81 #[.int .i64 n] W fun e w' => e = .returned (eno C) ∧ W = w') := fun W => by have := HCK.out W; rw [errv_pos hC0] at this; exact this
    clear e1 hE0 hC0 HCK hr
    go_enter Tryd.func43, Tryd.ntmps43
    go_wp2_with (go_at_call 81; refine (HCK2.out _).mono ?_; rintro e w' ⟨rfl, rfl⟩)
    go_ret2
    exact ⟨none, 0, [], rfl, CodsAt.nil _, rfl, Lat.refl _⟩
  subst hC0
  have hn : 1 ≤ n ∧ n ≤ 6 := by
    have := HC.out
    unfold fchkE at this
    split at this
    · omega
    split at this
    · omega
    omega
  obtain ⟨hn1, hn6⟩ := hn
  have HCK2 : Hid (∀ W, Calls Tryd.prog 81 #[.int .i64 n] W fun e w' => e = .returned .nilIface ∧ W = w') := fun W => by have := HCK.out W; rw [errv_zero rfl] at this; exact this
  obtain ⟨ba, oa, rfl, hba, hcs⟩ := pcs_at H.out (by omega)
  have HCS := Lib.hid hcs
  have HBA := Lib.hid hba
  clear hcs HCK hba
  go_enter Tryd.func43, Tryd.ntmps43
  go_wp2_with (go_at_call 81; refine (HCK2.out _).mono ?_; rintro e w' ⟨rfl, rfl⟩)
  go_loopw [26] (fun i wr => ∃ k : Nat, k ≤ n ∧ i = .int .i64 k ∧ Hid (fstE (ps.map Pc.pt) k = 0 ∧ Lat w wr)) (fun i _ => n - (intOf i).toNat)
  case atStart => exact ⟨0, Nat.zero_le _, rfl, rfl, Lat.refl _⟩
  case round =>
    obtain ⟨k, hk, rfl, hrel⟩ := hrel
    have hlat := Lib.hid hrel.out.2
    have hf0 := Lib.hid hrel.out.1
    clear hrel
    by_cases hlt : k < n
    · obtain ⟨hc3, hint⟩ := HCS.out k hlt
      obtain ⟨hz3, _⟩ := HCS.out 0 (by omega)
      have hfs : fstE (ps.map Pc.pt) (k + 1) = pcE (ps.getD 0 default).pt (ps.getD k default).pt := by
        rw [fstE, if_neg (by rw [hf0.out]; simp), pts_getD (by rw [HL.out]; omega), pts_getD (by rw [HL.out]; omega)]
      obtain ⟨p, hp⟩ : ∃ p, p = ps.getD k default := ⟨_, rfl⟩
      obtain ⟨p0, hp0⟩ : ∃ p, p = ps.getD 0 default := ⟨_, rfl⟩
      rw [← hp] at hc3 hint hfs
      rw [← hp0] at hz3 hfs
      rw [Nat.zero_mul, Nat.add_zero] at hz3
      have c0 := (hc3.keep hlat.out).c0
      have c1 := (hc3.keep hlat.out).c1
      have c2 := (hc3.keep hlat.out).c2
      have hi := hint.keep hlat.out
      have HZ := Lib.hid (hz3.keep hlat.out)
      have HFS := Lib.hid hfs
      have HI := Lib.hid hi
      clear hc3 hint hz3 hfs hp hp0 hi
      obtain ⟨pd, pg, pa, pn, pc, pz⟩ := p
      obtain ⟨qd, qg, qa, qn, qc, qz⟩ := p0
      have hl1 := Lib.hid (Lat.alloc wr (.cells #[.int .i64 pd, .int .i64 pg, .slice pa pn pc] 24))
      have hpc : pcE ⟨qd, qg, qz⟩ ⟨pd, pg, pz⟩ = if chkPic pd pg pz ≠ 0 then chkPic pd pg pz else if pd ≠ qd ∨ pg ≠ qg then 3 else 0 := rfl
      have HPC := Lib.hid hpc
      have hstop : ∀ e, e ≠ 0 → fstE (ps.map Pc.pt) (k + 1) = e → E = e := fun e he h1 => by
        have := fstE_stop (ps.map Pc.pt) (k + 1) (by rw [h1]; exact he) n hlt
        rw [HE2.out, if_neg (by rw [← HC.out]; simp), if_pos (by rw [this, h1]; exact he), this, h1]
      have HST := Lib.hid hstop
      obtain ⟨X, hX⟩ : ∃ X, X = chkPic pd pg pz := ⟨_, rfl⟩
      have ha := fun W (hW : Lat wr W) => alike_any pd pg pa pn pc pz pd pg pa pn pc pz W (HI.out.keep hW) (HI.out.keep hW)
      rw [alkE_self, ← hX] at ha
      have HA := Lib.hid ha
      have HX := Lib.hid hX
      clear hpc hstop ha hX
      go_wp2_with fail
      refine (HA.out _ hl1.out).mono ?_
      rintro e w1 ⟨rfl, hb1⟩
      have hlat1 := Lib.hid (Lat.trans (Lat.trans hlat.out hl1.out) hb1)
      have hc3 := (cells3_new (w := wr) (cs := #[.int .i64 pd, .int .i64 pg, .slice pa pn pc]) (t := 24) (g := wr.heap.size) (o := 0) rfl rfl rfl rfl).keep hb1
      have x0 := hc3.c0
      have x1 := hc3.c1
      have x2 := hc3.c2
      have hz := HZ.out.keep (Lat.trans hl1.out hb1)
      have z0 := hz.c0
      have z1 := hz.c1
      have z2 := hz.c2
      by_cases hX0 : X = 0
      case neg =>
        have e1 := HST.out X hX0 (by rw [HFS.out]; show pcE ⟨qd, qg, qz⟩ ⟨pd, pg, pz⟩ = X; rw [HPC.out, ← HX.out, if_pos hX0])
        rw [errv_pos hX0]
        have HE1 := Lib.hid e1
        have HX0 := Lib.hid hX0
        clear e1 hX0 hc3 hz z0 z1 z2 x0 x1 x2 hb1
        go_wp2_with fail
        go_ret2
        exact ⟨none, 0, [], by rw [HE1.out, errv_pos HX0.out]; rfl, CodsAt.nil _, by rw [HR1.out (by rw [HE1.out]; exact HX0.out)]; rfl, hlat1.out⟩
      rw [errv_zero hX0]
      clear hc3 hz hb1
      have hpe : pcE ⟨qd, qg, qz⟩ ⟨pd, pg, pz⟩ = if pd ≠ qd ∨ pg ≠ qg then 3 else 0 := by rw [HPC.out, ← HX.out, if_neg (by rw [hX0]; simp)]
      have hd : (((pd != qd) = true ∨ ((pd != qd) = false ∧ (pg != qg) = true)) ∧ fstE (ps.map Pc.pt) (k + 1) = 3) ∨ ((pd != qd) = false ∧ (pg != qg) = false ∧ fstE (ps.map Pc.pt) (k + 1) = 0) := by
        rw [HFS.out]
        show ((_ ∨ _) ∧ pcE ⟨qd, qg, qz⟩ ⟨pd, pg, pz⟩ = 3) ∨ (_ ∧ _ ∧ pcE ⟨qd, qg, qz⟩ ⟨pd, pg, pz⟩ = 0)
        rw [hpe]
        by_cases q1 : pd = qd
        · by_cases q2 : pg = qg
          · exact .inr ⟨by rw [bne_eq_false_iff_eq]; exact q1, by rw [bne_eq_false_iff_eq]; exact q2, by rw [if_neg (by simp [q1, q2])]⟩
          · exact .inl ⟨.inr ⟨by rw [bne_eq_false_iff_eq]; exact q1, by rw [bne_iff_ne]; exact q2⟩, by rw [if_pos (.inr q2)]⟩
        · exact .inl ⟨.inl (by rw [bne_iff_ne]; exact q1), by rw [if_pos (.inl q1)]⟩
      have HD := Lib.hid hd
      have dp : (0 : Int) < (n : Int) := by omega
      have dp2 : 0 < n := by omega
      clear hpe hd hX0
      rcases HD.out with ⟨t1 | ⟨t1, t2⟩, h3⟩ | ⟨t1, t2, h3⟩
      · have HE3 := Lib.hid (HST.out 3 (by omega) h3)
        clear h3
        go_wp2_with fail
        go_quiet (fail)
        go_wp2_with fail
        go_ret2
        exact ⟨none, 0, [], by rw [HE3.out, errv_pos (by omega)]; rfl, CodsAt.nil _, by rw [HR1.out (by rw [HE3.out]; omega)]; rfl, Lat.trans hlat1.out (Lat.drewN _ _)⟩
      · have HE3 := Lib.hid (HST.out 3 (by omega) h3)
        clear h3
        go_wp2_with fail
        go_quiet (fail)
        go_wp2_with fail
        go_ret2
        exact ⟨none, 0, [], by rw [HE3.out, errv_pos (by omega)]; rfl, CodsAt.nil _, by rw [HR1.out (by rw [HE3.out]; omega)]; rfl, Lat.trans hlat1.out (Lat.drewN _ _)⟩
      · have H3 := Lib.hid h3
        clear h3
        go_wp2_with fail
        go_quiet (fail)
        go_wp2_with fail
        go_roundw
        case rel => exact ⟨k + 1, by omega, by go_num, H3.out, Lat.trans hlat1.out (Lat.drewN _ _)⟩
        case measure => simp [intOf]; omega
    · obtain rfl : n = k := by omega
      obtain ⟨SB, hSB⟩ : ∃ b, b = stepB s := ⟨_, rfl⟩
      have hst := fun W => step_any s W
      rw [← hSB] at hst
      have HST := Lib.hid hst
      have hE3 : E = if evB ev = false ∨ SB = false then 1 else 0 := by
        rw [HE2.out, if_neg (by rw [← HC.out]; simp), if_neg (by rw [hf0.out]; simp), hSB]
      have hd : ((decide (ev < 1) = true ∨ (decide (ev < 1) = false ∧ decide (6 < ev) = true) ∨ (decide (ev < 1) = false ∧ decide (6 < ev) = false ∧ SB = false)) ∧ E = 1) ∨ (decide (ev < 1) = false ∧ decide (6 < ev) = false ∧ SB = true ∧ E = 0) := by
        rw [hE3]
        by_cases q1 : ev < 1
        · exact .inl ⟨.inl (decide_eq_true q1), if_pos (.inl (decide_eq_false (by omega)))⟩
        by_cases q2 : 6 < ev
        · exact .inl ⟨.inr (.inl ⟨decide_eq_false q1, decide_eq_true q2⟩), if_pos (.inl (decide_eq_false (by omega)))⟩
        cases SB with
        | false => exact .inl ⟨.inr (.inr ⟨decide_eq_false q1, decide_eq_false q2, rfl⟩), if_pos (.inr rfl)⟩
        | true => exact .inr ⟨decide_eq_false q1, decide_eq_false q2, rfl, if_neg (by simp [show evB ev = true from decide_eq_true (by omega)])⟩
      have HD := Lib.hid hd
      clear hst hE3 hd hSB HCS
      rcases HD.out with ⟨t1 | ⟨t1, t2⟩ | ⟨t1, t2, rfl⟩, h3⟩ | ⟨t1, t2, rfl, h3⟩
      · have HE1 := Lib.hid h3
        clear h3
        go_wp2_with fail
        go_ret2
        exact ⟨none, 0, [], by rw [HE1.out, errv_pos (by omega)]; rfl, CodsAt.nil _, by rw [HR1.out (by rw [HE1.out]; omega)]; rfl, hlat.out⟩
      · have HE1 := Lib.hid h3
        clear h3
        go_wp2_with fail
        go_ret2
        exact ⟨none, 0, [], by rw [HE1.out, errv_pos (by omega)]; rfl, CodsAt.nil _, by rw [HR1.out (by rw [HE1.out]; omega)]; rfl, hlat.out⟩
      · have HE1 := Lib.hid h3
        clear h3
        go_wp2_with (go_at_call 56; refine (HST.out _).mono ?_; rintro e w' ⟨rfl, rfl⟩)
        go_ret2
        exact ⟨none, 0, [], by rw [HE1.out, errv_pos (by omega)]; rfl, CodsAt.nil _, by rw [HR1.out (by rw [HE1.out]; omega)]; rfl, hlat.out⟩
      have hfok : FOk (ps.map Pc.pt) ev s := fenE_ok (by rw [← HE.out]; exact h3)
      have hall := (film_ok hfok n (by rw [List.length_map, HL.out]; exact Nat.le_refl _)).1
      have hr := HR0.out h3
      obtain ⟨PS, hPS⟩ : ∃ P, P = ps.map Pc.pt := ⟨_, rfl⟩
      rw [← hPS] at hall hr
      have HRR := Lib.hid hr
      have HE0 := Lib.hid h3
      have e1 := hfok.e1
      have e6 := hfok.e6
      have s1 := hfok.s1
      have s64 := hfok.s64
      have hpic : ∀ j, j < n → PicOk (ps.getD j default).wd (ps.getD j default).hg (ps.getD j default).zs := fun j hj => by
        obtain ⟨h1, h2, h3⟩ := hfok.pic j (by rw [List.length_map, HL.out]; exact hj)
        rw [← h2, ← h3, pts_getD (by rw [HL.out]; exact hj)] at h1
        exact h1
      have hpg : ∀ j, j < n → PS.getD j default = (ps.getD j default).pt := fun j hj => by rw [hPS]; exact pts_getD (by rw [HL.out]; exact hj)
      have hwg : ∀ j, j < n → (ps.getD j default).wd = (PS.getD 0 default).d ∧ (ps.getD j default).hg = (PS.getD 0 default).g := fun j hj => by
        obtain ⟨_, h2, h3⟩ := hfok.pic j (by rw [List.length_map, HL.out]; exact hj)
        rw [pts_getD (by rw [HL.out]; exact hj)] at h2 h3
        rw [hPS]
        exact ⟨h2, h3⟩
      obtain ⟨ba', oa', hae, _, hcs⟩ := pcs_at H.out (by omega)
      simp only [Option.some.injEq, Addr.mk.injEq] at hae
      obtain ⟨rfl, rfl, _⟩ := hae
      have HCS := Lib.hid hcs
      have HALL := Lib.hid hall
      have HPIC := Lib.hid hpic
      have HPG := Lib.hid hpg
      have HWG := Lib.hid hwg
      obtain ⟨W1, hW1⟩ : ∃ W, W = wr.alloc (.cells #[.int .i64 0, .int .i64 0, .slice none 0 0] 24) := ⟨_, rfl⟩
      obtain ⟨g, hg⟩ : ∃ g, g = wr.heap.size := ⟨_, rfl⟩
      have hglt : g < W1.heap.size := by rw [hg, hW1]; simp
      have hw1 : Lat wr W1 := by rw [hW1]; exact Lat.alloc _ _
      have hinv : FInv g W1 W1 (.slice none 0 0) default none 0 0 [] :=
        ⟨OwnR.nil _ _ _ _, But.refl _ _, by rw [hW1]; exact cells3_new hg rfl rfl rfl, fun k _ => by rw [hW1, hg]; simp, IntsAt.nil _, Off.none _ _ _, by simp, hglt⟩
      have HINV := Lib.hid hinv
      have HW1 := Lib.hid (Lat.trans hlat.out hw1)
      have HG := Lib.hid (show w.heap.size ≤ g by rw [hg]; exact hlat.out.size)
      clear hfok hall hr hPS hpic hpg hwg hcs hglt hw1 hinv h3 HE HE2 HR0 HR1 HC HD
      go_wp2_with (go_at_call 56; refine (HST.out _).mono ?_; rintro e w' ⟨rfl, rfl⟩)
      rw [← hW1, ← hg]
      clear hW1 hg
      obtain ⟨en, rfl⟩ := Int.eq_ofNat_of_zero_le (show 0 ≤ ev by omega)
      have en0 : (en : Int) ≠ 0 := by omega
      go_loopw [12, 68] (fun v i wx => ∃ k : Nat, k ≤ n ∧ i = .int .i64 k ∧ Hid (∃ la ln lc cs, FInv g W1 wx v (sht PS en s k).2 la ln lc cs ∧ cs.map Cd.c = (sht PS en s k).1)) (fun _ i _ => n - (intOf i).toNat)
      case atStart => exact ⟨0, Nat.zero_le _, rfl, none, 0, 0, [], HINV.out, rfl⟩
      case round =>
        obtain ⟨k, hk, rfl, hrel⟩ := hrel
        obtain ⟨la, ln, lc, cs, hf, hcs⟩ := hrel.out
        have HF := Lib.hid hf
        have HCT := Lib.hid hcs
        clear hrel hf hcs
        by_cases hlt : k < n
        · have hlatw : Lat w wr := HF.out.but.lat HW1.out HG.out
          obtain ⟨hc3, hint⟩ := HCS.out k hlt
          have hpk := HPIC.out k hlt
          have hst := HALL.out k hlt
          rw [HPG.out k hlt] at hst
          have hwg := HWG.out k hlt
          obtain ⟨p, hp⟩ : ∃ p, p = ps.getD k default := ⟨_, rfl⟩
          have hss : sht PS en s (k + 1) = ((sht PS en s k).1 ++ [cdS en s k (sht PS en s k).2 p.pt], tlS p.wd p.hg s (sht PS en s k).2 (cdS en s k (sht PS en s k).2 p.pt)) := by
            rw [sht_succ, HPG.out k hlt, hp]; rfl
          rw [← hwg.1, ← hwg.2] at hst
          rw [← hp] at hc3 hint hpk hst
          obtain ⟨L, hL⟩ : ∃ L, L = (sht PS en s k).2 := ⟨_, rfl⟩
          obtain ⟨C, hC⟩ : ∃ C, C = cdS en s k L p.pt := ⟨_, rfl⟩
          rw [← hL] at hst hss HF
          rw [← hC] at hss
          have c0 := (hc3.keep hlatw).c0
          have c1 := (hc3.keep hlatw).c1
          have c2 := (hc3.keep hlatw).c2
          have HI := Lib.hid (hint.keep hlatw)
          have HPK := Lib.hid hpk
          have HST := Lib.hid hst
          have HSS := Lib.hid hss
          have HCC := Lib.hid hC
          have hrw := rw_open wr p
          obtain ⟨W2, hW2⟩ : ∃ W, W = (wr.alloc (.cells #[.int .i64 p.wd, .int .i64 p.hg, .slice p.a p.n p.cap] 24)).alloc (.cells #[.bool true, .int .i64 0, .int .i64 0, .slice none 0 0] 53) := ⟨_, rfl⟩
          rw [← hW2] at hrw
          have HRW := Lib.hid hrw
          have hmod : (k : Int) % (en : Int) = ((k % en : Nat) : Int) := (Int.natCast_emod _ _).symm
          obtain ⟨M, hM⟩ : ∃ M, M = k % en := ⟨_, rfl⟩
          rw [← hM] at hmod
          clear hc3 hint hpk hst hss hC hrw hp hwg hM hL hlatw
          go_upto_region 21 with fail
          rw [← hW2]
          clear hW2 c0 c1 c2
          go_upto_if 77 with fail
          go_cut [17] (fun e wc => e = .nilIface ∧ ∃ (ca : Option Addr) (cn cc : Nat), Hid (Lat wr wc ∧ Cells3 wc wr.heap.size 0 (.int .i64 p.wd) (.int .i64 p.hg) (.slice p.a p.n p.cap) ∧ Cells4 wc (wr.heap.size + 1) (.bool C.al) (.int .i64 C.x) (.int .i64 C.y) (.slice ca cn cc) ∧ IntsAt wc ca cn cc C.rs ∧ Fresh wr ca cn))
          case first =>
            have hi2 := HI.out.keep HRW.out.lat
            have hx0 := HRW.out.p3.c0
            have hx1 := HRW.out.p3.c1
            have hx2 := HRW.out.p3.c2
            by_cases hM0 : M = 0
            · have dm : ((M : Int) == 0) = true := beq_iff_eq.2 (by omega)
              have hC2 : C = ⟨true, 0, 0, (cod p.zs p.wd.toNat s p.n).1⟩ := by
                rw [HCC.out]; unfold cdS; rw [if_pos (by rw [hmod, hM0]; rfl)]
                show Ct.mk true 0 0 (cod p.zs p.wd.toNat s p.zs.length).1 = _
                rw [HI.out.len]
              have hcall := code_anyF p.wd p.hg p.a p.n p.cap p.zs s W2 hi2 HPK.out s1 s64
              have HCL := Lib.hid hcall
              have HC2 := Lib.hid hC2
              clear hcall hi2 hM0 hC2
              go_wp2_with fail
              refine HCL.out.mono ?_
              rintro e w3 ⟨b, c, rfl, hat, hfr, hb3⟩
              have hc4 := HRW.out.c4.keep hb3
              have y0 := hc4.c0
              have y1 := hc4.c1
              have y2 := hc4.c2
              have y3 := hc4.c3
              have fz : w3.frozen? ⟨wr.heap.size + 1, 3, none⟩ = false := by rw [hb3.frozen (show wr.heap.size + 1 < W2.heap.size from HRW.out.sz)]; exact HRW.out.frz 3
              have ho := Only.set w3 ⟨wr.heap.size + 1, 3, none⟩ (.slice b p.n c)
              have hres : Lat wr (w3.setCell ⟨wr.heap.size + 1, 3, none⟩ (.slice b p.n c)) ∧ Cells3 (w3.setCell ⟨wr.heap.size + 1, 3, none⟩ (.slice b p.n c)) wr.heap.size 0 (.int .i64 p.wd) (.int .i64 p.hg) (.slice p.a p.n p.cap) ∧
                  Cells4 (w3.setCell ⟨wr.heap.size + 1, 3, none⟩ (.slice b p.n c)) (wr.heap.size + 1) (.bool C.al) (.int .i64 C.x) (.int .i64 C.y) (.slice b p.n c) ∧ IntsAt (w3.setCell ⟨wr.heap.size + 1, 3, none⟩ (.slice b p.n c)) b p.n c C.rs ∧ Fresh wr b p.n := by
                have hp3 := HRW.out.p3.keep hb3
                rw [HC2.out]
                refine ⟨ho.lat (Lat.trans HRW.out.lat hb3) (by simp), ⟨?_, ?_, ?_⟩, ⟨?_, ?_, ?_, ?_⟩, hat.only ho (fun hn b' o' ha => hfr (wr.heap.size + 1) HRW.out.sz b' o' ha hn), hfr.mono HRW.out.lat.size⟩
                · rw [ho.cell (by simp)]; exact hp3.c0
                · rw [ho.cell (by simp)]; exact hp3.c1
                · rw [ho.cell (by simp)]; exact hp3.c2
                · rw [World.cell?_setCell_other _ _ _ _ (by simp)]; exact hc4.c0
                · rw [World.cell?_setCell_other _ _ _ _ (by simp)]; exact hc4.c1
                · rw [World.cell?_setCell_other _ _ _ _ (by simp)]; exact hc4.c2
                · rw [World.cell?_setCell_same _ _ _ hc4.c3]
              have HRES := Lib.hid hres
              clear hat hfr hb3 hc4 ho hres hx0 hx1 hx2
              go_wp2_with fail
              go_meet
              case rel => exact ⟨rfl, b, p.n, c, HRES.out⟩
            · have dm : ((M : Int) == 0) = false := beq_eq_false_iff_ne.2 (by omega)
              have hne : (k : Int) % (en : Int) ≠ 0 := by rw [hmod]; omega
              have hC2 : C = ⟨false, menX L.d L.g L.zs p.wd p.hg p.zs s, menY L.d L.g L.zs p.wd p.hg p.zs s, menR L.d L.g L.zs p.wd p.hg p.zs s⟩ := by
                rw [HCC.out]; unfold cdS; rw [if_neg hne]; rfl
              have hmv : movE L.d L.g L.zs p.wd p.hg p.zs s = 0 := HST.out.mv hne
              have hf2 := HF.out.lat HRW.out.lat
              have hcall := mencode_sameF L.d L.g la ln lc L.zs p.wd p.hg p.a p.n p.cap p.zs s W2 hf2.lint hi2
              rw [hmv, errv_zero rfl] at hcall
              have l0 := hf2.last.c0
              have l1 := hf2.last.c1
              have l2 := hf2.last.c2
              have HCL := Lib.hid hcall
              have HC2 := Lib.hid hC2
              clear hcall hi2 hM0 hC2 hmv hne hf2
              go_wp2_with fail
              refine HCL.out.mono ?_
              rintro e w3 ⟨b, m, c, rfl, hat, hfr, hb3⟩
              have hc4 := HRW.out.c4.keep hb3
              have y0 := hc4.c0
              have y1 := hc4.c1
              have y2 := hc4.c2
              have y3 := hc4.c3
              have fz : ∀ k, w3.frozen? ⟨wr.heap.size + 1, k, none⟩ = false := fun k => by rw [hb3.frozen (show wr.heap.size + 1 < W2.heap.size from HRW.out.sz)]; exact HRW.out.frz k
              have fz0 := fz 0
              have fz1 := fz 1
              have fz2 := fz 2
              have fz3 := fz 3
              obtain ⟨X, hX⟩ : ∃ X, X = menX L.d L.g L.zs p.wd p.hg p.zs s := ⟨_, rfl⟩
              obtain ⟨Y, hY⟩ : ∃ X, X = menY L.d L.g L.zs p.wd p.hg p.zs s := ⟨_, rfl⟩
              have hC3 := HC2.out
              rw [← hX, ← hY] at hC3 ⊢
              have ho : Only (wr.heap.size + 1) w3 (four w3 (wr.heap.size + 1) (.bool false) (.int .i64 X) (.int .i64 Y) (.slice b m c)) :=
                (((Only.set w3 ⟨wr.heap.size + 1, 0, none⟩ _).trans (Only.set _ ⟨wr.heap.size + 1, 1, none⟩ _)).trans (Only.set _ ⟨wr.heap.size + 1, 2, none⟩ _)).trans (Only.set _ ⟨wr.heap.size + 1, 3, none⟩ _)
              have hres : Lat wr (four w3 (wr.heap.size + 1) (.bool false) (.int .i64 X) (.int .i64 Y) (.slice b m c)) ∧ Cells3 (four w3 (wr.heap.size + 1) (.bool false) (.int .i64 X) (.int .i64 Y) (.slice b m c)) wr.heap.size 0 (.int .i64 p.wd) (.int .i64 p.hg) (.slice p.a p.n p.cap) ∧
                  Cells4 (four w3 (wr.heap.size + 1) (.bool false) (.int .i64 X) (.int .i64 Y) (.slice b m c)) (wr.heap.size + 1) (.bool C.al) (.int .i64 C.x) (.int .i64 C.y) (.slice b m c) ∧ IntsAt (four w3 (wr.heap.size + 1) (.bool false) (.int .i64 X) (.int .i64 Y) (.slice b m c)) b m c C.rs ∧ Fresh wr b m := by
                have hp3 := HRW.out.p3.keep hb3
                rw [hC3]
                refine ⟨ho.lat (Lat.trans HRW.out.lat hb3) (by simp), ⟨?_, ?_, ?_⟩, four_set hc4 _ _ _ _, hat.only ho (fun hn b' o' ha => hfr (wr.heap.size + 1) HRW.out.sz b' o' ha hn), hfr.mono HRW.out.lat.size⟩
                · rw [ho.cell (by simp)]; exact hp3.c0
                · rw [ho.cell (by simp)]; exact hp3.c1
                · rw [ho.cell (by simp)]; exact hp3.c2
              have HRES := Lib.hid hres
              clear hat hfr hb3 hc4 ho hres hx0 hx1 hx2 hX hY hC3 l0 l1 l2
              go_wp2_with fail
              go_meet
              case rel => exact ⟨rfl, b, m, c, HRES.out⟩
          case rest =>
          obtain ⟨rfl, ca, cn, cc, hcut⟩ := hcut
          generalize wc = w3 at *
          obtain ⟨r1, r2, r3, r4, r5⟩ := hcut.out
          have hf3 := HF.out.lat r1
          have p0 := r2.c0
          have p1 := r2.c1
          have p2 := r2.c2
          have y0 := r3.c0
          have y1 := r3.c1
          have y2 := r3.c2
          have y3 := r3.c3
          have l0 := hf3.last.c0
          have l1 := hf3.last.c1
          have l2 := hf3.last.c2
          have htl := HST.out.tl
          rw [← HCC.out] at htl
          have hcall := told_any L.d L.g la ln lc L.zs p.wd p.hg s C.al C.x C.y ca cn cc C.rs w3 hf3.lint r4
          change tldE L.d L.g L.zs p.wd p.hg s C.al C.x C.y C.rs = 0 at htl
          rw [htl, errv_zero rfl] at hcall
          have hoff := Off.fresh r5 HF.out.sz (fun k hk => (HF.out.own.lt k hk).2)
          have HCL := Lib.hid hcall
          have HR4 := Lib.hid r4
          have HF3 := Lib.hid hf3
          have HOFF := Lib.hid hoff
          have HR1 := Lib.hid r1
          clear hcall htl hf3 r1 r2 r3 r4 r5 hcut hoff
          go_wp2_with fail
          refine HCL.out.mono ?_
          rintro e w4 ⟨b, m, c, rfl, hat, hfr, hb4⟩
          obtain ⟨T, hT⟩ : ∃ T, T = tlS p.wd p.hg s L C := ⟨_, rfl⟩
          have e1 : tldD L.d L.g L.zs p.wd p.hg s C.al C.x C.y C.rs = T.d := by rw [hT]; rfl
          have e2 : tldG L.d L.g L.zs p.wd p.hg s C.al C.x C.y C.rs = T.g := by rw [hT]; rfl
          have e3 : tldR L.d L.g L.zs p.wd p.hg s C.al C.x C.y C.rs = T.zs := by rw [hT]; rfl
          rw [e1, e2]
          rw [e3] at hat
          have hf4 := HF3.out.lat hb4
          have hoffL := Off.fresh hfr HF3.out.sz (fun k hk => (HF3.out.own.lt k hk).2)
          have hf5 := hf4.store (L2 := T) hat hoffL
          have g0 := hf4.last.c0
          have g1 := hf4.last.c1
          have g2 := hf4.last.c2
          have fz0 := hf4.frz 0 (by omega)
          have fz1 := hf4.frz 1 (by omega)
          have fz2 := hf4.frz 2 (by omega)
          have ho := Only.three w4 g (.int .i64 T.d) (.int .i64 T.g) (.slice b m c)
          have hci := (HR4.out.keep hb4).onlyOff ho HOFF.out
          have hne : wr.heap.size + 1 ≠ g := fun e => by have := HF.out.sz; omega
          have q0 : (three w4 g (.int .i64 T.d) (.int .i64 T.g) (.slice b m c)).cell? ⟨wr.heap.size + 1, 0, none⟩ = some (.bool C.al) := by rw [ho.cell hne]; exact hb4.cell_at y0
          have q1 : (three w4 g (.int .i64 T.d) (.int .i64 T.g) (.slice b m c)).cell? ⟨wr.heap.size + 1, 1, none⟩ = some (.int .i64 C.x) := by rw [ho.cell hne]; exact hb4.cell_at y1
          have q2 : (three w4 g (.int .i64 T.d) (.int .i64 T.g) (.slice b m c)).cell? ⟨wr.heap.size + 1, 2, none⟩ = some (.int .i64 C.y) := by rw [ho.cell hne]; exact hb4.cell_at y2
          have q3 : (three w4 g (.int .i64 T.d) (.int .i64 T.g) (.slice b m c)).cell? ⟨wr.heap.size + 1, 3, none⟩ = some (.slice ca cn cc) := by rw [ho.cell hne]; exact hb4.cell_at y3
          have HF5 := Lib.hid hf5
          have HCI := Lib.hid hci
          have hlen : cs.length = k := by have := congrArg List.length HCT.out; rw [List.length_map, sht_len] at this; exact this
          have HLEN := Lib.hid hlen
          have HT := Lib.hid hT
          obtain ⟨W5, hW5⟩ : ∃ W, W = three w4 g (.int .i64 T.d) (.int .i64 T.g) (.slice b m c) := ⟨_, rfl⟩
          rw [← hW5] at q0 q1 q2 q3 HF5 HCI
          unfold three at hW5
          clear hat hfr hb4 hT e1 e2 e3 hf4 hoffL hf5 ho hci hne hlen
          go_upto_region 30 with fail
          rw [← hW5]
          clear hW5 p0 p1 p2 l0 l1 l2 y0 y1 y2 y3 g0 g1 g2 fz0 fz1 fz2
          go_wp2_with (at_builtin; refine appR W5 W1.heap.size rfl _ _ 74 rfl 53 _ 4 48 Tryd.underlying74 info_Coded rfl (by decide) (by decide) _ _ _ (by rfl) HF5.out.own rfl (by rfl) (fun u hu => by simp at hu; rcases hu with rfl | rfl | rfl | rfl <;> rfl) (by rw [List.length_map, HLEN.out]; omega) HF5.out.but.size ?_)
          intro v' w6 hown6 hb6 hstep6
          have hf6 := HF5.out.app (c := ⟨C, ca, cn, cc⟩) HCI.out HOFF.out hown6 hb6 hstep6
          have hcs6 : (cs ++ [(⟨C, ca, cn, cc⟩ : Cd)]).map Cd.c = (sht PS en s (k + 1)).1 := by
            rw [List.map_append, HCT.out, HSS.out]; rfl
          have hT6 : T = (sht PS en s (k + 1)).2 := by rw [HSS.out, HT.out]
          rw [hT6] at hf6
          have HF6 := Lib.hid hf6
          have HCS6 := Lib.hid hcs6
          clear hown6 hb6 hstep6 hf6 hcs6 hT6 q0 q1 q2 q3
          go_wp2_with fail
          go_roundw
          case rel => exact ⟨k + 1, by omega, by go_num, b, m, c, _, HF6.out, HCS6.out⟩
          case measure => simp [intOf]; omega
        · obtain rfl : n = k := by omega
          have hrr := HRR.out
          obtain ⟨va, vc, hv, hat⟩ := CodsAt.of HF.out.own (fun c hc => (HF.out.rest c hc).1) rfl
          have HV := Lib.hid hv
          have HAT := Lib.hid hat
          have HLL := Lib.hid (HF.out.but.lat HW1.out HG.out)
          clear hv hat hrr
          go_wp2_with fail
          go_ret2
          exact ⟨va, vc, cs, by rw [HE0.out, errv_zero rfl, ← HV.out]; rfl, HAT.out, by rw [HCT.out, HRR.out], HLL.out⟩
end Go.Proofs.YtnnjijdpenifjaaDoor
