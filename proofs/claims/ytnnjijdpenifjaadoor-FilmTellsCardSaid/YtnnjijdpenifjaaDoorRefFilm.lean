/- The document's words on films: what is wrong with pictures, and pictures coded. -/
import Derived.Test.YtnnjijdpenifjaaDoorFilmRow
import Derived.Test.YtnnjijdpenifjaaDoorRefSame
import Derived.Test.YtnnjijdpenifjaaDoorRefPic
import Derived.Test.YtnnjijdpenifjaaDoorFilmEnc
import Derived.StillTailTactics
import Derived.Test.YtnnjijdpenifjaaDoorGate2
import Derived.Deep.DeepCutAuto
import Derived.Deep.CutBlock
namespace Go.Proofs.YtnnjijdpenifjaaDoor
open Go.ChangeShapes Go.WideShapes Go.ChangeAt Go.RowKit

set_option maxHeartbeats 2000000 in
set_option maxRecDepth 100000 in
theorem refFilm_any (a : Option Addr) (n cap : Nat) (ps : List Pc) (ev s : Int) (w : World) (h : PicsAt w a n cap ps) :
    Calls Tryd.prog 44 #[.slice a n cap, .int .i64 ev, .int .i64 s] w fun e w' => e = .returned (.int .i64 (fenE (ps.map Pc.pt) ev s)) ∧ Lat w w' := by
  have hl := h.len
  obtain ⟨E, hE⟩ : ∃ E, E = fenE (ps.map Pc.pt) ev s := ⟨_, rfl⟩
  have hE2 : E = if fchkE n ≠ 0 then fchkE n else if fstE (ps.map Pc.pt) n ≠ 0 then fstE (ps.map Pc.pt) n else if evB ev = false ∨ stepB s = false then 1 else 0 := by
    rw [hE]; unfold fenE; rw [List.length_map, hl]
  rw [← hE]
  have HE2 := Lib.hid hE2
  have HL := Lib.hid hl
  have H := Lib.hid h
  clear hE hE2 hl h
  by_cases h0 : n = 0
  · have e1 : E = 5 := by rw [HE2.out]; unfold fchkE; rw [if_pos h0]; rfl
    have t0 : ((n : Int) == 0) = true := beq_iff_eq.2 (by omega)
    have HE1 := Lib.hid e1
    clear e1 h0
    go_enter Tryd.func44, Tryd.ntmps44
    go_wp2_with fail
    go_ret
    exact ⟨by rw [HE1.out]; rfl, Lat.refl _⟩
  have t0 : ((n : Int) == 0) = false := beq_eq_false_iff_ne.2 (by omega)
  by_cases h6 : 6 < n
  · have e1 : E = 4 := by rw [HE2.out]; unfold fchkE; rw [if_neg h0, if_pos h6]; rfl
    have t1 : decide (6 < (n : Int)) = true := decide_eq_true (by omega)
    have HE1 := Lib.hid e1
    clear e1 h0 h6
    go_enter Tryd.func44, Tryd.ntmps44
    go_wp2_with fail
    go_ret
    exact ⟨by rw [HE1.out]; rfl, Lat.refl _⟩
  have t1 : decide (6 < (n : Int)) = false := decide_eq_false (by omega)
  have hE3 : E = if fstE (ps.map Pc.pt) n ≠ 0 then fstE (ps.map Pc.pt) n else if evB ev = false ∨ stepB s = false then 1 else 0 := by
    have hz : fchkE n = 0 := by unfold fchkE; rw [if_neg h0, if_neg h6]
    rw [HE2.out, hz, if_neg (by simp)]
  have HE3 := Lib.hid hE3
  obtain ⟨ba, oa, rfl, hba, hcs⟩ := pcs_at H.out h0
  have HCS := Lib.hid hcs
  clear hcs hba hE3 HE2
  go_enter Tryd.func44, Tryd.ntmps44
  go_wp2_with fail
  go_loopw [7] (fun i wr => ∃ k : Nat, k ≤ n ∧ i = .int .i64 k ∧ Hid (fstE (ps.map Pc.pt) k = 0 ∧ Lat w wr)) (fun i _ => n - (intOf i).toNat)
  case atStart => exact ⟨0, Nat.zero_le _, rfl, rfl, Lat.refl _⟩
  case round =>
    obtain ⟨k, hk, rfl, hrel⟩ := hrel
    have hlat := Lib.hid hrel.out.2
    have hf0 := Lib.hid hrel.out.1
    clear hrel
    by_cases hlt : k < n
    · obtain ⟨hc3, hint⟩ := HCS.out k hlt
      obtain ⟨hz3, _⟩ := HCS.out 0 (by omega)
      have hfs : fstE (ps.map Pc.pt) (k + 1) = pcE (ps.getD 0 default).pt (ps.getD k default).pt := by
        rw [fstE, if_neg (by rw [hf0.out]; simp), pts_getD (by rw [HL.out]; omega), pts_getD (by rw [HL.out]; omega)]
      obtain ⟨p, hp⟩ : ∃ p, p = ps.getD k default := ⟨_, rfl⟩
      obtain ⟨p0, hp0⟩ : ∃ p, p = ps.getD 0 default := ⟨_, rfl⟩
      rw [← hp] at hc3 hint hfs
      rw [← hp0] at hz3 hfs
      rw [Nat.zero_mul, Nat.add_zero] at hz3
      have c0 := (hc3.keep hlat.out).c0
      have c1 := (hc3.keep hlat.out).c1
      have c2 := (hc3.keep hlat.out).c2
      have hi := hint.keep hlat.out
      have HZ := Lib.hid (hz3.keep hlat.out)
      have HC3 := Lib.hid (hc3.keep hlat.out)
      have HFS := Lib.hid hfs
      have HI := Lib.hid hi
      clear hc3 hint hz3 hfs hp hp0 hi
      obtain ⟨pd, pg, pa, pn, pc, pz⟩ := p
      obtain ⟨qd, qg, qa, qn, qc, qz⟩ := p0
      have hpc : pcE ⟨qd, qg, qz⟩ ⟨pd, pg, pz⟩ = if chkPic pd pg pz ≠ 0 then chkPic pd pg pz else if pd ≠ qd ∨ pg ≠ qg then 3 else 0 := rfl
      have HPC := Lib.hid hpc
      have hstop : ∀ e, e ≠ 0 → fstE (ps.map Pc.pt) (k + 1) = e → E = e := fun e he h1 => by
        have := fstE_stop (ps.map Pc.pt) (k + 1) (by rw [h1]; exact he) n hlt
        rw [HE3.out, if_pos (by rw [this, h1]; exact he), this, h1]
      have HST := Lib.hid hstop
      obtain ⟨X, hX⟩ : ∃ X, X = chkPic pd pg pz := ⟨_, rfl⟩
      have ha := refPic pd pg pa pn pc pz wr HI.out
      rw [← hX] at ha
      have HA := Lib.hid ha
      have HX := Lib.hid hX
      clear hpc hstop ha hX
      go_wp2_with fail
      refine HA.out.mono ?_
      rintro e w1 ⟨rfl, hb1⟩
      have hlat1 := Lib.hid (Lat.trans hlat.out hb1)
      have hc3 := HC3.out.keep hb1
      have x0 := hc3.c0
      have x1 := hc3.c1
      have hz := HZ.out.keep hb1
      have z0 := hz.c0
      have z1 := hz.c1
      have dp : (0 : Int) < (n : Int) := by omega
      have dp2 : 0 < n := by omega
      have i1 : (k : Int) < (n : Int) := by omega
      by_cases hX0 : X = 0
      case neg =>
        have e1 := HST.out X hX0 (by rw [HFS.out]; show pcE ⟨qd, qg, qz⟩ ⟨pd, pg, pz⟩ = X; rw [HPC.out, ← HX.out, if_pos hX0])
        have tx : ((X : Int) == 0) = false := beq_eq_false_iff_ne.2 (by omega)
        have ty : ((X : Int) != 0) = true := by rw [bne_iff_ne]; omega
        have HE1 := Lib.hid e1
        clear e1 hX0 hc3 hz z0 z1 x0 x1 hb1 c0 c1 c2
        go_wp2_with fail
        go_quiet (fail)
        go_wp2_with fail
        go_ret
        exact ⟨by rw [HE1.out]; rfl, Lat.trans hlat1.out (Lat.drewN _ _)⟩
      subst hX0
      clear hc3 hz hb1 c0 c1 c2
      have hpe : pcE ⟨qd, qg, qz⟩ ⟨pd, pg, pz⟩ = if pd ≠ qd ∨ pg ≠ qg then 3 else 0 := by rw [HPC.out, ← HX.out, if_neg (by simp)]
      have hd : (((pd != qd) = true ∨ ((pd != qd) = false ∧ (pg != qg) = true)) ∧ fstE (ps.map Pc.pt) (k + 1) = 3) ∨ ((pd != qd) = false ∧ (pg != qg) = false ∧ fstE (ps.map Pc.pt) (k + 1) = 0) := by
        rw [HFS.out]
        show ((_ ∨ _) ∧ pcE ⟨qd, qg, qz⟩ ⟨pd, pg, pz⟩ = 3) ∨ (_ ∧ _ ∧ pcE ⟨qd, qg, qz⟩ ⟨pd, pg, pz⟩ = 0)
        rw [hpe]
        by_cases q1 : pd = qd
        · by_cases q2 : pg = qg
          · exact .inr ⟨by rw [bne_eq_false_iff_eq]; exact q1, by rw [bne_eq_false_iff_eq]; exact q2, by rw [if_neg (by simp [q1, q2])]⟩
          · exact .inl ⟨.inr ⟨by rw [bne_eq_false_iff_eq]; exact q1, by rw [bne_iff_ne]; exact q2⟩, by rw [if_pos (.inr q2)]⟩
        · exact .inl ⟨.inl (by rw [bne_iff_ne]; exact q1), by rw [if_pos (.inl q1)]⟩
      have HD := Lib.hid hd
      clear hpe hd
      rcases HD.out with ⟨t1 | ⟨t1, t2⟩, h3⟩ | ⟨t1, t2, h3⟩
      · have HE3' := Lib.hid (HST.out 3 (by omega) h3)
        clear h3
        go_wp2_with fail
        go_quiet (fail)
        go_wp2_with fail
        go_ret
        exact ⟨by rw [HE3'.out]; rfl, Lat.trans hlat1.out (Lat.drewN _ _)⟩
      · have HE3' := Lib.hid (HST.out 3 (by omega) h3)
        clear h3
        go_wp2_with fail
        go_quiet (fail)
        go_wp2_with fail
        go_ret
        exact ⟨by rw [HE3'.out]; rfl, Lat.trans hlat1.out (Lat.drewN _ _)⟩
      · have H3 := Lib.hid h3
        clear h3
        go_wp2_with fail
        go_quiet (fail)
        go_wp2_with fail
        go_roundw
        case rel => exact ⟨k + 1, by omega, by go_num, H3.out, Lat.trans hlat1.out (Lat.drewN _ _)⟩
        case measure => simp [intOf]; omega
    · obtain rfl : n = k := by omega
      have hE3 : E = if evB ev = false ∨ stepB s = false then 1 else 0 := by
        rw [HE3.out, if_neg (by rw [hf0.out]; simp)]
      have hd : ((decide (ev < 1) = true ∨ (decide (ev < 1) = false ∧ decide (6 < ev) = true) ∨ (decide (ev < 1) = false ∧ decide (6 < ev) = false ∧ decide (s < 1) = true) ∨ (decide (ev < 1) = false ∧ decide (6 < ev) = false ∧ decide (s < 1) = false ∧ decide (64 < s) = true)) ∧ E = 1) ∨ (decide (ev < 1) = false ∧ decide (6 < ev) = false ∧ decide (s < 1) = false ∧ decide (64 < s) = false ∧ E = 0) := by
        rw [hE3]
        by_cases q1 : ev < 1
        · exact .inl ⟨.inl (decide_eq_true q1), if_pos (.inl (decide_eq_false (by omega)))⟩
        by_cases q2 : 6 < ev
        · exact .inl ⟨.inr (.inl ⟨decide_eq_false q1, decide_eq_true q2⟩), if_pos (.inl (decide_eq_false (by omega)))⟩
        by_cases q3 : s < 1
        · exact .inl ⟨.inr (.inr (.inl ⟨decide_eq_false q1, decide_eq_false q2, decide_eq_true q3⟩)), if_pos (.inr (decide_eq_false (by omega)))⟩
        by_cases q4 : 64 < s
        · exact .inl ⟨.inr (.inr (.inr ⟨decide_eq_false q1, decide_eq_false q2, decide_eq_false q3, decide_eq_true q4⟩)), if_pos (.inr (decide_eq_false (by omega)))⟩
        exact .inr ⟨decide_eq_false q1, decide_eq_false q2, decide_eq_false q3, decide_eq_false q4, if_neg (by simp [show evB ev = true from decide_eq_true (by omega), show stepB s = true from decide_eq_true (by omega)])⟩
      have HD := Lib.hid hd
      clear hE3 hd HCS
      rcases HD.out with ⟨u1 | ⟨u1, u2⟩ | ⟨u1, u2, u3⟩ | ⟨u1, u2, u3, u4⟩, h3⟩ | ⟨u1, u2, u3, u4, h3⟩
      all_goals
        have HE1 := Lib.hid h3
        clear h3
        go_wp2_with fail
        go_ret
        exact ⟨by rw [HE1.out]; rfl, hlat.out⟩

theorem FInv.onlyNew {g gc : Nat} {W1 wr wr' : World} {v : Value} {L : Pt} {la : Option Addr} {ln lc : Nat} {cs : List Cd} (h : FInv g W1 wr v L la ln lc cs) (ho : Only gc wr wr') (h1 : g ≠ gc) (h2 : W1.heap.size ≤ gc) (hv : v.ownBlock ≠ some gc)
    (hl : ln ≠ 0 → ∀ b o, la = some ⟨b, o, none⟩ → b ≠ gc) (hc : ∀ c ∈ cs, c.n ≠ 0 → ∀ b o, c.a = some ⟨b, o, none⟩ → b ≠ gc) : FInv g W1 wr' v L la ln lc cs := by
  refine ⟨⟨h.own.1, ?_⟩, ⟨ho.os.trans h.but.os, ho.tape.trans h.but.tape, ho.output.trans h.but.output, Nat.le_trans h.but.size (Nat.le_of_eq ho.size.symm), fun k hk hg => (ho.block k (by omega)).trans (h.but.block k hk hg)⟩,
    ⟨by rw [ho.cell h1]; exact h.last.c0, by rw [ho.cell h1]; exact h.last.c1, by rw [ho.cell h1]; exact h.last.c2⟩, fun k hk => by rw [ho.frozen h1]; exact h.frz k hk, h.lint.only ho hl, h.loff, fun c hc' => ⟨(h.rest c hc').1.only ho (hc c hc'), (h.rest c hc').2⟩, h.glt⟩
  obtain ⟨h1', h2'⟩ := h.own.2
  refine ⟨h1', ?_⟩
  rcases h2' with h2' | ⟨k, cap, cur, rfl, hbb, hh, rest⟩
  · exact .inl h2'
  · exact .inr ⟨k, cap, cur, rfl, hbb, by rw [ho.block k (fun e => hv (by rw [← e]; rfl))]; exact hh, rest⟩
theorem tl_alone {pd pg s : Int} {zs : List Int} (hp : PicOk pd pg zs) (hs : 1 ≤ s) (hs2 : s ≤ 64) (L : Pt) : tlS pd pg s L ⟨true, 0, 0, (cod zs pd.toNat s zs.length).1⟩ = ⟨pd, pg, (cod zs pd.toNat s zs.length).2⟩ := by
  have hbd := cod_bd zs pd.toNat s hs hp.pix zs.length
  have hl := cod_len1 zs pd.toNat s zs.length
  have he : dcE pd pg s (cod zs pd.toNat s zs.length).1 = 0 := dcE_of hp.w1 hp.w6 hp.h1 hp.h6 hs hs2 (by rw [hl]; exact hp.len) hbd
  have e2 : tldD L.d L.g L.zs pd pg s true 0 0 (cod zs pd.toNat s zs.length).1 = pd := by unfold tldD tolD; rw [if_neg (by simp), if_neg (by simp), if_pos he]
  have e3 : tldG L.d L.g L.zs pd pg s true 0 0 (cod zs pd.toNat s zs.length).1 = pg := by unfold tldG tolG; rw [if_neg (by simp), if_neg (by simp), if_pos he]
  have e4 : tldR L.d L.g L.zs pd pg s true 0 0 (cod zs pd.toNat s zs.length).1 = (cod zs pd.toNat s zs.length).2 := by
    unfold tldR tolR; rw [if_neg (by simp), if_neg (by simp), if_pos he, hl]; exact tel_cod zs pd.toNat s zs.length zs.length (Nat.le_refl _)
  unfold tlS
  rw [e2, e3, e4]
theorem refBehind_tl (L : Pt) (la : Option Addr) (ln lc : Nat) (W H : Int) (x y : Int) (b : Option Addr) (m cap2 : Nat) (rs : List Int) (s : Int) (w : World) (h : IntsAt w la ln lc L.zs) (h2 : IntsAt w b m cap2 rs) :
    Calls Tryd.prog 37 #[picV L.d L.g la ln lc, codV false x y b m cap2, .int .i64 s] w fun e w' => ∃ c k cc, e = .returned (.tuple #[picV (tlS W H s L ⟨false, x, y, rs⟩).d (tlS W H s L ⟨false, x, y, rs⟩).g c k cc, .int .i64 (tlE W H s L ⟨false, x, y, rs⟩)]) ∧ IntsAt w' c k cc (tlS W H s L ⟨false, x, y, rs⟩).zs ∧ Fresh w c k ∧ Lat w w' := by
  have e1 : (tlS W H s L ⟨false, x, y, rs⟩).d = behD L.d L.g L.zs false x y rs s := by show tldD L.d L.g L.zs W H s false x y rs = _; unfold tldD; rw [if_pos rfl]
  have e2 : (tlS W H s L ⟨false, x, y, rs⟩).g = behG L.d L.g L.zs false x y rs s := by show tldG L.d L.g L.zs W H s false x y rs = _; unfold tldG; rw [if_pos rfl]
  have e3 : (tlS W H s L ⟨false, x, y, rs⟩).zs = behR L.d L.g L.zs false x y rs s := by show tldR L.d L.g L.zs W H s false x y rs = _; unfold tldR; rw [if_pos rfl]
  have e4 : tlE W H s L ⟨false, x, y, rs⟩ = behE L.d L.g L.zs false x y rs s := by unfold tlE tldE; rw [if_pos rfl]
  rw [e1, e2, e3, e4]
  exact refBehind_totF L.d L.g la ln lc L.zs false x y b m cap2 rs s w h h2

set_option maxHeartbeats 8000000 in
set_option maxRecDepth 100000 in
theorem refShot (a : Option Addr) (n cap : Nat) (ps : List Pc) (ev s : Int) (w : World) (h : PicsAt w a n cap ps) (h0 : fenE (ps.map Pc.pt) ev s = 0) :
    Calls Tryd.prog 45 #[.slice a n cap, .int .i64 ev, .int .i64 s] w fun e w' => ∃ va vc cs, e = .returned (.slice va n vc) ∧ CodsAt w' va n vc cs ∧ cs.map Cd.c = (sht (ps.map Pc.pt) ev s n).1 ∧ Lat w w' := by
  have hl := h.len
  have hfok := fenE_ok h0
  have hall := (film_ok hfok n (by rw [List.length_map, hl]; exact Nat.le_refl _)).1
  have hn1 : 1 ≤ n := by have := hfok.n1; rw [List.length_map, hl] at this; exact this
  have hn6 : n ≤ 6 := by have := hfok.n6; rw [List.length_map, hl] at this; exact this
  obtain ⟨PS, hPS⟩ : ∃ P, P = ps.map Pc.pt := ⟨_, rfl⟩
  rw [← hPS] at hall ⊢
  have e1 := hfok.e1
  have e6 := hfok.e6
  have s1 := hfok.s1
  have s64 := hfok.s64
  have hpic : ∀ j, j < n → PicOk (ps.getD j default).wd (ps.getD j default).hg (ps.getD j default).zs := fun j hj => by
    obtain ⟨h1, h2, h3⟩ := hfok.pic j (by rw [List.length_map, hl]; exact hj)
    rw [← h2, ← h3, pts_getD (by rw [hl]; exact hj)] at h1
    exact h1
  have hpg : ∀ j, j < n → PS.getD j default = (ps.getD j default).pt := fun j hj => by rw [hPS]; exact pts_getD (by rw [hl]; exact hj)
  have hwg : ∀ j, j < n → (ps.getD j default).wd = (PS.getD 0 default).d ∧ (ps.getD j default).hg = (PS.getD 0 default).g := fun j hj => by
    obtain ⟨_, h2, h3⟩ := hfok.pic j (by rw [List.length_map, hl]; exact hj)
    rw [pts_getD (by rw [hl]; exact hj)] at h2 h3
    rw [hPS]
    exact ⟨h2, h3⟩
  obtain ⟨ba, oa, rfl, _, hcs⟩ := pcs_at h (by omega)
  obtain ⟨W1, hW1⟩ : ∃ W, W = w.alloc (.cells #[.int .i64 0, .int .i64 0, .slice none 0 0] 24) := ⟨_, rfl⟩
  obtain ⟨g, hg⟩ : ∃ g, g = w.heap.size := ⟨_, rfl⟩
  have hglt : g < W1.heap.size := by rw [hg, hW1]; simp
  have hw1 : Lat w W1 := by rw [hW1]; exact Lat.alloc _ _
  have hinv : FInv g W1 W1 (.slice none 0 0) default none 0 0 [] :=
    ⟨OwnR.nil _ _ _ _, But.refl _ _, by rw [hW1]; exact cells3_new hg rfl rfl rfl, fun k _ => by rw [hW1, hg]; simp, IntsAt.nil _, Off.none _ _ _, by simp, hglt⟩
  have HINV := Lib.hid hinv
  have HW1 := Lib.hid hw1
  have HG := Lib.hid (show w.heap.size ≤ g by rw [hg]; exact Nat.le_refl _)
  have HCS := Lib.hid hcs
  have HALL := Lib.hid hall
  have HPIC := Lib.hid hpic
  have HPG := Lib.hid hpg
  have HWG := Lib.hid hwg
  clear h h0 hl hfok hall hPS hpic hpg hwg hcs hglt hw1 hinv
  go_enter Tryd.func45, Tryd.ntmps45
  go_wp2_with fail
  rw [← hW1, ← hg]
  clear hW1 hg
  obtain ⟨en, rfl⟩ := Int.eq_ofNat_of_zero_le (show 0 ≤ ev by omega)
  have en0 : (en : Int) ≠ 0 := by omega
  go_loopw [7, 9] (fun v i wx => ∃ k : Nat, k ≤ n ∧ i = .int .i64 k ∧ Hid (∃ la ln lc cs, FInv g W1 wx v (sht PS en s k).2 la ln lc cs ∧ cs.map Cd.c = (sht PS en s k).1)) (fun _ i _ => n - (intOf i).toNat)
  case atStart => exact ⟨0, Nat.zero_le _, rfl, none, 0, 0, [], HINV.out, rfl⟩
  case round =>
    obtain ⟨k, hk, rfl, hrel⟩ := hrel
    obtain ⟨la, ln, lc, cs, hf, hcs⟩ := hrel.out
    have HF := Lib.hid hf
    have HCT := Lib.hid hcs
    clear hrel hf hcs
    by_cases hlt : k < n
    · have hlatw : Lat w wr := HF.out.but.lat HW1.out HG.out
      obtain ⟨hc3, hint⟩ := HCS.out k hlt
      have hpk := HPIC.out k hlt
      have hst := HALL.out k hlt
      rw [HPG.out k hlt] at hst
      have hwg := HWG.out k hlt
      obtain ⟨p, hp⟩ : ∃ p, p = ps.getD k default := ⟨_, rfl⟩
      have hss : sht PS en s (k + 1) = ((sht PS en s k).1 ++ [cdS en s k (sht PS en s k).2 p.pt], tlS p.wd p.hg s (sht PS en s k).2 (cdS en s k (sht PS en s k).2 p.pt)) := by
        rw [sht_succ, HPG.out k hlt, hp]; rfl
      rw [← hwg.1, ← hwg.2] at hst
      rw [← hp] at hc3 hint hpk hst
      obtain ⟨L, hL⟩ : ∃ L, L = (sht PS en s k).2 := ⟨_, rfl⟩
      rw [← hL] at hst hss HF
      have c0 := (hc3.keep hlatw).c0
      have c1 := (hc3.keep hlatw).c1
      have c2 := (hc3.keep hlatw).c2
      have HI := Lib.hid (hint.keep hlatw)
      have HPK := Lib.hid hpk
      have HST := Lib.hid hst
      have HSS := Lib.hid hss
      have hmod : (k : Int) % (en : Int) = ((k % en : Nat) : Int) := (Int.natCast_emod _ _).symm
      obtain ⟨M, hM⟩ : ∃ M, M = k % en := ⟨_, rfl⟩
      rw [← hM] at hmod
      have hlen : cs.length = k := by have := congrArg List.length HCT.out; rw [List.length_map, sht_len] at this; exact this
      have HLEN := Lib.hid hlen
      have i1 : (k : Int) < (n : Int) := by omega
      clear hc3 hint hpk hst hss hp hwg hM hL hlatw hlen
      by_cases hM0 : M = 0
      · have dm : ((M : Int) == 0) = true := beq_iff_eq.2 (by omega)
        have hC2 : cdS en s k L p.pt = ⟨true, 0, 0, (cod p.zs p.wd.toNat s p.zs.length).1⟩ := by
          unfold cdS; rw [if_pos (by rw [hmod, hM0]; rfl)]; rfl
        have hT2 : tlS p.wd p.hg s L (cdS en s k L p.pt) = ⟨p.wd, p.hg, (cod p.zs p.wd.toNat s p.zs.length).2⟩ := by
          rw [hC2]; exact tl_alone HPK.out s1 s64 L
        have hss := HSS.out
        rw [hT2, hC2, HI.out.len] at hss
        have HSS2 := Lib.hid hss
        clear hM0 hC2 hT2 hss
        go_wp2_with fail
        refine (refAlone_sameF p.wd p.hg p.a p.n p.cap p.zs s wr HI.out HPK.out s1 s64).mono ?_
        rintro e w3 ⟨b, c, b2, c2', rfl, hat, hat2, hfr, hfr2, hb3⟩
        have x0 := hb3.cell_at c0
        have x1 := hb3.cell_at c1
        have hoff := Off.fresh hfr HF.out.sz (fun k hk => (HF.out.own.lt k hk).2)
        have hoff2 := Off.fresh hfr2 HF.out.sz (fun k hk => (HF.out.own.lt k hk).2)
        have HF3 := Lib.hid (HF.out.lat hb3)
        have HAT := Lib.hid hat
        have HAT2 := Lib.hid hat2
        have HOFF := Lib.hid hoff
        have HOFF2 := Lib.hid hoff2
        clear hat hat2 hfr hfr2 hb3 hoff hoff2 c0 c1 c2
        go_wp2_with fail
        go_still_tail 12, (by kernel_rfl)
        change wpList _ _ _ _ _ w3.drew
        have hdr : Lat w3 w3.drew := Lat.drewN w3 1
        have hf4 := HF3.out.lat hdr
        have hat4 := HAT.out.keep hdr
        have hat24 := HAT2.out.keep hdr
        clear hdr x0 x1
        generalize w3.drew = w4 at *
        obtain ⟨T, hT⟩ : ∃ T : Pt, T = ⟨p.wd, p.hg, (cod p.zs p.wd.toNat s p.n).2⟩ := ⟨_, rfl⟩
        have hT1 : T.d = p.wd := by rw [hT]
        have hT2 : T.g = p.hg := by rw [hT]
        have hT3 : T.zs = (cod p.zs p.wd.toNat s p.n).2 := by rw [hT]
        rw [← hT3] at hat24
        have hf5 := hf4.store (L2 := T) hat24 HOFF2.out
        have ho := Only.three w4 g (.int .i64 T.d) (.int .i64 T.g) (.slice b2 p.n c2')
        have hci := hat4.onlyOff ho HOFF.out
        rw [hT1, hT2] at hf5 hci
        have g0 := hf4.last.c0
        have g1 := hf4.last.c1
        have g2 := hf4.last.c2
        have fz0 := hf4.frz 0 (by omega)
        have fz1 := hf4.frz 1 (by omega)
        have fz2 := hf4.frz 2 (by omega)
        have hss5 := HSS2.out
        rw [← hT] at hss5
        have HSS5 := Lib.hid hss5
        have HF5 := Lib.hid hf5
        have HCI := Lib.hid hci
        obtain ⟨W5, hW5⟩ : ∃ W, W = three w4 g (.int .i64 p.wd) (.int .i64 p.hg) (.slice b2 p.n c2') := ⟨_, rfl⟩
        rw [← hW5] at HF5 HCI
        unfold three at hW5
        clear hf4 hat4 hat24 hT hT1 hT2 hT3 hf5 ho hci hss5
        go_upto_region 9 with fail
        rw [← hW5]
        clear hW5 g0 g1 g2 fz0 fz1 fz2
        go_wp2_with (at_builtin; refine appR W5 W1.heap.size rfl _ _ 74 rfl 53 _ 4 48 Tryd.underlying74 info_Coded rfl (by decide) (by decide) _ _ _ (by rfl) HF5.out.own rfl (by rfl) (fun u hu => by simp at hu; rcases hu with rfl | rfl | rfl | rfl <;> rfl) (by rw [List.length_map, HLEN.out]; omega) HF5.out.but.size ?_)
        intro v' w6 hown6 hb6 hstep6
        have hf6 := HF5.out.app (c := ⟨⟨true, 0, 0, (cod p.zs p.wd.toNat s p.n).1⟩, b, p.n, c⟩) HCI.out HOFF.out hown6 hb6 hstep6
        have hcs6 : (cs ++ [(⟨⟨true, 0, 0, (cod p.zs p.wd.toNat s p.n).1⟩, b, p.n, c⟩ : Cd)]).map Cd.c = (sht PS en s (k + 1)).1 := by
          rw [List.map_append, HCT.out, HSS5.out]; rfl
        have hT6 : T = (sht PS en s (k + 1)).2 := by rw [HSS5.out]
        rw [hT6] at hf6
        have HF6 := Lib.hid hf6
        have HCS6 := Lib.hid hcs6
        clear hown6 hb6 hstep6 hf6 hcs6 hT6
        go_wp2_with fail
        go_roundw
        case rel => exact ⟨k + 1, by omega, by go_num, b2, p.n, c2', _, HF6.out, HCS6.out⟩
        case measure => simp [intOf]; omega
      · have dm : ((M : Int) == 0) = false := beq_eq_false_iff_ne.2 (by omega)
        have hne : (k : Int) % (en : Int) ≠ 0 := by rw [hmod]; omega
        obtain ⟨X, hX⟩ : ∃ X, X = menX L.d L.g L.zs p.wd p.hg p.zs s := ⟨_, rfl⟩
        obtain ⟨Y, hY⟩ : ∃ X, X = menY L.d L.g L.zs p.wd p.hg p.zs s := ⟨_, rfl⟩
        obtain ⟨R, hR⟩ : ∃ X, X = menR L.d L.g L.zs p.wd p.hg p.zs s := ⟨_, rfl⟩
        have hC2 : cdS en s k L p.pt = ⟨false, X, Y, R⟩ := by
          unfold cdS; rw [if_neg hne, hX, hY, hR]; rfl
        have hmv : movE L.d L.g L.zs p.wd p.hg p.zs s = 0 := HST.out.mv hne
        have hss := HSS.out
        rw [hC2] at hss
        have hmov := fun W (h1 : IntsAt W la ln lc L.zs) (h2 : IntsAt W p.a p.n p.cap p.zs) => refMoved_same L.d L.g la ln lc L.zs p.wd p.hg p.a p.n p.cap p.zs s W h1 h2 hmv
        rw [← hX, ← hY, ← hR] at hmov
        have HMV := Lib.hid hmov
        have HSS2 := Lib.hid hss
        have l0 := HF.out.last.c0
        have l1 := HF.out.last.c1
        have l2 := HF.out.last.c2
        clear hM0 hC2 hss hmv hne hX hY hR hmov
        have hgfar : ∀ gc, wr.heap.size ≤ gc → g ≠ gc ∧ W1.heap.size ≤ gc ∧ u7.ownBlock ≠ some gc ∧ (ln ≠ 0 → ∀ b o, la = some ⟨b, o, none⟩ → b ≠ gc) ∧ (∀ c ∈ cs, c.n ≠ 0 → ∀ b o, c.a = some ⟨b, o, none⟩ → b ≠ gc) := fun gc h =>
          ⟨by have := HF.out.sz; omega, Nat.le_trans HF.out.but.size h, fun e => by have := (HF.out.own.lt gc e).2; omega, fun hn b o ha => by have := HF.out.lint.lt hn ha; omega, fun c hc hn b o ha => by have := (HF.out.rest c hc).1.lt hn ha; omega⟩
        have HFAR := Lib.hid hgfar
        have HNB := Lib.hid (show ba < wr.heap.size from World.block_lt_of_cell? _ _ c0)
        clear hgfar
        go_upto_region 10 with fail
        go_cut [12] (fun pv wx => ∃ (gc : Nat) (b : Option Addr) (m c : Nat), pv = .pointer (some ⟨gc, 0, none⟩) ∧ Hid (FInv g W1 wx u7 L la ln lc cs ∧ Cells4 wx gc (.bool false) (.int .i64 X) (.int .i64 Y) (.slice b m c) ∧ IntsAt wx b m c R ∧ Off b m g u7 ∧ g ≠ gc))
        case first =>
          have hF : wr.drew.cell? ⟨g, 0, none⟩ = some (.int .i64 L.d) ∧ wr.drew.cell? ⟨g, 1, none⟩ = some (.int .i64 L.g) ∧ wr.drew.cell? ⟨g, 2, none⟩ = some (.slice la ln lc) ∧ wr.drew.cell? ⟨ba, oa + k * 3, none⟩ = some (.int .i64 p.wd) ∧ wr.drew.cell? ⟨ba, oa + k * 3 + 1, none⟩ = some (.int .i64 p.hg) ∧ wr.drew.cell? ⟨ba, oa + k * 3 + 2, none⟩ = some (.slice p.a p.n p.cap) := ⟨l0, l1, l2, c0, c1, c2⟩
          have hdr : Lat wr wr.drew := Lat.drewN wr 1
          have HF2 := Lib.hid (HF.out.lat hdr)
          have HI2 := Lib.hid (HI.out.keep hdr)
          have hsz : wr.drew.heap.size = wr.heap.size := rfl
          have HSZ := Lib.hid hsz
          clear hdr l0 l1 l2 c0 c1 c2 hsz
          refine wp_region_gate (fun w' => w'.cell? ⟨g, 0, none⟩ = some (.int .i64 L.d) ∧ w'.cell? ⟨g, 1, none⟩ = some (.int .i64 L.g) ∧ w'.cell? ⟨g, 2, none⟩ = some (.slice la ln lc) ∧ w'.cell? ⟨ba, oa + k * 3, none⟩ = some (.int .i64 p.wd) ∧ w'.cell? ⟨ba, oa + k * 3 + 1, none⟩ = some (.int .i64 p.hg) ∧ w'.cell? ⟨ba, oa + k * 3 + 2, none⟩ = some (.slice p.a p.n p.cap)) (fun _ => True) 1000 (by kernel_rfl) ?_
          generalize wr.drew = w2 at *
          refine gate_takeF (i := 0) (v := ?_) rfl (by kernel_rfl) (by kernel_rfl) (by kernel_rfl) (fun _ _ _ h => h) (by decide) ⟨hF, fun _ => trivial⟩ (Or.inl ⟨by rfl, ?_⟩) ?_
          rotate_left
          · intro wq hSw; obtain ⟨s0, s1, s2, s3, s4, s5⟩ := hSw; go_simp; rfl
          simp only [Act.put]
          refine gate_takeF (i := 1) (v := ?_) rfl (by kernel_rfl) (by kernel_rfl) (by kernel_rfl) (fun _ _ _ h => h) (by decide) ⟨hF, fun _ => trivial⟩ (Or.inl ⟨by rfl, ?_⟩) ?_
          rotate_left
          · intro wq hSw; obtain ⟨s0, s1, s2, s3, s4, s5⟩ := hSw; go_simp; rfl
          simp only [Act.put]
          refine gate_takeF (i := 2) (v := ?_) rfl (by kernel_rfl) (by kernel_rfl) (by kernel_rfl) (fun _ _ _ h => h) (by decide) ⟨hF, fun _ => trivial⟩ (Or.inl ⟨by rfl, ?_⟩) ?_
          rotate_left
          · intro wq hSw; obtain ⟨s0, s1, s2, s3, s4, s5⟩ := hSw; go_simp; rfl
          simp only [Act.put]
          refine gate_takeF (i := 3) (v := ?_) rfl (by kernel_rfl) (by kernel_rfl) (by kernel_rfl) (fun _ _ _ h => h) (by decide) ⟨hF, fun _ => trivial⟩ (Or.inl ⟨by rfl, ?_⟩) ?_
          rotate_left
          · intro wq hSw; obtain ⟨s0, s1, s2, s3, s4, s5⟩ := hSw; go_simp; rfl
          simp only [Act.put]
          refine gate_takeF (i := 4) (v := ?_) rfl (by kernel_rfl) (by kernel_rfl) (by kernel_rfl) (fun _ _ _ h => h) (by decide) ⟨hF, fun _ => trivial⟩ (Or.inl ⟨by rfl, ?_⟩) ?_
          rotate_left
          · intro wq hSw; obtain ⟨s0, s1, s2, s3, s4, s5⟩ := hSw; go_simp; rfl
          simp only [Act.put]
          refine gate_takeF (i := 5) (v := ?_) rfl (by kernel_rfl) (by kernel_rfl) (by kernel_rfl) (fun _ _ _ h => h) (by decide) ⟨hF, fun _ => trivial⟩ (Or.inl ⟨by rfl, ?_⟩) ?_
          rotate_left
          · intro wq hSw; obtain ⟨s0, s1, s2, s3, s4, s5⟩ := hSw; go_simp; rfl
          simp only [Act.put]
          refine gate_two (i := 6) (j := 7) (by kernel_rfl) rfl rfl (fun K hK => ?_) (fun K hK => ?_)
          · go_simp
            refine (HMV.out w2 HF2.out.lint HI2.out).mono ?_
            rintro e w3 ⟨b, m, c, rfl, hat, hfr, hb3⟩
            have hF3 : w3.cell? ⟨g, 0, none⟩ = some (.int .i64 L.d) ∧ w3.cell? ⟨g, 1, none⟩ = some (.int .i64 L.g) ∧ w3.cell? ⟨g, 2, none⟩ = some (.slice la ln lc) ∧ w3.cell? ⟨ba, oa + k * 3, none⟩ = some (.int .i64 p.wd) ∧ w3.cell? ⟨ba, oa + k * 3 + 1, none⟩ = some (.int .i64 p.hg) ∧ w3.cell? ⟨ba, oa + k * 3 + 2, none⟩ = some (.slice p.a p.n p.cap) := ⟨Lat.cell_at hb3 hF.1, Lat.cell_at hb3 hF.2.1, Lat.cell_at hb3 hF.2.2.1, Lat.cell_at hb3 hF.2.2.2.1, Lat.cell_at hb3 hF.2.2.2.2.1, Lat.cell_at hb3 hF.2.2.2.2.2⟩
            refine hK _ _ ⟨hF3, fun _ => trivial⟩ ?_
            clear hK K hF
            refine gate_one (i := 7) (by kernel_rfl) rfl (fun K hK => ?_)
            go_simp
            refine hK _ _ ⟨⟨Lat.cell_at (Lat.alloc _ _) hF3.1, Lat.cell_at (Lat.alloc _ _) hF3.2.1, Lat.cell_at (Lat.alloc _ _) hF3.2.2.1, Lat.cell_at (Lat.alloc _ _) hF3.2.2.2.1, Lat.cell_at (Lat.alloc _ _) hF3.2.2.2.2.1, Lat.cell_at (Lat.alloc _ _) hF3.2.2.2.2.2⟩, fun _ => trivial⟩ ?_
            clear hK K
            refine gate_one (i := 8) (by kernel_rfl) rfl (fun K hK => ?_)
            go_simp
            refine hK _ _ ⟨⟨Lat.cell_at (Lat.alloc _ _) hF3.1, Lat.cell_at (Lat.alloc _ _) hF3.2.1, Lat.cell_at (Lat.alloc _ _) hF3.2.2.1, Lat.cell_at (Lat.alloc _ _) hF3.2.2.2.1, Lat.cell_at (Lat.alloc _ _) hF3.2.2.2.2.1, Lat.cell_at (Lat.alloc _ _) hF3.2.2.2.2.2⟩, fun _ => trivial⟩ ?_
            clear hK K
            refine gate_done (by kernel_rfl) ?_ _
            have hoff := Off.fresh hfr HF2.out.sz (fun k hk => (HF2.out.own.lt k hk).2)
            have hgg : g ≠ w3.heap.size := by have := HF2.out.sz; have := hb3.size; omega
            have HF4 := Lib.hid (HF2.out.lat (Lat.trans hb3 (Lat.alloc w3 (.cells #[.bool false, .int .i64 X, .int .i64 Y, .slice b m c] 53))))
            have HAT4 := Lib.hid (hat.keep (Lat.alloc w3 (.cells #[.bool false, .int .i64 X, .int .i64 Y, .slice b m c] 53)))
            have HOFF := Lib.hid hoff
            have HGG := Lib.hid hgg
            clear hF3 hat hfr hb3 hoff hgg
            go_wp2_with fail
            go_meet
            case rel => exact ⟨_, b, m, c, rfl, HF4.out, cells4_new rfl rfl rfl rfl rfl, HAT4.out, HOFF.out, HGG.out⟩
          · go_simp
            refine hK _ _ ⟨⟨Lat.cell_at (Lat.alloc _ _) hF.1, Lat.cell_at (Lat.alloc _ _) hF.2.1, Lat.cell_at (Lat.alloc _ _) hF.2.2.1, Lat.cell_at (Lat.alloc _ _) hF.2.2.2.1, Lat.cell_at (Lat.alloc _ _) hF.2.2.2.2.1, Lat.cell_at (Lat.alloc _ _) hF.2.2.2.2.2⟩, fun _ => trivial⟩ ?_
            clear hK K
            obtain ⟨W4, hW4⟩ : ∃ W, W = w2.alloc (.cells #[.bool false, .int .i64 0, .int .i64 0, .slice none 0 0] 53) := ⟨_, rfl⟩
            obtain ⟨gc, hgc⟩ : ∃ g, g = w2.heap.size := ⟨_, rfl⟩
            have hl4 : Lat w2 W4 := by rw [hW4]; exact Lat.alloc _ _
            have hc4 : Cells4 W4 gc (.bool false) (.int .i64 0) (.int .i64 0) (.slice none 0 0) := by rw [hW4]; exact cells4_new hgc rfl rfl rfl rfl
            have hz4 : ∀ k, W4.frozen? ⟨gc, k, none⟩ = false := fun k => by rw [hW4, hgc]; simp
            have hgw : gc < W4.heap.size := by rw [hW4, hgc]; simp
            have hfar := HFAR.out gc (by rw [hgc, HSZ.out]; exact Nat.le_refl _)
            have HFR := Lib.hid hfar
            have hbn : ba ≠ gc := by have := HNB.out; rw [hgc, HSZ.out]; omega
            have HBN := Lib.hid hbn
            have HF4 := Lib.hid (HF2.out.lat hl4)
            have HI4 := Lib.hid (HI2.out.keep hl4)
            have hF4 : W4.cell? ⟨g, 0, none⟩ = some (.int .i64 L.d) ∧ W4.cell? ⟨g, 1, none⟩ = some (.int .i64 L.g) ∧ W4.cell? ⟨g, 2, none⟩ = some (.slice la ln lc) ∧ W4.cell? ⟨ba, oa + k * 3, none⟩ = some (.int .i64 p.wd) ∧ W4.cell? ⟨ba, oa + k * 3 + 1, none⟩ = some (.int .i64 p.hg) ∧ W4.cell? ⟨ba, oa + k * 3 + 2, none⟩ = some (.slice p.a p.n p.cap) := ⟨Lat.cell_at hl4 hF.1, Lat.cell_at hl4 hF.2.1, Lat.cell_at hl4 hF.2.2.1, Lat.cell_at hl4 hF.2.2.2.1, Lat.cell_at hl4 hF.2.2.2.2.1, Lat.cell_at hl4 hF.2.2.2.2.2⟩
            have HC4 := Lib.hid hc4
            have HZ4 := Lib.hid hz4
            rw [← hW4, ← hgc]
            clear hW4 hgc hl4 hc4 hz4 hfar hbn hF
            refine gate_one (i := 6) (by kernel_rfl) rfl (fun K hK => ?_)
            go_simp
            refine (HMV.out W4 HF4.out.lint HI4.out).mono ?_
            rintro e w3 ⟨b, m, c, rfl, hat, hfr, hb3⟩
            have hF3 : w3.cell? ⟨g, 0, none⟩ = some (.int .i64 L.d) ∧ w3.cell? ⟨g, 1, none⟩ = some (.int .i64 L.g) ∧ w3.cell? ⟨g, 2, none⟩ = some (.slice la ln lc) ∧ w3.cell? ⟨ba, oa + k * 3, none⟩ = some (.int .i64 p.wd) ∧ w3.cell? ⟨ba, oa + k * 3 + 1, none⟩ = some (.int .i64 p.hg) ∧ w3.cell? ⟨ba, oa + k * 3 + 2, none⟩ = some (.slice p.a p.n p.cap) := ⟨Lat.cell_at hb3 hF4.1, Lat.cell_at hb3 hF4.2.1, Lat.cell_at hb3 hF4.2.2.1, Lat.cell_at hb3 hF4.2.2.2.1, Lat.cell_at hb3 hF4.2.2.2.2.1, Lat.cell_at hb3 hF4.2.2.2.2.2⟩
            refine hK _ _ ⟨hF3, fun _ => trivial⟩ ?_
            clear hK K hF4
            have hc5 := HC4.out.keep hb3
            have y0 := hc5.c0
            have y1 := hc5.c1
            have y2 := hc5.c2
            have y3 := hc5.c3
            have z0 := hb3.free_at hgw (HZ4.out 0)
            have z1 := hb3.free_at hgw (HZ4.out 1)
            have z2 := hb3.free_at hgw (HZ4.out 2)
            have z3 := hb3.free_at hgw (HZ4.out 3)
            have ho : Only gc w3 (four w3 gc (.bool false) (.int .i64 X) (.int .i64 Y) (.slice b m c)) :=
              (((Only.set w3 ⟨gc, 0, none⟩ _).trans (Only.set _ ⟨gc, 1, none⟩ _)).trans (Only.set _ ⟨gc, 2, none⟩ _)).trans (Only.set _ ⟨gc, 3, none⟩ _)
            have hf5 := (HF4.out.lat hb3).onlyNew ho HFR.out.1 HFR.out.2.1 HFR.out.2.2.1 HFR.out.2.2.2.1 HFR.out.2.2.2.2
            have hc6 := four_set hc5 (.bool false) (.int .i64 X) (.int .i64 Y) (.slice b m c)
            have hat5 := hat.only ho (fun hn b' o' ha => hfr gc hgw b' o' ha hn)
            have hoff := Off.fresh hfr HF4.out.sz (fun k hk => (HF4.out.own.lt k hk).2)
            have hF5 : (four w3 gc (.bool false) (.int .i64 X) (.int .i64 Y) (.slice b m c)).cell? ⟨g, 0, none⟩ = some (.int .i64 L.d) ∧ (four w3 gc (.bool false) (.int .i64 X) (.int .i64 Y) (.slice b m c)).cell? ⟨g, 1, none⟩ = some (.int .i64 L.g) ∧ (four w3 gc (.bool false) (.int .i64 X) (.int .i64 Y) (.slice b m c)).cell? ⟨g, 2, none⟩ = some (.slice la ln lc) ∧ (four w3 gc (.bool false) (.int .i64 X) (.int .i64 Y) (.slice b m c)).cell? ⟨ba, oa + k * 3, none⟩ = some (.int .i64 p.wd) ∧ (four w3 gc (.bool false) (.int .i64 X) (.int .i64 Y) (.slice b m c)).cell? ⟨ba, oa + k * 3 + 1, none⟩ = some (.int .i64 p.hg) ∧ (four w3 gc (.bool false) (.int .i64 X) (.int .i64 Y) (.slice b m c)).cell? ⟨ba, oa + k * 3 + 2, none⟩ = some (.slice p.a p.n p.cap) := ⟨by rw [ho.cell HFR.out.1]; exact hF3.1, by rw [ho.cell HFR.out.1]; exact hF3.2.1, by rw [ho.cell HFR.out.1]; exact hF3.2.2.1, by rw [ho.cell HBN.out]; exact hF3.2.2.2.1, by rw [ho.cell HBN.out]; exact hF3.2.2.2.2.1, by rw [ho.cell HBN.out]; exact hF3.2.2.2.2.2⟩
            have HF5 := Lib.hid hf5
            have HC6 := Lib.hid hc6
            have HAT5 := Lib.hid hat5
            have HOFF := Lib.hid hoff
            have HFF := Lib.hid hF5
            unfold four at HFF
            clear hF3 hat hfr hb3 hc5 ho hf5 hc6 hat5 hoff hF5
            refine gate_one (i := 8) (by kernel_rfl) rfl (fun K hK => ?_)
            go_simp
            refine hK _ _ ⟨HFF.out, fun _ => trivial⟩ ?_
            clear hK K
            refine gate_done (by kernel_rfl) ?_ _
            go_wp2_with fail
            go_meet
            case rel => exact ⟨gc, b, m, c, rfl, HF5.out, HC6.out, HAT5.out, HOFF.out, HFR.out.1⟩
        case rest =>
        obtain ⟨gc, b, m, c, rfl, hcut⟩ := hcut
        have HF4 := Lib.hid hcut.out.1
        have HC4 := Lib.hid hcut.out.2.1
        have HAT4 := Lib.hid hcut.out.2.2.1
        have HOFF := Lib.hid hcut.out.2.2.2.1
        have hgg := hcut.out.2.2.2.2
        clear hcut l0 l1 l2 c0 c1 c2
        generalize wc = W4 at *
        have y0 := HC4.out.c0
        have y1 := HC4.out.c1
        have y2 := HC4.out.c2
        have y3 := HC4.out.c3
        have l0 := HF4.out.last.c0
        have l1 := HF4.out.last.c1
        have l2 := HF4.out.last.c2
        go_wp2_with fail
        refine (refBehind_tl L la ln lc p.wd p.hg X Y b m c R s W4 HF4.out.lint HAT4.out).mono ?_
        rintro e w5 ⟨b5, m5, c5, rfl, hat5, hfr5, hb5⟩
        obtain ⟨T, hT⟩ : ∃ T, T = tlS p.wd p.hg s L ⟨false, X, Y, R⟩ := ⟨_, rfl⟩
        rw [← hT] at hat5
        have hss5 := HSS2.out
        rw [← hT] at hss5
        rw [← hT]
        have hf5 := HF4.out.lat hb5
        have hoff5 := Off.fresh hfr5 HF4.out.sz (fun k hk => (HF4.out.own.lt k hk).2)
        have hf6 := hf5.store (L2 := T) hat5 hoff5
        have ho := Only.three w5 g (.int .i64 T.d) (.int .i64 T.g) (.slice b5 m5 c5)
        have hci := (HAT4.out.keep hb5).onlyOff ho HOFF.out
        have hc5 := HC4.out.keep hb5
        have hne : gc ≠ g := Ne.symm hgg
        have q0 : (three w5 g (.int .i64 T.d) (.int .i64 T.g) (.slice b5 m5 c5)).cell? ⟨gc, 0, none⟩ = some (.bool false) := by rw [ho.cell hne]; exact hc5.c0
        have q1 : (three w5 g (.int .i64 T.d) (.int .i64 T.g) (.slice b5 m5 c5)).cell? ⟨gc, 1, none⟩ = some (.int .i64 X) := by rw [ho.cell hne]; exact hc5.c1
        have q2 : (three w5 g (.int .i64 T.d) (.int .i64 T.g) (.slice b5 m5 c5)).cell? ⟨gc, 2, none⟩ = some (.int .i64 Y) := by rw [ho.cell hne]; exact hc5.c2
        have q3 : (three w5 g (.int .i64 T.d) (.int .i64 T.g) (.slice b5 m5 c5)).cell? ⟨gc, 3, none⟩ = some (.slice b m c) := by rw [ho.cell hne]; exact hc5.c3
        have g0 := hf5.last.c0
        have g1 := hf5.last.c1
        have g2 := hf5.last.c2
        have fz0 := hf5.frz 0 (by omega)
        have fz1 := hf5.frz 1 (by omega)
        have fz2 := hf5.frz 2 (by omega)
        have HSS5 := Lib.hid hss5
        have HF6 := Lib.hid hf6
        have HCI := Lib.hid hci
        obtain ⟨W5, hW5⟩ : ∃ W, W = three w5 g (.int .i64 T.d) (.int .i64 T.g) (.slice b5 m5 c5) := ⟨_, rfl⟩
        rw [← hW5] at HF6 HCI q0 q1 q2 q3
        unfold three at hW5
        clear hat5 hfr5 hb5 hT hss5 hf5 hoff5 hf6 ho hci hc5 hne y0 y1 y2 y3 l0 l1 l2
        go_upto_region 12 with fail
        rw [← hW5]
        clear hW5 g0 g1 g2 fz0 fz1 fz2
        go_wp2_with (at_builtin; refine appR W5 W1.heap.size rfl _ _ 74 rfl 53 _ 4 48 Tryd.underlying74 info_Coded rfl (by decide) (by decide) _ _ _ (by rfl) HF6.out.own rfl (by rfl) (fun u hu => by simp at hu; rcases hu with rfl | rfl | rfl | rfl <;> rfl) (by rw [List.length_map, HLEN.out]; omega) HF6.out.but.size ?_)
        intro v' w6 hown6 hb6 hstep6
        have hf7 := HF6.out.app (c := ⟨⟨false, X, Y, R⟩, b, m, c⟩) HCI.out HOFF.out hown6 hb6 hstep6
        have hcs6 : (cs ++ [(⟨⟨false, X, Y, R⟩, b, m, c⟩ : Cd)]).map Cd.c = (sht PS en s (k + 1)).1 := by
          rw [List.map_append, HCT.out, HSS5.out]; rfl
        have hT6 : T = (sht PS en s (k + 1)).2 := by rw [HSS5.out]
        rw [hT6] at hf7
        have HF7 := Lib.hid hf7
        have HCS6 := Lib.hid hcs6
        clear hown6 hb6 hstep6 hf7 hcs6 hT6 q0 q1 q2 q3
        go_wp2_with fail
        go_roundw
        case rel => exact ⟨k + 1, by omega, by go_num, b5, m5, c5, _, HF7.out, HCS6.out⟩
        case measure => simp [intOf]; omega
    · obtain rfl : n = k := by omega
      have hlen : cs.length = n := by have := congrArg List.length HCT.out; rw [List.length_map, sht_len] at this; exact this
      obtain ⟨va, vc, rfl, hat⟩ := CodsAt.of HF.out.own (fun c hc => (HF.out.rest c hc).1) hlen
      have HAT := Lib.hid hat
      have HLL := Lib.hid (HF.out.but.lat HW1.out HG.out)
      clear hat hlen
      go_wp2_with fail
      go_ret
      exact ⟨va, vc, cs, rfl, HAT.out, HCT.out, HLL.out⟩
end Go.Proofs.YtnnjijdpenifjaaDoor
