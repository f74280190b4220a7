/- The document's word on coded pictures: what is told by them. -/
import Derived.Test.YtooepflfofgnnaaDoorFilmRow
import Derived.Test.YtooepflfofgnnaaDoorRefSame
import Derived.Test.YtooepflfofgnnaaDoorRefFilm
import Derived.Test.YtooepflfofgnnaaDoorFilmDec
import Derived.Test.YtooepflfofgnnaaDoorGate
import Derived.Test.YtooepflfofgnnaaDoorOffV
namespace Go.Proofs.YtooepflfofgnnaaDoor
open Go.ChangeShapes Go.WideShapes Go.ChangeAt Go.RowKit

structure SvI (W1 wr : World) (v : Value) (cs : List Pd) : Prop where
  own : OwnR wr W1.heap.size 132 3 v (cs.map Pd.row)
  lat : Lat W1 wr
  rest : ∀ c ∈ cs, IntsAt wr c.a c.n c.cap c.p.zs ∧ OffV c.a c.n v
theorem SvI.keep {W1 wr wr' : World} {v : Value} {cs : List Pd} (h : SvI W1 wr v cs) (hb : Lat wr wr') : SvI W1 wr' v cs :=
  ⟨h.own.keep hb, Lat.trans h.lat hb, fun c hc => ⟨(h.rest c hc).1.keep hb, (h.rest c hc).2⟩⟩
theorem SvI.only {W1 wr wr' : World} {v : Value} {cs : List Pd} {g : Nat} (h : SvI W1 wr v cs) (hb : Only g wr wr') (hg : W1.heap.size ≤ g) (hv : v.ownBlock ≠ some g) (hc : ∀ c ∈ cs, c.n ≠ 0 → ∀ b o, c.a = some ⟨b, o, none⟩ → b ≠ g) : SvI W1 wr' v cs := by
  refine ⟨⟨h.own.1, ?_⟩, hb.lat h.lat hg, fun c hc' => ⟨(h.rest c hc').1.only hb (hc c hc'), (h.rest c hc').2⟩⟩
  obtain ⟨h1, h2⟩ := h.own.2
  refine ⟨h1, ?_⟩
  rcases h2 with h2 | ⟨k, cap, cur, rfl, hbb, hh, rest⟩
  · exact .inl h2
  · exact .inr ⟨k, cap, cur, rfl, hbb, by rw [hb.block k (fun e => hv (by rw [← e]; rfl))]; exact hh, rest⟩
theorem SvI.app {W1 wr w' : World} {v v' : Value} {cs : List Pd} (h : SvI W1 wr v cs) {c : Pd} (hat : IntsAt wr c.a c.n c.cap c.p.zs) (hf : OffV c.a c.n v)
    (ho : OwnR w' W1.heap.size 132 3 v' (cs.map Pd.row ++ [c.row])) (hb : Below W1.heap.size wr w') (hs : AppStep wr w' v v') : SvI W1 w' v' (cs ++ [c]) := by
  refine ⟨by rw [List.map_append]; exact ho, Below.trans h.lat hb, fun x hx => ?_⟩
  rcases List.mem_append.1 hx with hx | hx
  · exact (h.rest x hx).1.stepV hs (h.rest x hx).2
  · rw [List.mem_singleton.1 hx]; exact hat.stepV hs hf
theorem dst_last (W H s : Int) (cs : List Ct) (j : Nat) (ds : List Pd) (h : ds.map Pd.p = (dst W H s cs (j + 1)).1) : (ds.getD j default).p = (dst W H s cs (j + 1)).2 := by
  have hl : ds.length = j + 1 := by have := congrArg List.length h; rw [List.length_map, dst_len] at this; exact this
  have e : (ds.map Pd.p).getD j default = (ds.getD j default).p := by
    rw [List.getD_eq_getElem?_getD, List.getD_eq_getElem?_getD, List.getElem?_map, List.getElem?_eq_getElem (by omega)]; rfl
  rw [← e, h, dst_succ, List.getD_eq_getElem?_getD, List.getElem?_append_right (by rw [dst_len]; exact Nat.le_refl _), dst_len, Nat.sub_self]; rfl

set_option maxHeartbeats 8000000 in
set_option maxRecDepth 100000 in
theorem refSeen (wd hg s : Int) (a : Option Addr) (n cap : Nat) (cs : List Cd) (w : World) (h : CodsAt w a n cap cs) :
    Calls Tryd.prog 67 #[.int .i64 wd, .int .i64 hg, .int .i64 s, .slice a n cap] w fun e w' => ∃ va vc ds, e = .returned (.tuple #[.slice va ds.length vc, .int .i64 (fdE wd hg s (cs.map Cd.c))]) ∧ PdsAt w' va ds.length vc ds ∧
      ds.map Pd.p = fdL wd hg s (cs.map Cd.c) ∧ Lat w w' := by
  have hl := h.len
  obtain ⟨E, hE⟩ : ∃ E, E = fdE wd hg s (cs.map Cd.c) := ⟨_, rfl⟩
  obtain ⟨R, hR⟩ : ∃ E, E = fdL wd hg s (cs.map Cd.c) := ⟨_, rfl⟩
  obtain ⟨CT, hCT⟩ : ∃ E, E = cs.map Cd.c := ⟨_, rfl⟩
  have hE2 : E = if fchkE n ≠ 0 then fchkE n else if sideB wd = false ∨ sideB hg = false ∨ stepB s = false then 1 else if (CT.getD 0 default).al = false then 3 else dstE wd hg s CT n := by
    rw [hE, ← hCT]; unfold fdE; rw [hCT, List.length_map, hl]
  have hr1 : E ≠ 0 → R = [] := fun h => by rw [hR]; unfold fdL; rw [if_neg (by rw [← hE]; exact h)]
  have hr0 : E = 0 → R = (dst wd hg s CT n).1 := fun h => by rw [hR]; unfold fdL; rw [if_pos (by rw [← hE]; exact h), List.length_map, hl, hCT]
  rw [← hE, ← hR]
  have hcg : ∀ j, j < n → CT.getD j default = (cs.getD j default).c := fun j hj => by rw [hCT]; exact cts_getD (by rw [hl]; exact hj)
  have HR1 := Lib.hid hr1
  have HR0 := Lib.hid hr0
  have HE2 := Lib.hid hE2
  have HCG := Lib.hid hcg
  have H := Lib.hid h
  clear hR hr1 hr0 hE hE2 hl h hcg hCT
  by_cases h0 : n = 0
  · have e1 : E = 5 := by rw [HE2.out]; unfold fchkE; rw [if_pos h0]; rfl
    have t0 : ((n : Int) == 0) = true := beq_iff_eq.2 (by omega)
    have HE1 := Lib.hid e1
    clear e1 h0
    go_enter Tryd.func67, Tryd.ntmps67
    go_wp2_with fail
    go_ret2
    exact ⟨none, 0, [], by rw [HE1.out]; rfl, PdsAt.nil _, by rw [HR1.out (by rw [HE1.out]; omega)]; rfl, Lat.refl _⟩
  have t0 : ((n : Int) == 0) = false := beq_eq_false_iff_ne.2 (by omega)
  by_cases h6 : 6 < n
  · have e1 : E = 4 := by rw [HE2.out]; unfold fchkE; rw [if_neg h0, if_pos h6]; rfl
    have t1 : decide (6 < (n : Int)) = true := decide_eq_true (by omega)
    have HE1 := Lib.hid e1
    clear e1 h0 h6
    go_enter Tryd.func67, Tryd.ntmps67
    go_wp2_with fail
    go_ret2
    exact ⟨none, 0, [], by rw [HE1.out]; rfl, PdsAt.nil _, by rw [HR1.out (by rw [HE1.out]; omega)]; rfl, Lat.refl _⟩
  have t1 : decide (6 < (n : Int)) = false := decide_eq_false (by omega)
  have hn6 : n ≤ 6 := by omega
  have hE3 : E = if sideB wd = false ∨ sideB hg = false ∨ stepB s = false then 1 else if (CT.getD 0 default).al = false then 3 else dstE wd hg s CT n := by
    have hz : fchkE n = 0 := by unfold fchkE; rw [if_neg h0, if_neg h6]
    rw [HE2.out, hz, if_neg (by simp)]
  have HE3 := Lib.hid hE3
  obtain ⟨ba, oa, rfl, hba, hcs⟩ := cods_at H.out h0
  have HCS := Lib.hid hcs
  obtain ⟨z0, _⟩ := hcs 0 (by omega)
  rw [Nat.zero_mul, Nat.add_zero] at z0
  have hc0 := HCG.out 0 (by omega)
  have dp : (0 : Int) < (n : Int) := by omega
  have dp2 : 0 < n := by omega
  have hd : (decide (wd < 1) = true ∧ E = 1) ∨ (decide (wd < 1) = false ∧ decide (6 < wd) = true ∧ E = 1) ∨ (decide (wd < 1) = false ∧ decide (6 < wd) = false ∧ decide (hg < 1) = true ∧ E = 1) ∨ (decide (wd < 1) = false ∧ decide (6 < wd) = false ∧ decide (hg < 1) = false ∧ decide (6 < hg) = true ∧ E = 1) ∨
      (decide (wd < 1) = false ∧ decide (6 < wd) = false ∧ decide (hg < 1) = false ∧ decide (6 < hg) = false ∧ decide (s < 1) = true ∧ E = 1) ∨ (decide (wd < 1) = false ∧ decide (6 < wd) = false ∧ decide (hg < 1) = false ∧ decide (6 < hg) = false ∧ decide (s < 1) = false ∧ decide (64 < s) = true ∧ E = 1) ∨
      (decide (wd < 1) = false ∧ decide (6 < wd) = false ∧ decide (hg < 1) = false ∧ decide (6 < hg) = false ∧ decide (s < 1) = false ∧ decide (64 < s) = false ∧ E = if (cs.getD 0 default).c.al = false then 3 else dstE wd hg s CT n) := by
    have hb : (sideB wd = false ∨ sideB hg = false ∨ stepB s = false) → E = 1 := fun q => by rw [hE3, if_pos q]
    by_cases p1 : wd < 1
    · exact .inl ⟨decide_eq_true p1, hb (.inl (by simp [sideB]; omega))⟩
    by_cases p2 : 6 < wd
    · exact .inr (.inl ⟨decide_eq_false p1, decide_eq_true p2, hb (.inl (by simp [sideB]; omega))⟩)
    by_cases p3 : hg < 1
    · exact .inr (.inr (.inl ⟨decide_eq_false p1, decide_eq_false p2, decide_eq_true p3, hb (.inr (.inl (by simp [sideB]; omega)))⟩))
    by_cases p4 : 6 < hg
    · exact .inr (.inr (.inr (.inl ⟨decide_eq_false p1, decide_eq_false p2, decide_eq_false p3, decide_eq_true p4, hb (.inr (.inl (by simp [sideB]; omega)))⟩)))
    by_cases p5 : s < 1
    · exact .inr (.inr (.inr (.inr (.inl ⟨decide_eq_false p1, decide_eq_false p2, decide_eq_false p3, decide_eq_false p4, decide_eq_true p5, hb (.inr (.inr (by simp [stepB]; omega)))⟩))))
    by_cases p6 : 64 < s
    · exact .inr (.inr (.inr (.inr (.inr (.inl ⟨decide_eq_false p1, decide_eq_false p2, decide_eq_false p3, decide_eq_false p4, decide_eq_false p5, decide_eq_true p6, hb (.inr (.inr (by simp [stepB]; omega)))⟩)))))
    · exact .inr (.inr (.inr (.inr (.inr (.inr ⟨decide_eq_false p1, decide_eq_false p2, decide_eq_false p3, decide_eq_false p4, decide_eq_false p5, decide_eq_false p6, by rw [hE3, hc0, if_neg (by simp [sideB, stepB]; omega)]⟩)))))
  have HD := Lib.hid hd
  clear hba hE3 HE2 hcs hc0 hd h0 h6
  rcases HD.out with ⟨d1, e1⟩ | ⟨d1, d2, e1⟩ | ⟨d1, d2, d3, e1⟩ | ⟨d1, d2, d3, d4, e1⟩ | ⟨d1, d2, d3, d4, d5, e1⟩ | ⟨d1, d2, d3, d4, d5, d6, e1⟩ | ⟨d1, d2, d3, d4, d5, d6, e1⟩
  iterate 6
    · have HE1 := Lib.hid e1
      clear e1
      go_enter Tryd.func67, Tryd.ntmps67
      go_wp2_with fail
      go_ret2
      exact ⟨none, 0, [], by rw [HE1.out]; rfl, PdsAt.nil _, by rw [HR1.out (by rw [HE1.out]; omega)]; rfl, Lat.refl _⟩
  obtain ⟨AL, hAL⟩ : ∃ b, b = (cs.getD 0 default).c.al := ⟨_, rfl⟩
  rw [← hAL] at e1 z0
  have HE1 := Lib.hid e1
  have HAL := Lib.hid hAL
  clear e1 hAL
  cases AL with
  | false =>
    have HE4 := Lib.hid (show E = 3 by rw [HE1.out]; rfl)
    go_enter Tryd.func67, Tryd.ntmps67
    go_wp2_with fail
    go_ret2
    exact ⟨none, 0, [], by rw [HE4.out]; rfl, PdsAt.nil _, by rw [HR1.out (by rw [HE4.out]; omega)]; rfl, Lat.refl _⟩
  | true =>
    have HE5 := Lib.hid (show E = dstE wd hg s CT n by rw [HE1.out]; rfl)
    clear HE1 HE3 HD
    go_enter Tryd.func67, Tryd.ntmps67
    go_wp2_with fail
    clear z0
    go_loopw [10, 11] (fun v i wx => ∃ k : Nat, k ≤ n ∧ i = .int .i64 k ∧ Hid (∃ ds, SvI w wx v ds ∧ ds.map Pd.p = (dst wd hg s CT k).1 ∧ dstE wd hg s CT k = 0)) (fun _ i _ => n - (intOf i).toNat)
    case atStart => exact ⟨0, Nat.zero_le _, rfl, [], ⟨OwnR.nil _ _ _ _, Lat.refl _, by simp⟩, rfl, rfl⟩
    case round =>
      obtain ⟨k, hk, rfl, hrel⟩ := hrel
      obtain ⟨ds, hf, hds, hdz⟩ := hrel.out
      have HF := Lib.hid hf
      have HDS := Lib.hid hds
      have HDZ := Lib.hid hdz
      clear hrel hf hds hdz
      by_cases hlt : k < n
      · have i1 : (k : Int) < (n : Int) := by omega
        obtain ⟨b0, b1, b2, b3, hint⟩ := HCS.out k hlt
        have hcg := HCG.out k hlt
        have hss := dst_succ wd hg s CT k
        have hse : dstE wd hg s CT (k + 1) = tlE wd hg s (dst wd hg s CT k).2 (CT.getD k default) := by rw [dstE, if_neg (by rw [HDZ.out]; simp)]
        rw [hcg] at hss hse
        have hal0 : k = 0 → (cs.getD k default).c.al = true := fun e => by rw [e]; exact HAL.out.symm
        obtain ⟨q, hq⟩ : ∃ q, q = cs.getD k default := ⟨_, rfl⟩
        obtain ⟨L, hL⟩ : ∃ L, L = (dst wd hg s CT k).2 := ⟨_, rfl⟩
        rw [← hq] at b0 b1 b2 b3 hint hss hse hal0
        rw [← hL] at hss hse
        have hlast : ∀ j, k = j + 1 → (ds.getD j default).p = L := fun j e => by rw [hL]; subst e; exact dst_last wd hg s CT j ds HDS.out
        obtain ⟨⟨al, x, y, rs⟩, qa, qn, qc⟩ := q
        change dst wd hg s CT (k + 1) = ((dst wd hg s CT k).1 ++ [tlS wd hg s L ⟨al, x, y, rs⟩], tlS wd hg s L ⟨al, x, y, rs⟩) at hss
        change dstE wd hg s CT (k + 1) = tlE wd hg s L ⟨al, x, y, rs⟩ at hse
        change k = 0 → al = true at hal0
        change w.cell? ⟨ba, oa + k * 4, none⟩ = some (.bool al) at b0
        change w.cell? ⟨ba, oa + k * 4 + 1, none⟩ = some (.int .i64 x) at b1
        change w.cell? ⟨ba, oa + k * 4 + 2, none⟩ = some (.int .i64 y) at b2
        change w.cell? ⟨ba, oa + k * 4 + 3, none⟩ = some (.slice qa qn qc) at b3
        change IntsAt w qa qn qc rs at hint
        obtain ⟨W2, hW2⟩ : ∃ W, W = wr.alloc (.cells #[.int .i64 0, .int .i64 0, .slice none 0 0] 132) := ⟨_, rfl⟩
        obtain ⟨gp, hgp⟩ : ∃ g, g = wr.heap.size := ⟨_, rfl⟩
        have hl2 : Lat wr W2 := by rw [hW2]; exact Lat.alloc _ _
        have hp3 : Cells3 W2 gp 0 (.int .i64 0) (.int .i64 0) (.slice none 0 0) := by rw [hW2]; exact cells3_new hgp rfl rfl rfl
        have hfz : ∀ k, W2.frozen? ⟨gp, k, none⟩ = false := fun k => by rw [hW2, hgp]; simp
        have hgw : gp < W2.heap.size := by rw [hW2, hgp]; simp
        have hgown : ∀ k, u10.ownBlock = some k → k ≠ gp := fun k e => by have := (HF.out.own.lt k e).2; omega
        have hgrest : ∀ c ∈ ds, c.n ≠ 0 → ∀ b o, c.a = some ⟨b, o, none⟩ → b ≠ gp := fun c hc hn b o ha => by have := (HF.out.rest c hc).1.lt hn ha; omega
        have hlatw := Lat.trans HF.out.lat hl2
        have c0 := hlatw.cell_at b0
        have c1 := hlatw.cell_at b1
        have c2 := hlatw.cell_at b2
        have c3 := hlatw.cell_at b3
        have HSS := Lib.hid hss
        have HSE := Lib.hid hse
        have HA0 := Lib.hid hal0
        have HLS := Lib.hid hlast
        have HF2 := Lib.hid (HF.out.keep hl2)
        have HI2 := Lib.hid (hint.keep hlatw)
        have HP3 := Lib.hid hp3
        have HFZ := Lib.hid hfz
        have HGO := Lib.hid hgown
        have HGR := Lib.hid hgrest
        have HB0 := Lib.hid (show w.heap.size ≤ gp by rw [hgp]; exact HF.out.lat.size)
        have HNB := Lib.hid (show ba ≠ gp by have := World.block_lt_of_cell? _ _ (HF.out.lat.cell_at b0); rw [hgp]; simp at this; omega)
        obtain ⟨X, hX⟩ : ∃ X, X = tlE wd hg s L ⟨al, x, y, rs⟩ := ⟨_, rfl⟩
        obtain ⟨T, hT⟩ : ∃ X, X = tlS wd hg s L ⟨al, x, y, rs⟩ := ⟨_, rfl⟩
        have HX := Lib.hid hX
        have HT := Lib.hid hT
        clear b0 b1 b2 b3 hint hcg hss hse hq hL hl2 hp3 hfz hgown hgrest hlatw hlast hal0 hX hT
        go_upto_region 15 with fail
        rw [← hW2, ← hgp]
        clear hW2 hgp
        go_upto_if 57 with fail
        go_cut [13] (fun e wx => ∃ (pa : Option Addr) (pn pc : Nat), e = .int .i64 X ∧ Hid (SvI w wx u10 ds ∧ Lat W2 W2 ∧ (X = 0 → Cells3 wx gp 0 (.int .i64 T.d) (.int .i64 T.g) (.slice pa pn pc) ∧ IntsAt wx pa pn pc T.zs ∧ OffV pa pn u10)))
        case first =>
          have p0 := HP3.out.c0
          have p1 := HP3.out.c1
          have p2 := HP3.out.c2
          have fz0 := HFZ.out 0
          have fz1 := HFZ.out 1
          have fz2 := HFZ.out 2
          cases al with
          | true =>
            have hq : ((x != 0) = true ∨ ((x != 0) = false ∧ (y != 0) = true)) ∧ X = 3 ∨ ((x != 0) = false ∧ (y != 0) = false ∧ x = 0 ∧ y = 0) := by
              have ht : (x ≠ 0 ∨ y ≠ 0) → X = 3 := fun q => by rw [HX.out]; unfold tlE tldE; rw [if_neg (by simp), if_pos q]
              by_cases q1 : x = 0
              · by_cases q2 : y = 0
                · exact .inr ⟨by rw [bne_eq_false_iff_eq]; exact q1, by rw [bne_eq_false_iff_eq]; exact q2, q1, q2⟩
                · exact .inl ⟨.inr ⟨by rw [bne_eq_false_iff_eq]; exact q1, by rw [bne_iff_ne]; exact q2⟩, ht (.inr q2)⟩
              · exact .inl ⟨.inl (by rw [bne_iff_ne]; exact q1), ht (.inl q1)⟩
            have HQ := Lib.hid hq
            clear hq
            rcases HQ.out with ⟨u1 | ⟨u1, u2⟩, e3⟩ | ⟨_, _, rfl, rfl⟩
            · have HE3 := Lib.hid e3
              clear e3
              go_wp2_with fail
              go_meet
              case rel => exact ⟨none, 0, 0, by rw [HE3.out]; rfl, HF2.out, Lat.refl _, fun e => by have := HE3.out; omega⟩
            · have HE3 := Lib.hid e3
              clear e3
              go_wp2_with fail
              go_meet
              case rel => exact ⟨none, 0, 0, by rw [HE3.out]; rfl, HF2.out, Lat.refl _, fun e => by have := HE3.out; omega⟩
            · have e1 : X = dcE wd hg s rs := by rw [HX.out]; unfold tlE tldE; rw [if_neg (by simp), if_neg (by simp)]
              have e2 : T.d = tolD wd hg s rs := by rw [HT.out]; show tldD L.d L.g L.zs wd hg s true 0 0 rs = _; unfold tldD; rw [if_neg (by simp), if_neg (by simp)]
              have e3 : T.g = tolG wd hg s rs := by rw [HT.out]; show tldG L.d L.g L.zs wd hg s true 0 0 rs = _; unfold tldG; rw [if_neg (by simp), if_neg (by simp)]
              have e4 : T.zs = tolR wd hg s rs := by rw [HT.out]; show tldR L.d L.g L.zs wd hg s true 0 0 rs = _; unfold tldR; rw [if_neg (by simp), if_neg (by simp)]
              have hcall := refTold_sameF wd hg s qa qn qc rs W2 HI2.out
              rw [← e1, ← e2, ← e3, ← e4] at hcall
              have HCL := Lib.hid hcall
              clear e1 e2 e3 e4 hcall
              go_wp2_with fail
              refine HCL.out.mono ?_
              rintro e w3 ⟨b, m, c, rfl, hat, hfr, hb3⟩
              have hf3 := HF2.out.keep hb3
              have hp3 := HP3.out.keep hb3
              have ho := Only.three w3 gp (.int .i64 T.d) (.int .i64 T.g) (.slice b m c)
              have hoff := OffV.fresh hfr (fun k hk => (HF2.out.own.lt k hk).2)
              have hf4 := hf3.only ho HB0.out (fun e => HGO.out gp e rfl) HGR.out
              have hat4 := hat.only ho (fun hn b' o' ha => hfr gp hgw b' o' ha hn)
              have hp4 := three_set (g := gp) hp3.c0 hp3.c1 hp3.c2 (.int .i64 T.d) (.int .i64 T.g) (.slice b m c)
              have z0 := hp3.c0
              have z1 := hp3.c1
              have z2 := hp3.c2
              have g0 := hb3.free_at hgw fz0
              have g1 := hb3.free_at hgw fz1
              have g2 := hb3.free_at hgw fz2
              have HF4 := Lib.hid hf4
              have HAT4 := Lib.hid hat4
              have HP4 := Lib.hid hp4
              have HOFF := Lib.hid hoff
              clear hat hfr hb3 hf3 hp3 ho hoff hf4 hat4 hp4 p0 p1 p2 fz0 fz1 fz2
              go_wp2_with fail
              go_meet
              case rel => exact ⟨b, m, c, rfl, HF4.out, Lat.refl _, fun _ => ⟨⟨HP4.out.1, HP4.out.2.1, HP4.out.2.2⟩, HAT4.out, HOFF.out⟩⟩
          | false =>
            obtain ⟨j, hj⟩ : ∃ j, k = j + 1 := ⟨k - 1, by have := HA0.out; by_cases h : k = 0; · cases this h
                                                          · omega⟩
            have hlen : ds.length = k := by have := congrArg List.length HDS.out; rw [List.length_map, dst_len] at this; exact this
            obtain ⟨oa', oc, rfl, hrows⟩ := HF2.out.own.slice (n := k) (by rw [List.length_map]; exact hlen)
            obtain ⟨ob, oo, rfl, hro⟩ := hrows.at_ (by omega)
            have hLj := HLS.out j hj
            obtain ⟨P, hP⟩ : ∃ P, P = ds.getD j default := ⟨_, rfl⟩
            have hrow := (hro j P.row (by rw [List.getElem?_map, hP, List.getD_eq_getElem?_getD, List.getElem?_eq_getElem (by omega)]; rfl)).2
            have r0 := hrow 0 _ rfl
            have r1 := hrow 1 _ rfl
            have r2 := hrow 2 _ rfl
            rw [Nat.add_zero] at r0
            rw [← Nat.add_assoc] at r1 r2
            have hPi := (HF2.out.rest P (by rw [hP, List.getD_eq_getElem?_getD, List.getElem?_eq_getElem (by omega)]; exact List.getElem_mem _)).1
            rw [← hP] at hLj
            rw [hLj] at r0 r1 hPi
            have hnb : ob ≠ gp := fun e => HGO.out ob rfl e
            obtain ⟨_, Pa, Pn, Pc'⟩ := P
            change W2.cell? ⟨ob, oo + j * 3 + 2, none⟩ = some (.slice Pa Pn Pc') at r2
            change IntsAt W2 Pa Pn Pc' L.zs at hPi
            have hcall := refBehind_tl L Pa Pn Pc' wd hg x y qa qn qc rs s W2.drew (hPi.keep (Lat.drewN W2 1)) (HI2.out.keep (Lat.drewN W2 1))
            rw [← HX.out, ← HT.out] at hcall
            have HCL := Lib.hid hcall
            have HNO := Lib.hid hnb
            have HJ := Lib.hid hj
            have i2 : (k : Int) ≤ (oc : Int) := by have := hrows.le; omega
            have i3 : (0 : Int) ≤ (k : Int) - 1 := by omega
            have i4 : (1 : Int) ≤ (k : Int) := by omega
            have i5 : (k : Int) - 1 < (k : Int) := by omega
            have i6 : ((k : Int) - 1).toNat = j := by omega
            have i7 : IntKind.i64.wrap ((k : Int) - 1) = (k : Int) - 1 := IntWalk.i64_in _ (by omega)
            clear hlen hrows hro hP hrow hPi hLj hcall hnb hj
            go_wp2_with fail
            have hF : W2.drew.cell? ⟨ob, oo + j * 3, none⟩ = some (.int .i64 L.d) ∧ W2.drew.cell? ⟨ob, oo + j * 3 + 1, none⟩ = some (.int .i64 L.g) ∧ W2.drew.cell? ⟨ob, oo + j * 3 + 2, none⟩ = some (.slice Pa Pn Pc') ∧ W2.drew.cell? ⟨ba, oa + k * 4, none⟩ = some (.bool false) ∧ W2.drew.cell? ⟨ba, oa + k * 4 + 1, none⟩ = some (.int .i64 x) ∧ W2.drew.cell? ⟨ba, oa + k * 4 + 2, none⟩ = some (.int .i64 y) ∧ W2.drew.cell? ⟨ba, oa + k * 4 + 3, none⟩ = some (.slice qa qn qc) := ⟨r0, r1, r2, c0, c1, c2, c3⟩
            refine wp_region_gate (fun w' => w'.cell? ⟨ob, oo + j * 3, none⟩ = some (.int .i64 L.d) ∧ w'.cell? ⟨ob, oo + j * 3 + 1, none⟩ = some (.int .i64 L.g) ∧ w'.cell? ⟨ob, oo + j * 3 + 2, none⟩ = some (.slice Pa Pn Pc') ∧ w'.cell? ⟨ba, oa + k * 4, none⟩ = some (.bool false) ∧ w'.cell? ⟨ba, oa + k * 4 + 1, none⟩ = some (.int .i64 x) ∧ w'.cell? ⟨ba, oa + k * 4 + 2, none⟩ = some (.int .i64 y) ∧ w'.cell? ⟨ba, oa + k * 4 + 3, none⟩ = some (.slice qa qn qc)) (fun _ => True) 1000 (by kernel_rfl) ?_
            refine gate_takeF (i := 0) (v := ?_) rfl (by kernel_rfl) (by kernel_rfl) (by kernel_rfl) (fun _ _ _ h => h) (by decide) ⟨hF, fun _ => trivial⟩ (Or.inl ⟨by rfl, ?_⟩) ?_
            rotate_left
            · intro wq hSw; obtain ⟨s0, s1, s2, s3, s4, s5, s6⟩ := hSw; go_simp; rfl
            simp only [Act.put]
            refine gate_takeF (i := 1) (v := ?_) rfl (by kernel_rfl) (by kernel_rfl) (by kernel_rfl) (fun _ _ _ h => h) (by decide) ⟨hF, fun _ => trivial⟩ (Or.inl ⟨by rfl, ?_⟩) ?_
            rotate_left
            · intro wq hSw; obtain ⟨s0, s1, s2, s3, s4, s5, s6⟩ := hSw; go_simp; rfl
            simp only [Act.put]
            refine gate_takeF (i := 2) (v := ?_) rfl (by kernel_rfl) (by kernel_rfl) (by kernel_rfl) (fun _ _ _ h => h) (by decide) ⟨hF, fun _ => trivial⟩ (Or.inl ⟨by rfl, ?_⟩) ?_
            rotate_left
            · intro wq hSw; obtain ⟨s0, s1, s2, s3, s4, s5, s6⟩ := hSw; go_simp; rfl
            simp only [Act.put]
            refine gate_takeF (i := 3) (v := ?_) rfl (by kernel_rfl) (by kernel_rfl) (by kernel_rfl) (fun _ _ _ h => h) (by decide) ⟨hF, fun _ => trivial⟩ (Or.inl ⟨by rfl, ?_⟩) ?_
            rotate_left
            · intro wq hSw; obtain ⟨s0, s1, s2, s3, s4, s5, s6⟩ := hSw; go_simp; rfl
            simp only [Act.put]
            refine gate_takeF (i := 4) (v := ?_) rfl (by kernel_rfl) (by kernel_rfl) (by kernel_rfl) (fun _ _ _ h => h) (by decide) ⟨hF, fun _ => trivial⟩ (Or.inl ⟨by rfl, ?_⟩) ?_
            rotate_left
            · intro wq hSw; obtain ⟨s0, s1, s2, s3, s4, s5, s6⟩ := hSw; go_simp; rfl
            simp only [Act.put]
            refine gate_takeF (i := 5) (v := ?_) rfl (by kernel_rfl) (by kernel_rfl) (by kernel_rfl) (fun _ _ _ h => h) (by decide) ⟨hF, fun _ => trivial⟩ (Or.inl ⟨by rfl, ?_⟩) ?_
            rotate_left
            · intro wq hSw; obtain ⟨s0, s1, s2, s3, s4, s5, s6⟩ := hSw; go_simp; rfl
            simp only [Act.put]
            refine gate_takeF (i := 6) (v := ?_) rfl (by kernel_rfl) (by kernel_rfl) (by kernel_rfl) (fun _ _ _ h => h) (by decide) ⟨hF, fun _ => trivial⟩ (Or.inl ⟨by rfl, ?_⟩) ?_
            rotate_left
            · intro wq hSw; obtain ⟨s0, s1, s2, s3, s4, s5, s6⟩ := hSw; go_simp; rfl
            simp only [Act.put]
            refine gate_takeF (i := 7) (v := ?_) rfl (by kernel_rfl) (by kernel_rfl) (by kernel_rfl) (fun _ _ _ h => h) (by decide) ⟨hF, fun _ => trivial⟩ (Or.inl ⟨by rfl, ?_⟩) ?_
            rotate_left
            · intro wq hSw; obtain ⟨s0, s1, s2, s3, s4, s5, s6⟩ := hSw; go_simp; rfl
            simp only [Act.put]
            refine gate_takeF (i := 8) (v := ?_) rfl (by kernel_rfl) (by kernel_rfl) (by kernel_rfl) (fun _ _ _ h => h) (by decide) ⟨hF, fun _ => trivial⟩ (Or.inl ⟨by rfl, ?_⟩) ?_
            rotate_left
            · intro wq hSw; obtain ⟨s0, s1, s2, s3, s4, s5, s6⟩ := hSw; go_simp; rfl
            simp only [Act.put]
            refine gate_takeF (i := 9) (v := ?_) rfl (by kernel_rfl) (by kernel_rfl) (by kernel_rfl) (fun _ _ _ h => h) (by decide) ⟨hF, fun _ => trivial⟩ (Or.inl ⟨by rfl, ?_⟩) ?_
            rotate_left
            · intro wq hSw; obtain ⟨s0, s1, s2, s3, s4, s5, s6⟩ := hSw; go_simp; rfl
            simp only [Act.put]
            refine gate_one (i := 10) (by kernel_rfl) rfl (fun K hK => ?_)
            go_simp
            refine (HCL.out).mono ?_
            rintro e w' ⟨b, m, c, rfl, hat, hfr, hb3⟩
            have hF' : w'.cell? ⟨ob, oo + j * 3, none⟩ = some (.int .i64 L.d) ∧ w'.cell? ⟨ob, oo + j * 3 + 1, none⟩ = some (.int .i64 L.g) ∧ w'.cell? ⟨ob, oo + j * 3 + 2, none⟩ = some (.slice Pa Pn Pc') ∧ w'.cell? ⟨ba, oa + k * 4, none⟩ = some (.bool false) ∧ w'.cell? ⟨ba, oa + k * 4 + 1, none⟩ = some (.int .i64 x) ∧ w'.cell? ⟨ba, oa + k * 4 + 2, none⟩ = some (.int .i64 y) ∧ w'.cell? ⟨ba, oa + k * 4 + 3, none⟩ = some (.slice qa qn qc) := ⟨Lat.cell_at hb3 hF.1, Lat.cell_at hb3 hF.2.1, Lat.cell_at hb3 hF.2.2.1, Lat.cell_at hb3 hF.2.2.2.1, Lat.cell_at hb3 hF.2.2.2.2.1, Lat.cell_at hb3 hF.2.2.2.2.2.1, Lat.cell_at hb3 hF.2.2.2.2.2.2⟩
            refine hK _ _ ⟨hF', fun _ => trivial⟩ ?_
            clear hK K hF
            refine gate_takeF (i := 11) (v := ?_) rfl (by kernel_rfl) (by kernel_rfl) (by kernel_rfl) (fun _ _ _ h => h) (by decide) ⟨hF', fun _ => trivial⟩ (Or.inl ⟨by rfl, ?_⟩) ?_
            rotate_left
            · intro wq hSw; obtain ⟨s0, s1, s2, s3, s4, s5, s6⟩ := hSw; go_simp; rfl
            simp only [Act.put]
            refine gate_takeF (i := 12) (v := ?_) rfl (by kernel_rfl) (by kernel_rfl) (by kernel_rfl) (fun _ _ _ h => h) (by decide) ⟨hF', fun _ => trivial⟩ (Or.inl ⟨by rfl, ?_⟩) ?_
            rotate_left
            · intro wq hSw; obtain ⟨s0, s1, s2, s3, s4, s5, s6⟩ := hSw; go_simp; rfl
            simp only [Act.put]
            refine gate_takeF (i := 13) (v := ?_) rfl (by kernel_rfl) (by kernel_rfl) (by kernel_rfl) (fun _ _ _ h => h) (by decide) ⟨hF', fun _ => trivial⟩ (Or.inl ⟨by rfl, ?_⟩) ?_
            rotate_left
            · intro wq hSw; obtain ⟨s0, s1, s2, s3, s4, s5, s6⟩ := hSw; go_simp; rfl
            simp only [Act.put]
            have hl3 : Lat W2 w' := Lat.trans (show Lat W2 W2.drew from Lat.drewN W2 1) hb3
            have hf3 := HF2.out.keep hl3
            have hp3 := HP3.out.keep hl3
            have ho := Only.three w' gp (.int .i64 T.d) (.int .i64 T.g) (.slice b m c)
            have hoff := OffV.fresh hfr (fun k hk => (HF2.out.own.lt k hk).2)
            have hf4 := hf3.only ho HB0.out (fun e => HGO.out gp e rfl) HGR.out
            have hat4 := hat.only ho (fun hn b' o' ha => hfr gp hgw b' o' ha hn)
            have hp4 := three_set (g := gp) hp3.c0 hp3.c1 hp3.c2 (.int .i64 T.d) (.int .i64 T.g) (.slice b m c)
            have z0 := hp3.c0
            have z1 := hp3.c1
            have z2 := hp3.c2
            have g0 := hl3.free_at hgw fz0
            have g1 := hl3.free_at hgw fz1
            have g2 := hl3.free_at hgw fz2
            have HF4 := Lib.hid hf4
            have HAT4 := Lib.hid hat4
            have HP4 := Lib.hid hp4
            have HOFF := Lib.hid hoff
            have hF3 : (three w' gp (.int .i64 T.d) (.int .i64 T.g) (.slice b m c)).cell? ⟨ob, oo + j * 3, none⟩ = some (.int .i64 L.d) ∧ (three w' gp (.int .i64 T.d) (.int .i64 T.g) (.slice b m c)).cell? ⟨ob, oo + j * 3 + 1, none⟩ = some (.int .i64 L.g) ∧ (three w' gp (.int .i64 T.d) (.int .i64 T.g) (.slice b m c)).cell? ⟨ob, oo + j * 3 + 2, none⟩ = some (.slice Pa Pn Pc') ∧ (three w' gp (.int .i64 T.d) (.int .i64 T.g) (.slice b m c)).cell? ⟨ba, oa + k * 4, none⟩ = some (.bool false) ∧ (three w' gp (.int .i64 T.d) (.int .i64 T.g) (.slice b m c)).cell? ⟨ba, oa + k * 4 + 1, none⟩ = some (.int .i64 x) ∧ (three w' gp (.int .i64 T.d) (.int .i64 T.g) (.slice b m c)).cell? ⟨ba, oa + k * 4 + 2, none⟩ = some (.int .i64 y) ∧ (three w' gp (.int .i64 T.d) (.int .i64 T.g) (.slice b m c)).cell? ⟨ba, oa + k * 4 + 3, none⟩ = some (.slice qa qn qc) := ⟨by rw [ho.cell HNO.out]; exact hF'.1, by rw [ho.cell HNO.out]; exact hF'.2.1, by rw [ho.cell HNO.out]; exact hF'.2.2.1, by rw [ho.cell HNB.out]; exact hF'.2.2.2.1, by rw [ho.cell HNB.out]; exact hF'.2.2.2.2.1, by rw [ho.cell HNB.out]; exact hF'.2.2.2.2.2.1, by rw [ho.cell HNB.out]; exact hF'.2.2.2.2.2.2⟩
            have HF3 := Lib.hid hF3
            unfold three at HF3
            clear hat hfr hb3 hl3 hf3 hp3 ho hoff hf4 hat4 hp4 p0 p1 p2 fz0 fz1 fz2 hF3
            refine gate_one (i := 14) (by kernel_rfl) rfl (fun K hK => ?_)
            go_simp
            refine hK _ _ ⟨HF3.out, fun _ => trivial⟩ ?_
            clear hK K
            refine gate_takeF (i := 15) (v := ?_) rfl (by kernel_rfl) (by kernel_rfl) (by kernel_rfl) (fun _ _ _ h => h) (by decide) ⟨HF3.out, fun _ => trivial⟩ (Or.inl ⟨by rfl, ?_⟩) ?_
            rotate_left
            · intro wq hSw; obtain ⟨s0, s1, s2, s3, s4, s5, s6⟩ := hSw; go_simp; rfl
            simp only [Act.put]
            refine gate_done (by kernel_rfl) ?_ _
            clear hF'
            go_simp
            go_wp2_with fail
            go_meet
            case rel => exact ⟨b, m, c, rfl, HF4.out, Lat.refl _, fun _ => ⟨⟨HP4.out.1, HP4.out.2.1, HP4.out.2.2⟩, HAT4.out, HOFF.out⟩⟩
        case rest =>
        obtain ⟨pa, pn, pc, rfl, hcut⟩ := hcut
        have HF5 := Lib.hid hcut.out.1
        have HCU := Lib.hid hcut.out.2.2
        clear hcut c0 c1 c2 c3
        generalize wc = w5 at *
        by_cases hX0 : X = 0
        case neg =>
          have e1 : E = X := by
            have hs := HSE.out
            rw [← HX.out] at hs
            have := dstE_stop wd hg s CT (k + 1) (by rw [hs]; exact hX0) n hlt
            rw [HE5.out, this, hs]
          have tx : ((X : Int) != 0) = true := by rw [bne_iff_ne]; omega
          have HE1 := Lib.hid e1
          have HX0 := Lib.hid hX0
          clear e1 hX0
          go_wp2_with fail
          go_ret2
          exact ⟨none, 0, [], by rw [HE1.out]; rfl, PdsAt.nil _, by rw [HR1.out (by rw [HE1.out]; exact HX0.out)]; rfl, HF5.out.lat⟩
        subst hX0
        obtain ⟨hp3, hat, hoff⟩ := HCU.out rfl
        have z0 := hp3.c0
        have z1 := hp3.c1
        have z2 := hp3.c2
        have HAT := Lib.hid hat
        have HOFF := Lib.hid hoff
        have hlen : ds.length = k := by have := congrArg List.length HDS.out; rw [List.length_map, dst_len] at this; exact this
        have HLEN := Lib.hid hlen
        clear hp3 hat hoff hlen
        go_wp2_with (at_builtin; refine appR w5 w.heap.size rfl _ _ 104 rfl 132 _ 3 40 Tryd.underlying104 info_Picture rfl (by decide) (by decide) _ _ _ (by rfl) HF5.out.own rfl (by rfl) (fun u hu => by simp at hu; rcases hu with rfl | rfl | rfl <;> rfl) (by rw [List.length_map, HLEN.out]; omega) HF5.out.lat.size ?_)
        intro v' w6 hown6 hb6 hstep6
        have hf6 := HF5.out.app (c := ⟨T, pa, pn, pc⟩) HAT.out HOFF.out hown6 hb6 hstep6
        have hds6 : (ds ++ [(⟨T, pa, pn, pc⟩ : Pd)]).map Pd.p = (dst wd hg s CT (k + 1)).1 := by
          rw [List.map_append, HDS.out, HSS.out, HT.out]; rfl
        have HF6 := Lib.hid hf6
        have HDS6 := Lib.hid hds6
        have HZ6 := Lib.hid (show dstE wd hg s CT (k + 1) = 0 by rw [HSE.out, ← HX.out])
        clear hown6 hb6 hstep6 hf6 hds6 z0 z1 z2
        go_wp2_with fail
        go_roundw
        case rel => exact ⟨k + 1, by omega, by go_num, _, HF6.out, HDS6.out, HZ6.out⟩
        case measure => simp [intOf]; omega
      · obtain rfl : n = k := by omega
        have hlen : ds.length = n := by have := congrArg List.length HDS.out; rw [List.length_map, dst_len] at this; exact this
        obtain ⟨va, vc, rfl, hat⟩ := PdsAt.of HF.out.own (fun c hc => (HF.out.rest c hc).1) hlen
        have HAT := Lib.hid hat
        have HLL := Lib.hid HF.out.lat
        have HEZ := Lib.hid (show E = 0 by rw [HE5.out, HDZ.out])
        have HLEN := Lib.hid hlen
        clear hat hlen
        go_wp2_with fail
        go_ret2
        exact ⟨va, vc, ds, by rw [HEZ.out, HLEN.out]; rfl, by rw [HLEN.out]; exact HAT.out, by rw [HDS.out, HR0.out HEZ.out], HLL.out⟩
end Go.Proofs.YtooepflfofgnnaaDoor
