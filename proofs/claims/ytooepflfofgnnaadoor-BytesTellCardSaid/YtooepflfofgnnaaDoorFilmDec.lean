/- The contract of film.Decode: one answer whatever is asked. -/
import Derived.Test.YtooepflfofgnnaaDoorFilmRow
import Derived.Test.YtooepflfofgnnaaDoorOwnRS
import Derived.Test.YtooepflfofgnnaaDoorErrv
import Derived.Test.YtooepflfofgnnaaDoorPic2
import Derived.Deep.DeepCutAuto
import Derived.Deep.CutBlock
import Derived.StillTailTactics
namespace Go.Proofs.YtooepflfofgnnaaDoor
open Go.ChangeShapes Go.WideShapes Go.ChangeAt Go.RowKit

set_option maxHeartbeats 8000000 in
set_option maxRecDepth 100000 in
theorem fdecode_any (wd hg s : Int) (a : Option Addr) (n cap : Nat) (cs : List Cd) (w : World) (h : CodsAt w a n cap cs) :
    Calls Tryd.prog 69 #[.int .i64 wd, .int .i64 hg, .int .i64 s, .slice a n cap] w fun e w' => ∃ va vc ds, e = .returned (.tuple #[.slice va ds.length vc, errv (fdE wd hg s (cs.map Cd.c))]) ∧ PdsAt w' va ds.length vc ds ∧
      ds.map Pd.p = fdL wd hg s (cs.map Cd.c) ∧ Lat w w' := by
  have hl := h.len
  obtain ⟨E, hE⟩ : ∃ E, E = fdE wd hg s (cs.map Cd.c) := ⟨_, rfl⟩
  obtain ⟨R, hR⟩ : ∃ E, E = fdL wd hg s (cs.map Cd.c) := ⟨_, rfl⟩
  obtain ⟨CT, hCT⟩ : ∃ E, E = cs.map Cd.c := ⟨_, rfl⟩
  have hE2 : E = if fchkE n ≠ 0 then fchkE n else if sideB wd = false ∨ sideB hg = false ∨ stepB s = false then 1 else if (CT.getD 0 default).al = false then 3 else dstE wd hg s CT n := by
    rw [hE, ← hCT]; unfold fdE; rw [hCT, List.length_map, hl]
  have hr1 : E ≠ 0 → R = [] := fun h => by rw [hR]; unfold fdL; rw [if_neg (by rw [← hE]; exact h)]
  have hr0 : E = 0 → R = (dst wd hg s CT n).1 := fun h => by rw [hR]; unfold fdL; rw [if_pos (by rw [← hE]; exact h), List.length_map, hl, hCT]
  rw [← hE, ← hR]
  have hcg : ∀ j, j < n → CT.getD j default = (cs.getD j default).c := fun j hj => by rw [hCT]; exact cts_getD (by rw [hl]; exact hj)
  have HR1 := Lib.hid hr1
  have HR0 := Lib.hid hr0
  have HE2 := Lib.hid hE2
  have HCG := Lib.hid hcg
  have H := Lib.hid h
  obtain ⟨C, hC⟩ : ∃ C, C = fchkE n := ⟨_, rfl⟩
  have hck := fun W => fcheck_any n W
  rw [← hC] at hck
  have HCK := Lib.hid hck
  have HC := Lib.hid hC
  clear hR hr1 hr0 hE hE2 hl h hck hC hcg hCT
  by_cases hC0 : C = 0
  case neg =>
    have e1 : E = C := by rw [HE2.out, if_pos (by rw [← HC.out]; exact hC0), HC.out]
    have hE0 : E ≠ 0 := by omega
    have hr := HR1.out hE0
    rw [hr, e1, errv_pos hC0]
    have HCK2 : Hid (∀ W, Calls Tryd.prog 90 #[.int .i64 n] W fun e w' => e = .returned (eno C) ∧ W = w') := fun W => by have := HCK.out W; rw [errv_pos hC0] at this; exact this
    clear e1 hE0 hC0 HCK hr
    go_enter Tryd.func69, Tryd.ntmps69
    go_wp2_with (go_at_call 90; refine (HCK2.out _).mono ?_; rintro e w' ⟨rfl, rfl⟩)
    go_ret2
    exact ⟨none, 0, [], rfl, PdsAt.nil _, rfl, Lat.refl _⟩
  subst hC0
  have hn : 1 ≤ n ∧ n ≤ 6 := by
    have := HC.out
    unfold fchkE at this
    split at this
    · omega
    split at this
    · omega
    omega
  obtain ⟨hn1, hn6⟩ := hn
  have HCK2 : Hid (∀ W, Calls Tryd.prog 90 #[.int .i64 n] W fun e w' => e = .returned .nilIface ∧ W = w') := fun W => by have := HCK.out W; rw [errv_zero rfl] at this; exact this
  have hE3 : E = if sideB wd = false ∨ sideB hg = false ∨ stepB s = false then 1 else if (CT.getD 0 default).al = false then 3 else dstE wd hg s CT n := by rw [HE2.out, if_neg (by rw [← HC.out]; simp)]
  obtain ⟨S1, hS1⟩ : ∃ b, b = sideB wd := ⟨_, rfl⟩
  obtain ⟨S2, hS2⟩ : ∃ b, b = sideB hg := ⟨_, rfl⟩
  obtain ⟨S3, hS3⟩ : ∃ b, b = stepB s := ⟨_, rfl⟩
  have k1 := fun W => side_any wd W
  have k2 := fun W => side_any hg W
  have k3 := fun W => step_any s W
  rw [← hS1, ← hS2, ← hS3] at hE3
  rw [← hS1] at k1
  rw [← hS2] at k2
  rw [← hS3] at k3
  have K1 := Lib.hid k1
  have K2 := Lib.hid k2
  have K3 := Lib.hid k3
  have HE3 := Lib.hid hE3
  have hd : (S1 = false ∨ (S1 = true ∧ S2 = false) ∨ (S1 = true ∧ S2 = true ∧ S3 = false)) ∨ (S1 = true ∧ S2 = true ∧ S3 = true) := by
    cases S1 <;> cases S2 <;> cases S3 <;> simp
  clear hS1 hS2 hS3 k1 k2 k3 hE3 HE2 HC HCK
  rcases hd with hd | ⟨rfl, rfl, rfl⟩
  · have e1 : E = 1 := by rw [HE3.out]; rcases hd with rfl | ⟨rfl, rfl⟩ | ⟨rfl, rfl, rfl⟩ <;> simp
    have hr := HR1.out (by omega)
    rw [hr, e1, show errv 1 = eno 1 from errv_pos (by omega)]
    clear e1 hr HE3
    rcases hd with rfl | ⟨rfl, rfl⟩ | ⟨rfl, rfl, rfl⟩
    all_goals
      go_enter Tryd.func69, Tryd.ntmps69
      go_wp2_with (first | (go_at_call 90; refine (HCK2.out _).mono ?_; rintro e w' ⟨rfl, rfl⟩) | (go_at_call 91; first | (refine (K1.out _).mono ?_; rintro e w' ⟨rfl, rfl⟩) | (refine (K2.out _).mono ?_; rintro e w' ⟨rfl, rfl⟩)) | (go_at_call 92; refine (K3.out _).mono ?_; rintro e w' ⟨rfl, rfl⟩))
      go_ret2
      exact ⟨none, 0, [], rfl, PdsAt.nil _, rfl, Lat.refl _⟩
  obtain ⟨ba, oa, rfl, hba, hcs⟩ := cods_at H.out (by omega)
  have hE4 : E = if (CT.getD 0 default).al = false then 3 else dstE wd hg s CT n := by rw [HE3.out, if_neg (by simp)]
  obtain ⟨z0, _⟩ := hcs 0 (by omega)
  rw [Nat.zero_mul, Nat.add_zero] at z0
  rw [HCG.out 0 (by omega)] at hE4
  obtain ⟨AL, hAL⟩ : ∃ b, b = (cs.getD 0 default).c.al := ⟨_, rfl⟩
  rw [← hAL] at hE4 z0
  have HE4 := Lib.hid hE4
  have HCS := Lib.hid hcs
  have dp : (0 : Int) < (n : Int) := by omega
  have dp2 : 0 < n := by omega
  clear hcs hE4 hAL HE3 hba
  go_enter Tryd.func69, Tryd.ntmps69
  cases AL with
  | false =>
    have HE5 := Lib.hid (show E = 3 by rw [HE4.out]; rfl)
    go_wp2_with (first | (go_at_call 90; refine (HCK2.out _).mono ?_; rintro e w' ⟨rfl, rfl⟩) | (go_at_call 91; first | (refine (K1.out _).mono ?_; rintro e w' ⟨rfl, rfl⟩) | (refine (K2.out _).mono ?_; rintro e w' ⟨rfl, rfl⟩)) | (go_at_call 92; refine (K3.out _).mono ?_; rintro e w' ⟨rfl, rfl⟩))
    go_ret2
    exact ⟨none, 0, [], by rw [HE5.out, errv_pos (by omega)]; rfl, PdsAt.nil _, by rw [HR1.out (by rw [HE5.out]; omega)]; rfl, Lat.refl _⟩
  | true =>
    have HE5 := Lib.hid (show E = dstE wd hg s CT n by rw [HE4.out]; rfl)
    clear HE4
    obtain ⟨W1, hW1⟩ : ∃ W, W = w.alloc (.cells #[.int .i64 0, .int .i64 0, .slice none 0 0] 132) := ⟨_, rfl⟩
    obtain ⟨g, hg'⟩ : ∃ g, g = w.heap.size := ⟨_, rfl⟩
    have hglt : g < W1.heap.size := by rw [hg', hW1]; simp
    have hw1 : Lat w W1 := by rw [hW1]; exact Lat.alloc _ _
    have hinv : DvI g W1 W1 (.slice none 0 0) default none 0 0 [] :=
      ⟨OwnR.nil _ _ _ _, But.refl _ _, by rw [hW1]; exact cells3_new hg' rfl rfl rfl, fun k _ => by rw [hW1, hg']; simp, IntsAt.nil _, Off.none _ _ _, by simp, hglt⟩
    have HINV := Lib.hid hinv
    have HW1 := Lib.hid hw1
    have HG := Lib.hid (show w.heap.size ≤ g by rw [hg']; exact Nat.le_refl _)
    clear hglt hw1 hinv
    go_wp2_with (first | (go_at_call 90; refine (HCK2.out _).mono ?_; rintro e w' ⟨rfl, rfl⟩) | (go_at_call 91; first | (refine (K1.out _).mono ?_; rintro e w' ⟨rfl, rfl⟩) | (refine (K2.out _).mono ?_; rintro e w' ⟨rfl, rfl⟩)) | (go_at_call 92; refine (K3.out _).mono ?_; rintro e w' ⟨rfl, rfl⟩))
    rw [← hW1, ← hg']
    clear hW1 hg' z0
    go_loopw [11, 47] (fun v i wx => ∃ k : Nat, k ≤ n ∧ i = .int .i64 k ∧ Hid (∃ la ln lc ds, DvI g W1 wx v (dst wd hg s CT k).2 la ln lc ds ∧ ds.map Pd.p = (dst wd hg s CT k).1 ∧ dstE wd hg s CT k = 0)) (fun _ i _ => n - (intOf i).toNat)
    case atStart => exact ⟨0, Nat.zero_le _, rfl, none, 0, 0, [], HINV.out, rfl, rfl⟩
    case round =>
      obtain ⟨k, hk, rfl, hrel⟩ := hrel
      obtain ⟨la, ln, lc, ds, hf, hds, hdz⟩ := hrel.out
      have HF := Lib.hid hf
      have HDS := Lib.hid hds
      have HDZ := Lib.hid hdz
      clear hrel hf hds hdz
      by_cases hlt : k < n
      · have hlatw : Lat w wr := HF.out.but.lat HW1.out HG.out
        obtain ⟨b0, b1, b2, b3, hint⟩ := HCS.out k hlt
        have hcg := HCG.out k hlt
        have hss := dst_succ wd hg s CT k
        have hse : dstE wd hg s CT (k + 1) = tlE wd hg s (dst wd hg s CT k).2 (CT.getD k default) := by rw [dstE, if_neg (by rw [HDZ.out]; simp)]
        rw [hcg] at hss hse
        obtain ⟨q, hq⟩ : ∃ q, q = cs.getD k default := ⟨_, rfl⟩
        obtain ⟨L, hL⟩ : ∃ L, L = (dst wd hg s CT k).2 := ⟨_, rfl⟩
        rw [← hq] at b0 b1 b2 b3 hint hss hse
        rw [← hL] at hss hse HF
        obtain ⟨⟨al, x, y, rs⟩, qa, qn, qc⟩ := q
        have c0 := hlatw.cell_at b0
        have c1 := hlatw.cell_at b1
        have c2 := hlatw.cell_at b2
        have c3 := hlatw.cell_at b3
        have hl1 := Lat.alloc wr (.cells #[.bool al, .int .i64 x, .int .i64 y, .slice qa qn qc] 110)
        have hf1 := HF.out.lat hl1
        have hi1 := (hint.keep hlatw).keep hl1
        have hcall := told_any L.d L.g la ln lc L.zs wd hg s al x y qa qn qc rs _ hf1.lint hi1
        have l0 := hf1.last.c0
        have l1 := hf1.last.c1
        have l2 := hf1.last.c2
        have hse2 : dstE wd hg s CT (k + 1) = tldE L.d L.g L.zs wd hg s al x y rs := hse
        obtain ⟨X, hX⟩ : ∃ X, X = tldE L.d L.g L.zs wd hg s al x y rs := ⟨_, rfl⟩
        obtain ⟨T, hT⟩ : ∃ T, T = tlS wd hg s L ⟨al, x, y, rs⟩ := ⟨_, rfl⟩
        have e1 : tldD L.d L.g L.zs wd hg s al x y rs = T.d := by rw [hT]; rfl
        have e2 : tldG L.d L.g L.zs wd hg s al x y rs = T.g := by rw [hT]; rfl
        have e3 : tldR L.d L.g L.zs wd hg s al x y rs = T.zs := by rw [hT]; rfl
        rw [← hX] at hse2 hcall
        rw [e1, e2, e3] at hcall
        have hss2 : dst wd hg s CT (k + 1) = ((dst wd hg s CT k).1 ++ [T], T) := by rw [hT]; exact hss
        have HSS := Lib.hid hss2
        have HSE := Lib.hid hse2
        have HCL := Lib.hid hcall
        have HF1 := Lib.hid hf1
        have HLW := Lib.hid hlatw
        clear b0 b1 b2 b3 hint hcg hss hse hss2 hse2 hq hL hl1 hi1 hcall hf1 hX hT e1 e2 e3 hlatw
        go_wp2_with fail
        refine HCL.out.mono ?_
        rintro e w4 ⟨b, m, c, rfl, hat, hfr, hb4⟩
        by_cases hX0 : X = 0
        case neg =>
          have e1 : E = X := by
            have hs := HSE.out
            have := dstE_stop wd hg s CT (k + 1) (by rw [hs]; exact hX0) n hlt
            rw [HE5.out, this, hs]
          have HE1 := Lib.hid e1
          have HX0 := Lib.hid hX0
          have HLL := Lib.hid (Lat.trans (Lat.trans HLW.out (Lat.alloc wr (.cells #[.bool al, .int .i64 x, .int .i64 y, .slice qa qn qc] 110))) hb4)
          rw [errv_pos hX0]
          clear e1 hX0 hat hfr hb4 l0 l1 l2 c0 c1 c2 c3
          go_wp2_with fail
          go_ret2
          exact ⟨none, 0, [], by rw [HE1.out, errv_pos HX0.out]; rfl, PdsAt.nil _, by rw [HR1.out (by rw [HE1.out]; exact HX0.out)]; rfl, Lat.trans HLL.out (Lat.alloc _ _)⟩
        subst hX0
        rw [errv_zero rfl]
        have hf4 := HF1.out.lat hb4
        have hoffL := Off.fresh hfr HF1.out.sz (fun k hk => (HF1.out.own.lt k hk).2)
        have hl5 := Lat.alloc w4 (.cells #[.int .i64 T.d, .int .i64 T.g, .slice b m c] 132)
        have hf5 := hf4.lat hl5
        have hat5 := hat.keep hl5
        have hp5 := cells3_new (w := w4) (cs := #[.int .i64 T.d, .int .i64 T.g, .slice b m c]) (t := 132) (g := w4.heap.size) (o := 0) rfl rfl rfl rfl
        obtain ⟨W5, hW5⟩ : ∃ W, W = w4.alloc (.cells #[.int .i64 T.d, .int .i64 T.g, .slice b m c] 132) := ⟨_, rfl⟩
        have hsz5 : w4.heap.size < W5.heap.size := by rw [hW5]; simp
        rw [← hW5] at hf5 hat5 hp5
        have HF5 := Lib.hid hf5
        have HAT5 := Lib.hid hat5
        have HOFF := Lib.hid hoffL
        have HP5 := Lib.hid hp5
        have HG5 := Lib.hid (show g < w4.heap.size from hf4.sz)
        have HOWN4 := Lib.hid (fun k hk => (hf4.own.lt k hk).2)
        obtain ⟨h5, hh5⟩ : ∃ h, h = w4.heap.size := ⟨_, rfl⟩
        rw [← hh5] at HP5 HG5 HOWN4 hsz5
        clear hat hfr hb4 hf4 hoffL hl5 hf5 hat5 hp5 l0 l1 l2 c0 c1 c2 c3
        go_upto_region 16 with fail
        rw [← hW5, ← hh5]
        clear hW5 hh5
        have hf6 : DvI g W1 W5.drew _ L la ln lc ds := HF5.out.lat (show Lat W5 W5.drew from Lat.drewN W5 1)
        have hat6 : IntsAt W5.drew b m c T.zs := HAT5.out.keep (show Lat W5 W5.drew from Lat.drewN W5 1)
        have hsz6 : h5 < W5.drew.heap.size := hsz5
        have hF : W5.drew.cell? ⟨h5, 0, none⟩ = some (.int .i64 T.d) ∧ W5.drew.cell? ⟨h5, 1, none⟩ = some (.int .i64 T.g) ∧ W5.drew.cell? ⟨h5, 2, none⟩ = some (.slice b m c) := ⟨HP5.out.c0, HP5.out.c1, HP5.out.c2⟩
        refine wp_region_gate (fun w' => w'.cell? ⟨h5, 0, none⟩ = some (.int .i64 T.d) ∧ w'.cell? ⟨h5, 1, none⟩ = some (.int .i64 T.g) ∧ w'.cell? ⟨h5, 2, none⟩ = some (.slice b m c)) (fun _ => True) 6 (by kernel_rfl) ?_
        generalize W5.drew = W6 at *
        refine gate_takeF (i := 0) (v := ?_) rfl (by kernel_rfl) (by kernel_rfl) (by kernel_rfl) (fun _ _ _ h => h) (by decide) ⟨hF, fun _ => trivial⟩ (Or.inl ⟨by rfl, ?_⟩) ?_
        rotate_left
        · intro wq hSw; obtain ⟨s0, s1, s2⟩ := hSw; go_simp; rfl
        simp only [Act.put]
        refine gate_takeF (i := 1) (v := ?_) rfl (by kernel_rfl) (by kernel_rfl) (by kernel_rfl) (fun _ _ _ h => h) (by decide) ⟨hF, fun _ => trivial⟩ (Or.inl ⟨by rfl, ?_⟩) ?_
        rotate_left
        · intro wq hSw; obtain ⟨s0, s1, s2⟩ := hSw; go_simp; rfl
        simp only [Act.put]
        refine gate_takeF (i := 4) (v := ?_) rfl (by kernel_rfl) (by kernel_rfl) (by kernel_rfl) (fun _ _ _ h => h) (by decide) ⟨hF, fun _ => trivial⟩ (Or.inl ⟨by rfl, ?_⟩) ?_
        rotate_left
        · intro wq hSw; obtain ⟨s0, s1, s2⟩ := hSw; go_simp; rfl
        simp only [Act.put]
        refine gate_one (i := 2) (by kernel_rfl) rfl (fun K hK => ?_)
        go_simp
        refine hK _ _ ⟨⟨(Lat.alloc _ _).cell_at hF.1, (Lat.alloc _ _).cell_at hF.2.1, (Lat.alloc _ _).cell_at hF.2.2⟩, fun _ => trivial⟩ ?_
        clear hK K
        refine gate_one (i := 3) (by kernel_rfl) rfl (fun K hK => ?_)
        have hlen : ds.length = k := by have := congrArg List.length HDS.out; rw [List.length_map, dst_len] at this; exact this
        refine appR_step W6 W1.heap.size rfl (.tmp 63) (.tmp 65) 104 rfl 132 _ 3 40 Tryd.underlying104 info_Picture rfl (by decide) (by decide) _ _ _ rfl hf6.own rfl rfl (fun u hu => by simp at hu; rcases hu with rfl | rfl | rfl <;> rfl) (by rw [List.length_map, hlen]; omega) hf6.but.size ?_
        intro g' cap' w7 hown7 hb7 hs7
        have hf7 := hf6.app (c := ⟨T, b, m, c⟩) hat6 HOFF.out hown7 hb7 hs7
        have hat7 := hat6.step hs7 HOFF.out
        have hne5 : ∀ i x, W6.cell? ⟨h5, i, none⟩ = some x → w7.cell? ⟨h5, i, none⟩ = some x := fun i x hx => by
          rw [World.cell?_of_block (w := W6) (a := ⟨h5, i, none⟩) (hs7.block h5 hsz6 (fun e => by have := HOWN4.out h5 e.symm; omega))]; exact hx
        have hF7 : w7.cell? ⟨h5, 0, none⟩ = some (.int .i64 T.d) ∧ w7.cell? ⟨h5, 1, none⟩ = some (.int .i64 T.g) ∧ w7.cell? ⟨h5, 2, none⟩ = some (.slice b m c) := ⟨hne5 _ _ hF.1, hne5 _ _ hF.2.1, hne5 _ _ hF.2.2⟩
        have hf8 := hf7.store (L2 := T) hat7.1 hat7.2
        have hne : h5 ≠ g := fun e => by have := HG5.out; omega
        have ho := Only.three w7 g (.int .i64 T.d) (.int .i64 T.g) (.slice b m c)
        have hF8 : (three w7 g (.int .i64 T.d) (.int .i64 T.g) (.slice b m c)).cell? ⟨h5, 0, none⟩ = some (.int .i64 T.d) ∧ (three w7 g (.int .i64 T.d) (.int .i64 T.g) (.slice b m c)).cell? ⟨h5, 1, none⟩ = some (.int .i64 T.g) ∧ (three w7 g (.int .i64 T.d) (.int .i64 T.g) (.slice b m c)).cell? ⟨h5, 2, none⟩ = some (.slice b m c) :=
          ⟨by rw [ho.cell hne]; exact hF7.1, by rw [ho.cell hne]; exact hF7.2.1, by rw [ho.cell hne]; exact hF7.2.2⟩
        have l0 := hf7.last.c0
        have l1 := hf7.last.c1
        have l2 := hf7.last.c2
        have fz0 := hf7.frz 0 (by omega)
        have fz1 := hf7.frz 1 (by omega)
        have fz2 := hf7.frz 2 (by omega)
        have HF8 := Lib.hid hf8
        have HFF8 := Lib.hid hF8
        refine hK _ _ ⟨hF7, fun _ => trivial⟩ ?_
        clear hK K hf7 hat7 hf8 hF8 hown7 hb7 hs7 hne5 hF
        refine gate_takeF (i := 5) (v := ?_) rfl (by kernel_rfl) (by kernel_rfl) (by kernel_rfl) (fun _ _ _ h => h) (by decide) ⟨hF7, fun _ => trivial⟩ (Or.inl ⟨by rfl, ?_⟩) ?_
        rotate_left
        · intro wq hSw; go_simp; rfl
        simp only [Act.put]
        refine gate_one (i := 6) (by kernel_rfl) rfl (fun K hK => ?_)
        go_simp
        refine hK _ _ (FG.past (by kernel_rfl) HFF8.out) ?_
        clear hK K hF7 l0 l1 l2 fz0 fz1 fz2 hf6 hat6
        refine gate_done (by kernel_rfl) ?_ _
        have hds8 : (ds ++ [(⟨T, b, m, c⟩ : Pd)]).map Pd.p = (dst wd hg s CT (k + 1)).1 := by rw [List.map_append, HDS.out, HSS.out]; rfl
        have hT8 : (dst wd hg s CT (k + 1)).2 = T := by rw [HSS.out]
        have HDS8 := Lib.hid hds8
        have HT8 := Lib.hid hT8
        clear hds8 hT8
        go_wp2
        go_roundw
        case rel => exact ⟨k + 1, by omega, by go_num, b, m, c, _, by have h9 := HF8.out; rw [List.length_map, hlen] at h9; rw [HT8.out]; exact h9, HDS8.out, HSE.out⟩
        case measure => simp [intOf]; omega
      · obtain rfl : n = k := by omega
        have e0 : E = 0 := by rw [HE5.out, HDZ.out]
        have hrr := HR0.out e0
        obtain ⟨va, vc, hv, hat⟩ := PdsAt.of HF.out.own (fun c hc => (HF.out.rest c hc).1) rfl
        have HV := Lib.hid hv
        have HAT := Lib.hid hat
        have HLL := Lib.hid (HF.out.but.lat HW1.out HG.out)
        have HE0 := Lib.hid e0
        have HRR := Lib.hid hrr
        clear hv hat hrr e0
        go_wp2_with fail
        go_ret2
        exact ⟨va, vc, ds, by rw [HE0.out, errv_zero rfl, ← HV.out]; rfl, HAT.out, by rw [HDS.out, HRR.out], HLL.out⟩
end Go.Proofs.YtooepflfofgnnaaDoor
