/- The walk of FilmNear: it returns true, whatever the pictures and the numbers. -/
import Derived.Test.YtnnjijdpenifjaaFilmEnc
import Derived.Test.YtnnjijdpenifjaaFilmDec
import Derived.Test.YtnnjijdpenifjaaFilmTold
import Derived.Test.YtnnjijdpenifjaaSamePds
import Derived.Test.YtnnjijdpenifjaaFlat
import Derived.Test.YtnnjijdpenifjaaGate
namespace Go.Proofs.Ytnnjijdpenifjaa
open Go.ChangeShapes Go.WideShapes Go.ChangeAt Go.RowKit

theorem pics_two (w : World) (p : Pc) (h : PicAt w p.wd p.hg p.a p.n p.cap p.zs) :
    PicsAt (w.alloc (.cells #[.int .i64 p.wd, .int .i64 p.hg, .slice p.a p.n p.cap, .int .i64 p.wd, .int .i64 p.hg, .slice p.a p.n p.cap] 24)) (some ⟨w.heap.size, 0, none⟩) 2 2 [p, p] := by
  refine ⟨rfl, Nat.le_refl _, by decide, fun _ => ⟨w.heap.size, 0, rfl, fun j q hj => ?_⟩, fun q hq => ?_⟩
  · match j, hj with
    | 0, hj => simp at hj; subst hj; exact cells3_new rfl rfl rfl rfl
    | 1, hj => simp at hj; subst hj; exact cells3_new rfl rfl rfl rfl
  · simp at hq; subst hq; exact h.keep (Lat.alloc _ _)
theorem CodsAt.take {w : World} {a : Option Addr} {n cap : Nat} {cs : List Cd} (h : CodsAt w a n cap cs) {m : Nat} (hm : m ≤ n) : CodsAt w a m cap (cs.take m) :=
by
  refine ⟨by rw [List.length_take, h.len]; omega, Nat.le_trans hm h.le, h.cap, fun hn => ?_, fun c hc => h.rest c (List.mem_of_mem_take hc)⟩
  obtain ⟨b, o, ha, hc⟩ := h.at_ (by omega)
  refine ⟨b, o, ha, fun j c hj => hc j c ?_⟩
  rw [List.getElem?_take] at hj
  split at hj
  · exact hj
  · cases hj
theorem PdsAt.take {w : World} {a : Option Addr} {n cap : Nat} {cs : List Pd} (h : PdsAt w a n cap cs) {m : Nat} (hm : m ≤ n) : PdsAt w a m cap (cs.take m) :=
by
  refine ⟨by rw [List.length_take, h.len]; omega, Nat.le_trans hm h.le, h.cap, fun hn => ?_, fun c hc => h.rest c (List.mem_of_mem_take hc)⟩
  obtain ⟨b, o, ha, hc⟩ := h.at_ (by omega)
  refine ⟨b, o, ha, fun j c hj => hc j c ?_⟩
  rw [List.getElem?_take] at hj
  split at hj
  · exact hj
  · cases hj
theorem fact_E : fenE [⟨1, 1, [9]⟩, ⟨1, 1, [9]⟩] 2 1 = 0 := by decide
theorem fact_al : (fenL [⟨1, 1, [9]⟩, ⟨1, 1, [9]⟩] 2 1).map Ct.al = [true, false] := by decide
theorem fact_rs : ((fenL [⟨1, 1, [9]⟩, ⟨1, 1, [9]⟩] 2 1).getD 0 default).rs = [-119] := by decide

/-- What stands behind the first facts: the example's film. -/
theorem fact_film (w : World) (b : Option Addr) (cp : Nat) (h : IntsAt w b 1 cp [9]) :
    Calls Try.prog 22 #[.slice (some ⟨w.heap.size, 0, none⟩) 2 2, .int .i64 2, .int .i64 1] (w.alloc (.cells #[.int .i64 1, .int .i64 1, .slice b 1 cp, .int .i64 1, .int .i64 1, .slice b 1 cp] 24)) fun e w' =>
      ∃ vb vo vc rb ro rc, e = .returned (.tuple #[.slice (some ⟨vb, vo, none⟩) 2 vc, .nilIface]) ∧ w'.cell? ⟨vb, vo, none⟩ = some (.bool true) ∧ w'.cell? ⟨vb, vo + 4, none⟩ = some (.bool false) ∧ w'.cell? ⟨vb, vo + 3, none⟩ = some (.slice (some ⟨rb, ro, none⟩) 1 rc) ∧ w'.cell? ⟨rb, ro, none⟩ = some (.int .i64 (-119)) ∧ Lat w w' := by
  have hp := pics_two w ⟨1, 1, b, 1, cp, [9]⟩ ⟨⟨show (-9223372036854775808 : Int) ≤ 1 by decide, show (1 : Int) ≤ 9223372036854775807 by decide⟩, ⟨show (-9223372036854775808 : Int) ≤ 1 by decide, show (1 : Int) ≤ 9223372036854775807 by decide⟩, h⟩
  refine (fencode_any _ 2 2 [⟨1, 1, b, 1, cp, [9]⟩, ⟨1, 1, b, 1, cp, [9]⟩] 2 1 _ hp).mono ?_
  rintro e w' ⟨va, vc, cs, rfl, hat, hcs, hb⟩
  have e0 : fenE ([(⟨1, 1, b, 1, cp, [9]⟩ : Pc), ⟨1, 1, b, 1, cp, [9]⟩].map Pc.pt) 2 1 = 0 := fact_E
  change cs.map Cd.c = fenL [⟨1, 1, [9]⟩, ⟨1, 1, [9]⟩] 2 1 at hcs
  have hal := fact_al
  rw [← hcs] at hal
  have hrs := fact_rs
  rw [← hcs] at hrs
  have hlen : cs.length = 2 := by have := congrArg List.length hal; simpa using this
  match cs, hlen with
  | [c0, c1], _ =>
    obtain ⟨bb, oo, rfl, _, hcc⟩ := cods_at hat (by simp)
    obtain ⟨q0, _, _, q3, q4⟩ := hcc 0 (by simp)
    obtain ⟨q5, _⟩ := hcc 1 (by simp)
    simp at hal
    have hrs' : c0.c.rs = [-119] := hrs
    change w'.cell? ⟨bb, oo + 0 * 4, none⟩ = some (.bool c0.c.al) at q0
    change w'.cell? ⟨bb, oo + 0 * 4 + 3, none⟩ = some (.slice c0.a c0.n c0.cap) at q3
    change IntsAt w' c0.a c0.n c0.cap c0.c.rs at q4
    change w'.cell? ⟨bb, oo + 1 * 4, none⟩ = some (.bool c1.c.al) at q5
    rw [Nat.zero_mul, Nat.add_zero] at q0 q3
    rw [hal.1] at q0
    rw [hal.2] at q5
    rw [hrs'] at q4
    have hn : c0.n = 1 := q4.len.symm
    rw [hn] at q3 q4
    obtain ⟨rb, ro, hra, hrr⟩ := q4.row.at_ (by decide)
    rw [hra] at q3
    exact ⟨bb, oo, vc, rb, ro, c0.cap, by rw [e0, errv_zero rfl]; rfl, q0, by simpa using q5, q3, hrr 0 (by decide), Lat.trans (Lat.alloc _ _) hb⟩

set_option maxHeartbeats 8000000 in
set_option maxRecDepth 100000 in
theorem walk_filmNear (a0 : Option Addr) (n0 c0 : Nat) (ps : List Pc) (ev s cut : Int) (w : World) (h0 : PicsAt w a0 n0 c0 ps) (_ : (Lit.int .i64 ev).wf = true) (_ : (Lit.int .i64 s).wf = true) (_ : (Lit.int .i64 cut).wf = true) :
    Calls Try.prog 9 #[.slice a0 n0 c0, .int .i64 ev, .int .i64 s, .int .i64 cut] w fun e w' => e = .returned (.bool true) ∧ Lat w w' := by
  have H0 := Lib.hid h0
  have hl := h0.len
  have HLN := Lib.hid hl
  clear h0 hl
  go_enter Try.func9, Try.ntmps9
  go_wp2_with fail
  refine (flat_okF 1 1 9 1 _ (by decide) (by decide)).mono ?_
  rintro e w1 ⟨b, cp, rfl, hat, _, hb1⟩
  have hat9 : IntsAt w1 b 1 cp [9] := hat
  obtain ⟨W1, hW1⟩ : ∃ W, W = w1.alloc (.cells #[.int .i64 1, .int .i64 1, .slice b 1 cp] 24) := ⟨_, rfl⟩
  have hc1 : Cells3 W1 w1.heap.size 0 (.int .i64 1) (.int .i64 1) (.slice b 1 cp) := by rw [hW1]; exact cells3_new rfl rfl rfl rfl
  have hl1 : Lat w W1 := by rw [hW1]; exact Lat.trans hb1 (Lat.alloc _ _)
  have hfact := fact_film W1 b cp (by rw [hW1]; exact hat9.keep (Lat.alloc _ _))
  have p0 := hc1.c0
  have p1 := hc1.c1
  have p2 := hc1.c2
  have HL1 := Lib.hid hl1
  have HFACT := Lib.hid hfact
  clear hat hat9 hb1 hc1 hl1 hfact
  go_upto_region 2 with fail
  rw [← hW1]
  clear hW1
  go_wp2_with fail
  refine HFACT.out.mono ?_
  rintro e w2 ⟨vb, vo, vc, rb, ro, rc, rfl, q0, q1, q2, q3, hb2⟩
  have HB2 := Lib.hid (Lat.trans HL1.out hb2)
  clear hb2 p0 p1 p2
  go_wp2_with fail
  have hcall := fencode_any a0 n0 c0 ps ev s w2 (H0.out.keep HB2.out)
  obtain ⟨E, hE⟩ : ∃ E, E = fenE (ps.map Pc.pt) ev s := ⟨_, rfl⟩
  rw [← hE] at hcall
  have HE := Lib.hid hE
  clear hE
  refine hcall.mono ?_
  clear hcall
  rintro e w3 ⟨xa, xc, cs, rfl, hcs, hct, hb3⟩
  have HB3 := Lib.hid (Lat.trans HB2.out hb3)
  clear hb3 q0 q1 q2 q3
  by_cases hE0 : E = 0
  case neg =>
    rw [errv_pos hE0]
    clear hE0 hcs hct
    go_wp2_with fail
    go_ret
    exact ⟨rfl, HB3.out⟩
  subst hE0
  have hfok := fenE_ok HE.out.symm
  obtain ⟨PT, hPT⟩ : ∃ P, P = ps.map Pc.pt := ⟨_, rfl⟩
  have hPl : PT.length = n0 := by rw [hPT, List.length_map]; exact HLN.out
  have hct2 : cs.map Cd.c = (sht PT ev s n0).1 := by rw [hct]; unfold fenL; rw [if_pos HE.out.symm, ← hPT, hPl]
  have hlen : cs.length = n0 := by have := congrArg List.length hct2; rw [List.length_map, sht_len] at this; exact this
  rw [← hPT] at hfok
  have hn1 : 1 ≤ n0 := by have := hfok.n1; omega
  have hn6 : n0 ≤ 6 := by have := hfok.n6; omega
  have e1 := hfok.e1
  have e6 := hfok.e6
  have s1 := hfok.s1
  have s64 := hfok.s64
  rw [hlen] at hcs ⊢
  rw [errv_zero rfl]
  obtain ⟨P0, hP0⟩ : ∃ p, p = ps.getD 0 default := ⟨_, rfl⟩
  have hg0 : PT.getD 0 default = P0.pt := by rw [hPT, hP0]; exact pts_getD (by have := HLN.out; omega)
  have hdec : ∀ m, 1 ≤ m → m ≤ n0 → fdE P0.wd P0.hg s ((cs.take m).map Cd.c) = 0 ∧ fdL P0.wd P0.hg s ((cs.take m).map Cd.c) = tds PT ev s m := fun m h1 h2 => by
    have h := fd_told hfok h1 (by rw [hPl]; exact h2)
    rw [hPl, hg0] at h
    rw [List.map_take, hct2]
    exact h
  have hcg : ∀ k, k < n0 → (cs.getD k default).c.al = decide ((k : Int) % ev = 0) := fun k hk => by
    rw [← cts_getD (by rw [hlen]; exact hk), hct2, sht_get _ _ _ n0 k hk]
    unfold cdS
    split
    · rename_i hm; rw [decide_eq_true hm]
    · rename_i hm; rw [decide_eq_false hm]
  have hpg : ∀ k, k < n0 → PT.getD k default = (ps.getD k default).pt := fun k hk => by rw [hPT]; exact pts_getD (by have := HLN.out; omega)
  have htd : ∀ k, k < n0 → ToldOk PT ev s k := fun k hk => ftold_ok hfok (by omega)
  have hpk : ∀ k, k < n0 → PicOk P0.wd P0.hg (ps.getD k default).zs ∧ (ps.getD k default).wd = P0.wd ∧ (ps.getD k default).hg = P0.hg := fun k hk => by
    have h := hfok.pic k (by omega)
    rw [hpg k hk, hg0] at h
    exact h
  obtain ⟨lb, lo, rfl, _, hpc⟩ := pcs_at (H0.out.keep HB3.out) (by omega)
  have z0 := (hpc 0 (by omega)).1
  rw [Nat.zero_mul, Nat.add_zero, ← hP0] at z0
  have x0 := z0.c0
  have x1 := z0.c1
  have HDEC := Lib.hid hdec
  have HCG := Lib.hid hcg
  have HPG := Lib.hid hpg
  have HTD := Lib.hid htd
  have HPK := Lib.hid hpk
  have HPC := Lib.hid hpc
  have HCS := Lib.hid hcs
  have HG0 := Lib.hid hg0
  have HLEN := Lib.hid hlen
  have t1 : ((n0 : Int) != (n0 : Int)) = false := by simp
  have t2 : ((n0 : Int) == 0) = false := beq_eq_false_iff_ne.2 (by omega)
  have t3 : decide (ev < 1) = false := decide_eq_false (by omega)
  have dp : (0 : Int) < (n0 : Int) := by omega
  have dp2 : 0 < n0 := by omega
  clear hPT hPl hct2 hct hP0 hg0 hdec hcg hpg htd hpk hpc hcs z0 hlen hfok
  go_wp2_with fail
  have htk : cs.take n0 = cs := List.take_of_length_le (Nat.le_of_eq HLEN.out)
  have hd := HDEC.out n0 hn1 (Nat.le_refl _)
  rw [htk] at hd
  have hcall := fdecode_any P0.wd P0.hg s xa n0 xc cs w3.drew (HCS.out.keep (Lat.drewN w3 1))
  rw [hd.1, hd.2, errv_zero rfl] at hcall
  have HCL := Lib.hid hcall
  clear htk hd hcall
  have hF : w3.drew.cell? ⟨lb, lo, none⟩ = some (.int .i64 P0.wd) ∧ w3.drew.cell? ⟨lb, lo + 1, none⟩ = some (.int .i64 P0.hg) := ⟨x0, x1⟩
  refine wp_region_gate (fun w' => w'.cell? ⟨lb, lo, none⟩ = some (.int .i64 P0.wd) ∧ w'.cell? ⟨lb, lo + 1, none⟩ = some (.int .i64 P0.hg)) (fun _ => True) 1000 (by kernel_rfl) ?_
  refine gate_takeF (i := 0) (v := ?_) rfl (by kernel_rfl) (by kernel_rfl) (by kernel_rfl) (fun _ _ _ h => h) (by decide) ⟨hF, fun _ => trivial⟩ (Or.inl ⟨by rfl, ?_⟩) ?_
  rotate_left
  · intro wq hSw; obtain ⟨s0, s1⟩ := hSw; go_simp; rfl
  simp only [Act.put]
  refine gate_takeF (i := 1) (v := ?_) rfl (by kernel_rfl) (by kernel_rfl) (by kernel_rfl) (fun _ _ _ h => h) (by decide) ⟨hF, fun _ => trivial⟩ (Or.inl ⟨by rfl, ?_⟩) ?_
  rotate_left
  · intro wq hSw; obtain ⟨s0, s1⟩ := hSw; go_simp; rfl
  simp only [Act.put]
  refine gate_takeF (i := 2) (v := ?_) rfl (by kernel_rfl) (by kernel_rfl) (by kernel_rfl) (fun _ _ _ h => h) (by decide) ⟨hF, fun _ => trivial⟩ (Or.inl ⟨by rfl, ?_⟩) ?_
  rotate_left
  · intro wq hSw; obtain ⟨s0, s1⟩ := hSw; go_simp; rfl
  simp only [Act.put]
  refine gate_takeF (i := 3) (v := ?_) rfl (by kernel_rfl) (by kernel_rfl) (by kernel_rfl) (fun _ _ _ h => h) (by decide) ⟨hF, fun _ => trivial⟩ (Or.inl ⟨by rfl, ?_⟩) ?_
  rotate_left
  · intro wq hSw; obtain ⟨s0, s1⟩ := hSw; go_simp; rfl
  simp only [Act.put]
  refine gate_takeF (i := 4) (v := ?_) rfl (by kernel_rfl) (by kernel_rfl) (by kernel_rfl) (fun _ _ _ h => h) (by decide) ⟨hF, fun _ => trivial⟩ (Or.inl ⟨by rfl, ?_⟩) ?_
  rotate_left
  · intro wq hSw; obtain ⟨s0, s1⟩ := hSw; go_simp; rfl
  simp only [Act.put]
  refine gate_takeF (i := 5) (v := ?_) rfl (by kernel_rfl) (by kernel_rfl) (by kernel_rfl) (fun _ _ _ h => h) (by decide) ⟨hF, fun _ => trivial⟩ (Or.inl ⟨by rfl, ?_⟩) ?_
  rotate_left
  · intro wq hSw; obtain ⟨s0, s1⟩ := hSw; go_simp; rfl
  simp only [Act.put]
  refine gate_takeF (i := 6) (v := ?_) rfl (by kernel_rfl) (by kernel_rfl) (by kernel_rfl) (fun _ _ _ h => h) (by decide) ⟨hF, fun _ => trivial⟩ (Or.inl ⟨by rfl, ?_⟩) ?_
  rotate_left
  · intro wq hSw; obtain ⟨s0, s1⟩ := hSw; go_simp; rfl
  simp only [Act.put]
  refine gate_takeF (i := 7) (v := ?_) rfl (by kernel_rfl) (by kernel_rfl) (by kernel_rfl) (fun _ _ _ h => h) (by decide) ⟨hF, fun _ => trivial⟩ (Or.inl ⟨by rfl, ?_⟩) ?_
  rotate_left
  · intro wq hSw; obtain ⟨s0, s1⟩ := hSw; go_simp; rfl
  simp only [Act.put]
  refine gate_takeF (i := 8) (v := ?_) rfl (by kernel_rfl) (by kernel_rfl) (by kernel_rfl) (fun _ _ _ h => h) (by decide) ⟨hF, fun _ => trivial⟩ (Or.inl ⟨by rfl, ?_⟩) ?_
  rotate_left
  · intro wq hSw; obtain ⟨s0, s1⟩ := hSw; go_simp; rfl
  simp only [Act.put]
  refine gate_takeF (i := 9) (v := ?_) rfl (by kernel_rfl) (by kernel_rfl) (by kernel_rfl) (fun _ _ _ h => h) (by decide) ⟨hF, fun _ => trivial⟩ (Or.inl ⟨by rfl, ?_⟩) ?_
  rotate_left
  · intro wq hSw; obtain ⟨s0, s1⟩ := hSw; go_simp; rfl
  simp only [Act.put]
  refine gate_one (i := 10) (by kernel_rfl) rfl (fun K hK => ?_)
  go_simp
  refine (HCL.out).mono ?_
  rintro e w' ⟨va, vc2, ds, rfl, hds, hdp, hb5⟩
  have hF' : w'.cell? ⟨lb, lo, none⟩ = some (.int .i64 P0.wd) ∧ w'.cell? ⟨lb, lo + 1, none⟩ = some (.int .i64 P0.hg) := ⟨Lat.cell_at hb5 hF.1, Lat.cell_at hb5 hF.2⟩
  refine hK _ _ ⟨hF', fun _ => trivial⟩ ?_
  clear hK K hF
  refine gate_takeF (i := 11) (v := ?_) rfl (by kernel_rfl) (by kernel_rfl) (by kernel_rfl) (fun _ _ _ h => h) (by decide) ⟨hF', fun _ => trivial⟩ (Or.inl ⟨by rfl, ?_⟩) ?_
  rotate_left
  · intro wq hSw; obtain ⟨s0, s1⟩ := hSw; go_simp; rfl
  simp only [Act.put]
  refine gate_takeF (i := 12) (v := ?_) rfl (by kernel_rfl) (by kernel_rfl) (by kernel_rfl) (fun _ _ _ h => h) (by decide) ⟨hF', fun _ => trivial⟩ (Or.inl ⟨by rfl, ?_⟩) ?_
  rotate_left
  · intro wq hSw; obtain ⟨s0, s1⟩ := hSw; go_simp; rfl
  simp only [Act.put]
  refine gate_takeF (i := 13) (v := ?_) rfl (by kernel_rfl) (by kernel_rfl) (by kernel_rfl) (fun _ _ _ h => h) (by decide) ⟨hF', fun _ => trivial⟩ (Or.inl ⟨by rfl, ?_⟩) ?_
  rotate_left
  · intro wq hSw; obtain ⟨s0, s1⟩ := hSw; go_simp; rfl
  simp only [Act.put]
  refine gate_takeF (i := 14) (v := ?_) rfl (by kernel_rfl) (by kernel_rfl) (by kernel_rfl) (fun _ _ _ h => h) (by decide) ⟨hF', fun _ => trivial⟩ (Or.inl ⟨by rfl, ?_⟩) ?_
  rotate_left
  · intro wq hSw; obtain ⟨s0, s1⟩ := hSw; go_simp; rfl
  simp only [Act.put]
  refine gate_takeF (i := 15) (v := ?_) rfl (by kernel_rfl) (by kernel_rfl) (by kernel_rfl) (fun _ _ _ h => h) (by decide) ⟨hF', fun _ => trivial⟩ (Or.inl ⟨by rfl, ?_⟩) ?_
  rotate_left
  · intro wq hSw; obtain ⟨s0, s1⟩ := hSw; go_simp; rfl
  simp only [Act.put]
  refine gate_done (by kernel_rfl) ?_ _
  clear hF'
  generalize w' = w5 at *
  have hdl : ds.length = n0 := by have := congrArg List.length hdp; rw [List.length_map, tds_len] at this; exact this
  rw [hdl] at hds ⊢
  have HDL := Lib.hid hdl
  have HDS := Lib.hid hds
  have HDP := Lib.hid hdp
  have HB5 := Lib.hid (Lat.trans (show Lat w3 w3.drew from Lat.drewN w3 1) hb5)
  clear hdl hds hdp hb5 x0 x1
  go_wp2_with fail
  go_loopw [16] (fun i wr => ∃ k : Nat, k ≤ n0 ∧ i = .int .i64 k ∧ Hid (Lat w5 wr)) (fun i _ => n0 - (intOf i).toNat)
  case atStart => exact ⟨0, Nat.zero_le _, rfl, Lat.refl _⟩
  case round =>
    obtain ⟨k, hk, rfl, hrel⟩ := hrel
    have HLw := Lib.hid hrel.out
    clear hrel
    by_cases hlt : k < n0
    · obtain ⟨pb, po, rfl, _, hpp⟩ := pds_at HDS.out (by omega)
      obtain ⟨cb, co, rfl, _, hcc⟩ := cods_at HCS.out (by omega)
      have hl35 := Lat.trans HB5.out HLw.out
      obtain ⟨u3, ui⟩ := hpp k hlt
      obtain ⟨v3, vi⟩ := HPC.out k hlt
      obtain ⟨y0, _⟩ := hcc k hlt
      have hT := HTD.out k hlt
      have hp : (ds.getD k default).p = (sht PT ev s (k + 1)).2 := by
        rw [← pts_of (by rw [HDL.out]; exact hlt), HDP.out, tds_get _ _ _ _ _ hlt]
      have hal := HCG.out k hlt
      obtain ⟨hpo, hw, hh⟩ := HPK.out k hlt
      have hT1 := hT.d
      have hT2 := hT.g
      have hT3 := hT.ok
      have hT4 := hT.near
      rw [← hp] at hT1 hT2 hT3 hT4
      rw [HG0.out] at hT1 hT2 hT3
      rw [HPG.out k hlt] at hT4
      obtain ⟨⟨⟨pd, pg, pz⟩, pa, pn, pc⟩, hP⟩ : ∃ p, p = ds.getD k default := ⟨_, rfl⟩
      obtain ⟨⟨qd, qg, qa, qn, qc, qz⟩, hQ⟩ : ∃ p, p = ps.getD k default := ⟨_, rfl⟩
      rw [← hP] at u3 ui hT1 hT2 hT3 hT4
      rw [← hQ] at v3 vi hpo hw hh hT4
      change pd = P0.wd at hT1
      change pg = P0.hg at hT2
      change PicOk P0.wd P0.hg pz at hT3
      change qd = P0.wd at hw
      change qg = P0.hg at hh
      change PicOk P0.wd P0.hg qz at hpo
      change unl pz qz pz.length ≤ s / 2 at hT4
      change Cells3 w5 pb (po + k * 3) (.int .i64 pd) (.int .i64 pg) (.slice pa pn pc) at u3
      change Cells3 w3 lb (lo + k * 3) (.int .i64 qd) (.int .i64 qg) (.slice qa qn qc) at v3
      change IntsAt w5 pa pn pc pz at ui
      change IntsAt w3 qa qn qc qz at vi
      rw [hal] at y0
      obtain ⟨AL, hAL⟩ : ∃ b : Bool, b = decide ((k : Int) % ev = 0) := ⟨_, rfl⟩
      rw [← hAL] at y0
      have he : alkE pd pg pz qd qg qz = 0 := by rw [hT1, hT2, hw, hh]; exact alkE_zero.2 ⟨chkPic_of hT3, chkPic_of hpo, rfl, rfl⟩
      rw [ui.len] at hT4
      have u0 := HLw.out.cell_at u3.c0
      have u1 := HLw.out.cell_at u3.c1
      have u2 := HLw.out.cell_at u3.c2
      have v0 := hl35.cell_at v3.c0
      have v1 := hl35.cell_at v3.c1
      have v2 := hl35.cell_at v3.c2
      have y1 := hl35.cell_at y0
      have HU := Lib.hid (ui.keep HLw.out)
      have HV := Lib.hid (vi.keep hl35)
      have HAE := Lib.hid he
      have HT4 := Lib.hid hT4
      have HAL := Lib.hid hAL
      have HPB := Lib.hid hpp
      clear hpp hcc u3 ui v3 vi y0 hT hp hal hpo hw hh hT1 hT2 hT3 hT4 hP hQ hAL he hl35
      have i1 : (k : Int) < (n0 : Int) := by omega
      go_wp2_with fail
      have hF : wr.drew.cell? ⟨pb, po + k * 3, none⟩ = some (.int .i64 pd) ∧ wr.drew.cell? ⟨pb, po + k * 3 + 1, none⟩ = some (.int .i64 pg) ∧ wr.drew.cell? ⟨pb, po + k * 3 + 2, none⟩ = some (.slice pa pn pc) ∧ wr.drew.cell? ⟨lb, lo + k * 3, none⟩ = some (.int .i64 qd) ∧ wr.drew.cell? ⟨lb, lo + k * 3 + 1, none⟩ = some (.int .i64 qg) ∧ wr.drew.cell? ⟨lb, lo + k * 3 + 2, none⟩ = some (.slice qa qn qc) ∧ wr.drew.cell? ⟨cb, co + k * 4, none⟩ = some (.bool AL) := ⟨u0, u1, u2, v0, v1, v2, y1⟩
      refine wp_region_gate (fun w' => w'.cell? ⟨pb, po + k * 3, none⟩ = some (.int .i64 pd) ∧ w'.cell? ⟨pb, po + k * 3 + 1, none⟩ = some (.int .i64 pg) ∧ w'.cell? ⟨pb, po + k * 3 + 2, none⟩ = some (.slice pa pn pc) ∧ w'.cell? ⟨lb, lo + k * 3, none⟩ = some (.int .i64 qd) ∧ w'.cell? ⟨lb, lo + k * 3 + 1, none⟩ = some (.int .i64 qg) ∧ w'.cell? ⟨lb, lo + k * 3 + 2, none⟩ = some (.slice qa qn qc) ∧ w'.cell? ⟨cb, co + k * 4, none⟩ = some (.bool AL)) (fun _ => True) 1000 (by kernel_rfl) ?_
      refine gate_takeF (i := 0) (v := ?_) rfl (by kernel_rfl) (by kernel_rfl) (by kernel_rfl) (fun _ _ _ h => h) (by decide) ⟨hF, fun _ => trivial⟩ (Or.inl ⟨by rfl, ?_⟩) ?_
      rotate_left
      · intro wq hSw; obtain ⟨s0, s1, s2, s3, s4, s5, s6⟩ := hSw; go_simp; rfl
      simp only [Act.put]
      refine gate_takeF (i := 1) (v := ?_) rfl (by kernel_rfl) (by kernel_rfl) (by kernel_rfl) (fun _ _ _ h => h) (by decide) ⟨hF, fun _ => trivial⟩ (Or.inl ⟨by rfl, ?_⟩) ?_
      rotate_left
      · intro wq hSw; obtain ⟨s0, s1, s2, s3, s4, s5, s6⟩ := hSw; go_simp; rfl
      simp only [Act.put]
      refine gate_takeF (i := 2) (v := ?_) rfl (by kernel_rfl) (by kernel_rfl) (by kernel_rfl) (fun _ _ _ h => h) (by decide) ⟨hF, fun _ => trivial⟩ (Or.inl ⟨by rfl, ?_⟩) ?_
      rotate_left
      · intro wq hSw; obtain ⟨s0, s1, s2, s3, s4, s5, s6⟩ := hSw; go_simp; rfl
      simp only [Act.put]
      refine gate_takeF (i := 3) (v := ?_) rfl (by kernel_rfl) (by kernel_rfl) (by kernel_rfl) (fun _ _ _ h => h) (by decide) ⟨hF, fun _ => trivial⟩ (Or.inl ⟨by rfl, ?_⟩) ?_
      rotate_left
      · intro wq hSw; obtain ⟨s0, s1, s2, s3, s4, s5, s6⟩ := hSw; go_simp; rfl
      simp only [Act.put]
      refine gate_takeF (i := 4) (v := ?_) rfl (by kernel_rfl) (by kernel_rfl) (by kernel_rfl) (fun _ _ _ h => h) (by decide) ⟨hF, fun _ => trivial⟩ (Or.inl ⟨by rfl, ?_⟩) ?_
      rotate_left
      · intro wq hSw; obtain ⟨s0, s1, s2, s3, s4, s5, s6⟩ := hSw; go_simp; rfl
      simp only [Act.put]
      refine gate_takeF (i := 5) (v := ?_) rfl (by kernel_rfl) (by kernel_rfl) (by kernel_rfl) (fun _ _ _ h => h) (by decide) ⟨hF, fun _ => trivial⟩ (Or.inl ⟨by rfl, ?_⟩) ?_
      rotate_left
      · intro wq hSw; obtain ⟨s0, s1, s2, s3, s4, s5, s6⟩ := hSw; go_simp; rfl
      simp only [Act.put]
      refine gate_takeF (i := 6) (v := ?_) rfl (by kernel_rfl) (by kernel_rfl) (by kernel_rfl) (fun _ _ _ h => h) (by decide) ⟨hF, fun _ => trivial⟩ (Or.inl ⟨by rfl, ?_⟩) ?_
      rotate_left
      · intro wq hSw; obtain ⟨s0, s1, s2, s3, s4, s5, s6⟩ := hSw; go_simp; rfl
      simp only [Act.put]
      refine gate_takeF (i := 7) (v := ?_) rfl (by kernel_rfl) (by kernel_rfl) (by kernel_rfl) (fun _ _ _ h => h) (by decide) ⟨hF, fun _ => trivial⟩ (Or.inl ⟨by rfl, ?_⟩) ?_
      rotate_left
      · intro wq hSw; obtain ⟨s0, s1, s2, s3, s4, s5, s6⟩ := hSw; go_simp; rfl
      simp only [Act.put]
      refine gate_one (i := 8) (by kernel_rfl) rfl (fun K hK => ?_)
      go_simp
      refine (unlike_ok pd pg pa pn pc pz qd qg qa qn qc qz wr.drew (HU.out.keep (Lat.drewN wr 1)) (HV.out.keep (Lat.drewN wr 1)) HAE.out).mono ?_
      rintro e w' ⟨rfl, hb7⟩
      have hF' : w'.cell? ⟨pb, po + k * 3, none⟩ = some (.int .i64 pd) ∧ w'.cell? ⟨pb, po + k * 3 + 1, none⟩ = some (.int .i64 pg) ∧ w'.cell? ⟨pb, po + k * 3 + 2, none⟩ = some (.slice pa pn pc) ∧ w'.cell? ⟨lb, lo + k * 3, none⟩ = some (.int .i64 qd) ∧ w'.cell? ⟨lb, lo + k * 3 + 1, none⟩ = some (.int .i64 qg) ∧ w'.cell? ⟨lb, lo + k * 3 + 2, none⟩ = some (.slice qa qn qc) ∧ w'.cell? ⟨cb, co + k * 4, none⟩ = some (.bool AL) := ⟨Lat.cell_at hb7 hF.1, Lat.cell_at hb7 hF.2.1, Lat.cell_at hb7 hF.2.2.1, Lat.cell_at hb7 hF.2.2.2.1, Lat.cell_at hb7 hF.2.2.2.2.1, Lat.cell_at hb7 hF.2.2.2.2.2.1, Lat.cell_at hb7 hF.2.2.2.2.2.2⟩
      refine hK _ _ ⟨hF', fun _ => trivial⟩ ?_
      clear hK K hF
      refine gate_takeF (i := 9) (v := ?_) rfl (by kernel_rfl) (by kernel_rfl) (by kernel_rfl) (fun _ _ _ h => h) (by decide) ⟨hF', fun _ => trivial⟩ (Or.inl ⟨by rfl, ?_⟩) ?_
      rotate_left
      · intro wq hSw; obtain ⟨s0, s1, s2, s3, s4, s5, s6⟩ := hSw; go_simp; rfl
      simp only [Act.put]
      refine gate_takeF (i := 10) (v := ?_) rfl (by kernel_rfl) (by kernel_rfl) (by kernel_rfl) (fun _ _ _ h => h) (by decide) ⟨hF', fun _ => trivial⟩ (Or.inl ⟨by rfl, ?_⟩) ?_
      rotate_left
      · intro wq hSw; obtain ⟨s0, s1, s2, s3, s4, s5, s6⟩ := hSw; go_simp; rfl
      simp only [Act.put]
      refine gate_takeF (i := 11) (v := ?_) rfl (by kernel_rfl) (by kernel_rfl) (by kernel_rfl) (fun _ _ _ h => h) (by decide) ⟨hF', fun _ => trivial⟩ (Or.inl ⟨by rfl, ?_⟩) ?_
      rotate_left
      · intro wq hSw; obtain ⟨s0, s1, s2, s3, s4, s5, s6⟩ := hSw; go_simp; rfl
      simp only [Act.put]
      refine gate_takeF (i := 12) (v := ?_) rfl (by kernel_rfl) (by kernel_rfl) (by kernel_rfl) (fun _ _ _ h => h) (by decide) ⟨hF', fun _ => trivial⟩ (Or.inl ⟨by rfl, ?_⟩) ?_
      rotate_left
      · intro wq hSw; obtain ⟨s0, s1, s2, s3, s4, s5, s6⟩ := hSw; go_simp; rfl
      simp only [Act.put]
      refine gate_takeF (i := 13) (v := ?_) rfl (by kernel_rfl) (by kernel_rfl) (by kernel_rfl) (fun _ _ _ h => h) (by decide) ⟨hF', fun _ => trivial⟩ (Or.inl ⟨by rfl, ?_⟩) ?_
      rotate_left
      · intro wq hSw; obtain ⟨s0, s1, s2, s3, s4, s5, s6⟩ := hSw; go_simp; rfl
      simp only [Act.put]
      refine gate_done (by kernel_rfl) ?_ _
      have y2 := hF'.2.2.2.2.2.2
      clear hF'
      generalize w' = w7 at *
      obtain ⟨X, hX⟩ : ∃ X, X = unl pz qz pn := ⟨_, rfl⟩
      have hX2 := HT4.out
      rw [← hX] at hX2 ⊢
      have t4 : decide (s / 2 < X) = false := decide_eq_false (by omega)
      have HL7 := Lib.hid (Lat.trans (Lat.trans HLw.out (show Lat wr wr.drew from Lat.drewN wr 1)) hb7)
      clear hX hX2 hb7 u0 u1 u2 v0 v1 v2 y1
      have hal := HAL.out
      obtain ⟨en, rfl⟩ := Int.eq_ofNat_of_zero_le (show 0 ≤ ev by omega)
      have t5 : ((k : Int) % (en : Int) == 0) = AL := by
        rw [hal]
        by_cases h : (k : Int) % (en : Int) = 0
        · rw [decide_eq_true h]; exact beq_iff_eq.2 h
        · rw [decide_eq_false h]; exact beq_eq_false_iff_ne.2 h
      have t4' : decide (s.tdiv 2 < X) = false := by rw [Int.tdiv_eq_ediv_of_nonneg (by omega)]; exact t4
      have t5' : ((k : Int).tmod (en : Int) == 0) = AL := by rw [Int.tmod_eq_emod_of_nonneg (by omega)]; exact t5
      clear hal
      have en0 : (en : Int) ≠ 0 := by omega
      simp only [List.getElem_toArray, List.getElem_cons_succ, List.getElem_cons_zero]
      go_simp
      cases AL with
      | true =>
        go_wp2_with fail
        go_quiet (fail)
        go_wp2_with fail
        go_roundw
        case rel => exact ⟨k + 1, by omega, by go_num, Lat.trans HL7.out (Lat.drewN _ _)⟩
        case measure => simp [intOf]; omega
      | false =>
        go_wp2_with fail
        go_quiet (fail)
        go_wp2_with fail
        go_roundw
        case rel => exact ⟨k + 1, by omega, by go_num, Lat.trans HL7.out (Lat.drewN _ _)⟩
        case measure => simp [intOf]; omega
    · obtain rfl : k = n0 := by omega
      have HL35 := Lib.hid (Lat.trans HB5.out HLw.out)
      have HLL := Lib.hid (Lat.trans HB3.out HL35.out)
      have hd : (decide (cut < 1) = true ∨ (decide (cut < 1) = false ∧ decide ((k : Int) < cut) = true)) ∨ (decide (cut < 1) = false ∧ decide ((k : Int) < cut) = false ∧ ∃ m : Nat, cut = m ∧ 1 ≤ m ∧ m ≤ k) := by
        by_cases h1 : cut < 1
        · exact .inl (.inl (decide_eq_true h1))
        by_cases h2 : (k : Int) < cut
        · exact .inl (.inr ⟨decide_eq_false h1, decide_eq_true h2⟩)
        obtain ⟨m, rfl⟩ := Int.eq_ofNat_of_zero_le (show 0 ≤ cut by omega)
        exact .inr ⟨decide_eq_false h1, decide_eq_false h2, m, rfl, by omega, by omega⟩
      rcases hd with (d1 | ⟨d1, d2⟩) | ⟨d1, d2, m, rfl, m1, mk⟩
      · go_wp2_with fail
        go_ret
        exact ⟨rfl, HLL.out⟩
      · go_wp2_with fail
        go_ret
        exact ⟨rfl, HLL.out⟩
      · have z0 := (HPC.out 0 (by omega)).1
        rw [Nat.zero_mul, Nat.add_zero] at z0
        have hP0 : (ps.getD 0 default).pt = P0.pt := by rw [← HPG.out 0 (by omega)]; exact HG0.out
        have hP1 : (ps.getD 0 default).wd = P0.wd := congrArg Pt.d hP0
        have hP2 : (ps.getD 0 default).hg = P0.hg := congrArg Pt.g hP0
        rw [hP1, hP2] at z0
        have x0 := HL35.out.cell_at z0.c0
        have x1 := HL35.out.cell_at z0.c1
        have i0 : (0 : Int) ≤ (m : Int) := by omega
        have i1 : (m : Int) ≤ (k : Int) := by omega
        have hcl := HCS.out.le
        have i2 : (m : Int) ≤ (xc : Int) := by omega
        have i3 : m ≤ xc := by omega
        have hpl := HDS.out.le
        have i4 : (m : Int) ≤ (vc2 : Int) := by omega
        have i5 : m ≤ vc2 := by omega
        clear z0 hP0 hP1 hP2
        go_wp2_with fail
        have hd := HDEC.out m m1 mk
        have hcall := fdecode_any P0.wd P0.hg s xa m xc (cs.take m) wr.drew (((HCS.out.keep HL35.out).keep (show Lat wr wr.drew from Lat.drewN wr 1)).take mk)
        rw [hd.1, hd.2, errv_zero rfl] at hcall
        have HCL := Lib.hid hcall
        clear hd hcall
        have hF : wr.drew.cell? ⟨lb, lo, none⟩ = some (.int .i64 P0.wd) ∧ wr.drew.cell? ⟨lb, lo + 1, none⟩ = some (.int .i64 P0.hg) := ⟨x0, x1⟩
        refine wp_region_gate (fun w' => w'.cell? ⟨lb, lo, none⟩ = some (.int .i64 P0.wd) ∧ w'.cell? ⟨lb, lo + 1, none⟩ = some (.int .i64 P0.hg)) (fun _ => True) 1000 (by kernel_rfl) ?_
        refine gate_takeF (i := 0) (v := ?_) rfl (by kernel_rfl) (by kernel_rfl) (by kernel_rfl) (fun _ _ _ h => h) (by decide) ⟨hF, fun _ => trivial⟩ (Or.inl ⟨by rfl, ?_⟩) ?_
        rotate_left
        · intro wq hSw; obtain ⟨s0, s1⟩ := hSw; go_simp; rfl
        simp only [Act.put]
        refine gate_takeF (i := 1) (v := ?_) rfl (by kernel_rfl) (by kernel_rfl) (by kernel_rfl) (fun _ _ _ h => h) (by decide) ⟨hF, fun _ => trivial⟩ (Or.inl ⟨by rfl, ?_⟩) ?_
        rotate_left
        · intro wq hSw; obtain ⟨s0, s1⟩ := hSw; go_simp; rfl
        simp only [Act.put]
        refine gate_takeF (i := 2) (v := ?_) rfl (by kernel_rfl) (by kernel_rfl) (by kernel_rfl) (fun _ _ _ h => h) (by decide) ⟨hF, fun _ => trivial⟩ (Or.inl ⟨by rfl, ?_⟩) ?_
        rotate_left
        · intro wq hSw; obtain ⟨s0, s1⟩ := hSw; go_simp; rfl
        simp only [Act.put]
        refine gate_takeF (i := 3) (v := ?_) rfl (by kernel_rfl) (by kernel_rfl) (by kernel_rfl) (fun _ _ _ h => h) (by decide) ⟨hF, fun _ => trivial⟩ (Or.inl ⟨by rfl, ?_⟩) ?_
        rotate_left
        · intro wq hSw; obtain ⟨s0, s1⟩ := hSw; go_simp; rfl
        simp only [Act.put]
        refine gate_takeF (i := 4) (v := ?_) rfl (by kernel_rfl) (by kernel_rfl) (by kernel_rfl) (fun _ _ _ h => h) (by decide) ⟨hF, fun _ => trivial⟩ (Or.inl ⟨by rfl, ?_⟩) ?_
        rotate_left
        · intro wq hSw; obtain ⟨s0, s1⟩ := hSw; go_simp; rfl
        simp only [Act.put]
        refine gate_takeF (i := 5) (v := ?_) rfl (by kernel_rfl) (by kernel_rfl) (by kernel_rfl) (fun _ _ _ h => h) (by decide) ⟨hF, fun _ => trivial⟩ (Or.inl ⟨by rfl, ?_⟩) ?_
        rotate_left
        · intro wq hSw; obtain ⟨s0, s1⟩ := hSw; go_simp; rfl
        simp only [Act.put]
        refine gate_takeF (i := 6) (v := ?_) rfl (by kernel_rfl) (by kernel_rfl) (by kernel_rfl) (fun _ _ _ h => h) (by decide) ⟨hF, fun _ => trivial⟩ (Or.inl ⟨by rfl, ?_⟩) ?_
        rotate_left
        · intro wq hSw; obtain ⟨s0, s1⟩ := hSw; go_simp; rfl
        simp only [Act.put]
        refine gate_takeF (i := 7) (v := ?_) rfl (by kernel_rfl) (by kernel_rfl) (by kernel_rfl) (fun _ _ _ h => h) (by decide) ⟨hF, fun _ => trivial⟩ (Or.inl ⟨by rfl, ?_⟩) ?_
        rotate_left
        · intro wq hSw; obtain ⟨s0, s1⟩ := hSw; go_simp; rfl
        simp only [Act.put]
        refine gate_takeF (i := 8) (v := ?_) rfl (by kernel_rfl) (by kernel_rfl) (by kernel_rfl) (fun _ _ _ h => h) (by decide) ⟨hF, fun _ => trivial⟩ (Or.inl ⟨by rfl, ?_⟩) ?_
        rotate_left
        · intro wq hSw; obtain ⟨s0, s1⟩ := hSw; go_simp; rfl
        simp only [Act.put]
        refine gate_takeF (i := 9) (v := ?_) rfl (by kernel_rfl) (by kernel_rfl) (by kernel_rfl) (fun _ _ _ h => h) (by decide) ⟨hF, fun _ => trivial⟩ (Or.inl ⟨by rfl, ?_⟩) ?_
        rotate_left
        · intro wq hSw; obtain ⟨s0, s1⟩ := hSw; go_simp; rfl
        simp only [Act.put]
        refine gate_takeF (i := 10) (v := ?_) rfl (by kernel_rfl) (by kernel_rfl) (by kernel_rfl) (fun _ _ _ h => h) (by decide) ⟨hF, fun _ => trivial⟩ (Or.inl ⟨by rfl, ?_⟩) ?_
        rotate_left
        · intro wq hSw; obtain ⟨s0, s1⟩ := hSw; go_simp; rfl
        simp only [Act.put]
        refine gate_takeF (i := 11) (v := ?_) rfl (by kernel_rfl) (by kernel_rfl) (by kernel_rfl) (fun _ _ _ h => h) (by decide) ⟨hF, fun _ => trivial⟩ (Or.inl ⟨by rfl, ?_⟩) ?_
        rotate_left
        · intro wq hSw; obtain ⟨s0, s1⟩ := hSw; go_simp; rfl
        simp only [Act.put]
        refine gate_one (i := 12) (by kernel_rfl) rfl (fun K hK => ?_)
        go_simp
        refine (HCL.out).mono ?_
        rintro e w' ⟨va3, vc3, ds3, rfl, hds3, hdp3, hb7⟩
        have hF' : w'.cell? ⟨lb, lo, none⟩ = some (.int .i64 P0.wd) ∧ w'.cell? ⟨lb, lo + 1, none⟩ = some (.int .i64 P0.hg) := ⟨Lat.cell_at hb7 hF.1, Lat.cell_at hb7 hF.2⟩
        refine hK _ _ ⟨hF', fun _ => trivial⟩ ?_
        clear hK K hF
        refine gate_takeF (i := 13) (v := ?_) rfl (by kernel_rfl) (by kernel_rfl) (by kernel_rfl) (fun _ _ _ h => h) (by decide) ⟨hF', fun _ => trivial⟩ (Or.inl ⟨by rfl, ?_⟩) ?_
        rotate_left
        · intro wq hSw; obtain ⟨s0, s1⟩ := hSw; go_simp; rfl
        simp only [Act.put]
        refine gate_takeF (i := 14) (v := ?_) rfl (by kernel_rfl) (by kernel_rfl) (by kernel_rfl) (fun _ _ _ h => h) (by decide) ⟨hF', fun _ => trivial⟩ (Or.inl ⟨by rfl, ?_⟩) ?_
        rotate_left
        · intro wq hSw; obtain ⟨s0, s1⟩ := hSw; go_simp; rfl
        simp only [Act.put]
        refine gate_takeF (i := 15) (v := ?_) rfl (by kernel_rfl) (by kernel_rfl) (by kernel_rfl) (fun _ _ _ h => h) (by decide) ⟨hF', fun _ => trivial⟩ (Or.inl ⟨by rfl, ?_⟩) ?_
        rotate_left
        · intro wq hSw; obtain ⟨s0, s1⟩ := hSw; go_simp; rfl
        simp only [Act.put]
        refine gate_takeF (i := 16) (v := ?_) rfl (by kernel_rfl) (by kernel_rfl) (by kernel_rfl) (fun _ _ _ h => h) (by decide) ⟨hF', fun _ => trivial⟩ (Or.inl ⟨by rfl, ?_⟩) ?_
        rotate_left
        · intro wq hSw; obtain ⟨s0, s1⟩ := hSw; go_simp; rfl
        simp only [Act.put]
        refine gate_takeF (i := 17) (v := ?_) rfl (by kernel_rfl) (by kernel_rfl) (by kernel_rfl) (fun _ _ _ h => h) (by decide) ⟨hF', fun _ => trivial⟩ (Or.inl ⟨by rfl, ?_⟩) ?_
        rotate_left
        · intro wq hSw; obtain ⟨s0, s1⟩ := hSw; go_simp; rfl
        simp only [Act.put]
        refine gate_done (by kernel_rfl) ?_ _
        clear hF'
        generalize w' = w7 at *
        have hdl3 : ds3.length = m := by have := congrArg List.length hdp3; rw [List.length_map, tds_len] at this; exact this
        rw [hdl3] at hds3 ⊢
        have hsame : ds3.map Pd.p = (ds.take m).map Pd.p := by rw [hdp3, List.map_take, HDP.out, tds_take _ _ _ _ _ mk]
        have HSM := Lib.hid hsame
        have HD3 := Lib.hid hds3
        have HL7 := Lib.hid (Lat.trans (Lat.trans HLw.out (show Lat wr wr.drew from Lat.drewN wr 1)) hb7)
        clear hdl3 hds3 hsame hdp3 hb7 x0 x1
        go_wp2_with fail
        refine (samePds_yes va3 m vc3 ds3 va vc2 (ds.take m) w7 HD3.out ((HDS.out.keep HL7.out).take mk) HSM.out).mono ?_
        rintro e w8 ⟨rfl, hb8⟩
        go_wp2_with fail
        go_ret
        exact ⟨rfl, Lat.trans (Lat.trans (Lat.trans HB3.out HB5.out) HL7.out) hb8⟩
end Go.Proofs.Ytnnjijdpenifjaa
