/- The contract of dropref2.Shift. -/
import Derived.Test.YtooepflfofgnnaaDoorRefPic
import Derived.Test.YtooepflfofgnnaaDoorQuiet
namespace Go.Proofs.YtooepflfofgnnaaDoor
open Go.ChangeShapes Go.WideShapes Go.ChangeAt Go.RowKit

set_option maxHeartbeats 8000000 in
set_option maxRecDepth 100000 in
theorem refShift (wd hg : Nat) (a : Option Addr) (n cap : Nat) (zs : List Int) (mx my : Int) (w : World) (h : IntsAt w a n cap zs) (hn : wd * hg = n) (w1 : 1 ≤ wd) (w6 : wd ≤ 6) (g1 : 1 ≤ hg) (g6 : hg ≤ 6)
    (x1 : -6 ≤ mx) (x2 : mx ≤ 6) (y1 : -6 ≤ my) (y2 : my ≤ 6) (hpx : ∀ z ∈ zs, 0 ≤ z ∧ z ≤ 255) :
    Calls Tryd.prog 110 #[picV wd hg a n cap, .agg #[.int .i64 mx, .int .i64 my]] w fun e w' => ∃ va vc, e = .returned (picV wd hg va n vc) ∧ IntsAt w' va n vc (shf wd hg zs mx my n) ∧ Fresh w va n ∧ Lat w w' := by
  obtain ⟨W0, hW0⟩ : ∃ W, W = (((w.alloc (.cells #[.int .i64 wd, .int .i64 hg, .slice a n cap] 132)).alloc (.cells #[.int .i64 mx, .int .i64 my] 108)).alloc (.cells #[.int .i64 0, .int .i64 0, .slice none 0 0] 132)).alloc (.cells #[.int .i64 wd, .int .i64 hg, .slice none 0 0] 132) := ⟨_, rfl⟩
  have hsh : Lat w W0 ∧ Cells3 W0 w.heap.size 0 (.int .i64 wd) (.int .i64 hg) (.slice a n cap) ∧ (W0.cell? ⟨w.heap.size + 1, 0, none⟩ = some (.int .i64 mx) ∧ W0.cell? ⟨w.heap.size + 1, 1, none⟩ = some (.int .i64 my)) ∧
      (Cells3 W0 (w.heap.size + 1 + 1) 0 (.int .i64 0) (.int .i64 0) (.slice none 0 0) ∧ ∀ k, W0.frozen? ⟨w.heap.size + 1 + 1, k, none⟩ = false) ∧ (Cells3 W0 (w.heap.size + 1 + 1 + 1) 0 (.int .i64 wd) (.int .i64 hg) (.slice none 0 0) ∧ ∀ k, W0.frozen? ⟨w.heap.size + 1 + 1 + 1, k, none⟩ = false) ∧ W0.heap.size = w.heap.size + 4 := by
    rw [hW0]
    have l4 := Lat.alloc (((w.alloc (.cells #[.int .i64 wd, .int .i64 hg, .slice a n cap] 132)).alloc (.cells #[.int .i64 mx, .int .i64 my] 108)).alloc (.cells #[.int .i64 0, .int .i64 0, .slice none 0 0] 132)) (.cells #[.int .i64 wd, .int .i64 hg, .slice none 0 0] 132)
    have l3 := Lat.alloc ((w.alloc (.cells #[.int .i64 wd, .int .i64 hg, .slice a n cap] 132)).alloc (.cells #[.int .i64 mx, .int .i64 my] 108)) (.cells #[.int .i64 0, .int .i64 0, .slice none 0 0] 132)
    have l2 := Lat.alloc (w.alloc (.cells #[.int .i64 wd, .int .i64 hg, .slice a n cap] 132)) (.cells #[.int .i64 mx, .int .i64 my] 108)
    have l1 := Lat.alloc w (.cells #[.int .i64 wd, .int .i64 hg, .slice a n cap] 132)
    exact ⟨Lat.trans l1 (Lat.trans l2 (Lat.trans l3 l4)), (cells3_new rfl rfl rfl rfl).keep (Lat.trans l2 (Lat.trans l3 l4)), ⟨(Lat.trans l3 l4).cell_at (cell_new (by simp) rfl), (Lat.trans l3 l4).cell_at (cell_new (by simp) rfl)⟩,
      ⟨(cells3_new (by simp) rfl rfl rfl).keep l4, fun k => l4.free_at (by simp) (free_new (by simp))⟩, ⟨cells3_new (by simp) rfl rfl rfl, fun k => free_new (by simp)⟩, by simp⟩
  obtain ⟨hl0, hp, ⟨hm0, hm1⟩, ⟨hr, hrf⟩, ⟨hq, hqf⟩, hsz⟩ := hsh
  have H := Lib.hid h
  have HN := Lib.hid hn
  have HL0 := Lib.hid hl0
  have HP := Lib.hid hp
  have HM0 := Lib.hid hm0
  have HM1 := Lib.hid hm1
  have HR := Lib.hid hr
  have HRF := Lib.hid hrf
  have HQ := Lib.hid hq
  have HQF := Lib.hid hqf
  have HSZ := Lib.hid hsz
  have HWF := Lib.hid (wf_pix (shf_mem (wd := wd) (hg := hg) (mx := mx) (my := my) (k := n) hpx))
  have hn36 : n ≤ 36 := by rw [← hn]; exact Nat.mul_le_mul w6 g6
  clear h hn hpx hl0 hp hm0 hm1 hr hrf hq hqf hsz
  go_enter Tryd.func110, Tryd.ntmps110
  go_upto_region 2 with fail
  rw [← hW0]
  clear hW0
  go_wp2_with fail
  go_loopw [6] (fun i wr => ∃ k : Nat, k ≤ n ∧ i = .int .i64 k ∧ Hid (AccSome w.heap.size W0 wr (w.heap.size + 1 + 1 + 1) 2 (shf wd hg zs mx my k))) (fun i _ => n - (intOf i).toNat)
  case atStart => exact ⟨0, Nat.zero_le _, rfl, _, AccInv.start (by omega) HQ.out.c2⟩
  case round =>
    obtain ⟨k, hk, rfl, hrel⟩ := hrel
    obtain ⟨v, hI⟩ := hrel.out
    have HI := Lib.hid hI
    have sz0 := HSZ.out
    have c0 := hI.same ⟨w.heap.size, 0, none⟩ _ (by simp) HP.out.c0
    have c1 := hI.same ⟨w.heap.size, 1, none⟩ _ (by simp) HP.out.c1
    have c2 := hI.same ⟨w.heap.size, 2, none⟩ _ (by simp) HP.out.c2
    have m0 := hI.same ⟨w.heap.size + 1, 0, none⟩ _ (by simp) HM0.out
    have m1 := hI.same ⟨w.heap.size + 1, 1, none⟩ _ (by simp) HM1.out
    clear hI hrel sz0
    by_cases hlt : k < n
    · obtain ⟨r, hr⟩ : ∃ r, r = k % wd := ⟨_, rfl⟩
      obtain ⟨q, hq⟩ : ∃ q, q = k / wd := ⟨_, rfl⟩
      have r1 : r < wd := by rw [hr]; exact Nat.mod_lt _ (by omega)
      have q1 : q < hg := by rw [hq]; exact Nat.div_lt_of_lt_mul (by rw [HN.out]; exact hlt)
      have t1 : (k : Int).tmod (wd : Int) = (r : Int) := by rw [Int.tmod_eq_emod_of_nonneg (by omega), hr]; simp
      have t2 : (k : Int).tdiv (wd : Int) = (q : Int) := by rw [Int.tdiv_eq_ediv_of_nonneg (by omega), hq]; simp
      have t3 : (k : Int) % (wd : Int) = (r : Int) := by rw [hr]; simp
      have t4 : (k : Int) / (wd : Int) = (q : Int) := by rw [hq]; simp
      have hst : shf wd hg zs mx my (k + 1) = shf wd hg zs mx my k ++ [zs.getD (srcI wd hg mx my r q).toNat 0] := by
        unfold shf; rw [List.range_succ, List.map_append, hr, hq]; rfl
      have hsr := srcI_bd wd hg mx my r q (by omega) (by omega)
      obtain ⟨A, hA⟩ : ∃ A, A = insd ((q : Int) - my) hg := ⟨_, rfl⟩
      obtain ⟨B, hB⟩ : ∃ B, B = insd ((r : Int) - mx) wd := ⟨_, rfl⟩
      have a1 := insd_bd ((q : Int) - my) hg (by omega)
      have b1 := insd_bd ((r : Int) - mx) wd (by omega)
      have eS : srcI wd hg mx my r q = A * wd + B := by rw [hA, hB]; rfl
      rw [← hA] at a1
      rw [← hB] at b1
      rw [eS] at hsr hst
      have hAc : ∀ W, Calls Tryd.prog 108 #[.int .i64 ((q : Int) - my), .int .i64 ((hg : Int) - 1)] W fun e w' => e = .returned (.int .i64 A) ∧ W = w' := fun W => by
        rw [hA]; exact refWithin _ _ W (by omega)
      have hBc : ∀ W, Calls Tryd.prog 108 #[.int .i64 ((r : Int) - mx), .int .i64 ((wd : Int) - 1)] W fun e w' => e = .returned (.int .i64 B) ∧ W = w' := fun W => by
        rw [hB]; exact refWithin _ _ W (by omega)
      have HAc := Lib.hid hAc
      have HBc := Lib.hid hBc
      have HST := Lib.hid hst
      have p0 : 0 ≤ A * (wd : Int) := Int.mul_nonneg a1.1 (by omega)
      have p1 : A * (wd : Int) ≤ 6 * 6 := Int.mul_le_mul (by omega) (by omega) (by omega) (by omega)
      obtain ⟨s, hs⟩ := Int.eq_ofNat_of_zero_le hsr.1
      have hsn : s < n := by rw [← HN.out]; have := hsr.2; rw [hs, ← Int.natCast_mul] at this; omega
      have e1 : IntKind.i64.wrap ((r : Int) - mx) = (r : Int) - mx := IntWalk.i64_in _ (by omega)
      have e2 : IntKind.i64.wrap ((wd : Int) - 1) = (wd : Int) - 1 := IntWalk.i64_in _ (by omega)
      have e3 : IntKind.i64.wrap ((q : Int) - my) = (q : Int) - my := IntWalk.i64_in _ (by omega)
      have e4 : IntKind.i64.wrap ((hg : Int) - 1) = (hg : Int) - 1 := IntWalk.i64_in _ (by omega)
      have e5 : IntKind.i64.wrap (A * (wd : Int)) = A * (wd : Int) := IntWalk.i64_in _ (by omega)
      have e6 : IntKind.i64.wrap (A * (wd : Int) + B) = (s : Int) := by rw [← hs]; exact IntWalk.i64_in _ (by omega)
      have hz : ((wd : Int) == 0) = false := by rw [beq_eq_false_iff_ne]; omega
      have i1 : (0 : Int) ≤ (s : Int) := by omega
      have i2 : (s : Int) < (n : Int) := by omega
      obtain ⟨b, o, rfl, hc⟩ := H.out.row.at_ (by omega)
      have hbs : b < w.heap.size := World.block_lt_of_cell? _ _ (hc s hsn)
      have cz := HL0.out.cell_at (hc s hsn)
      rw [hs, Int.toNat_natCast] at HST
      obtain ⟨z, hz⟩ : ∃ z, z = zs.getD s 0 := ⟨_, rfl⟩
      rw [← hz] at HST cz
      have CZ := Lib.hid cz
      clear hr hq hst hsr hA hB eS hAc hBc hc hs hz cz
      obtain ⟨L, hL⟩ : ∃ L, L = shf wd hg zs mx my k := ⟨_, rfl⟩
      have hlen : L.length ≤ 10000 := by rw [hL, shf_length]; omega
      have HLEN := Lib.hid hlen
      have HI0 := HI.out
      rw [← hL] at HI0 HST
      have HI := Lib.hid HI0
      clear hL hlen HI0
      go_wp2_with fail
      go_quiet ((go_at_call 108; exact quiet_left (HBc.out _)))
      rename Nat => N1
      go_wp2_with fail
      go_quiet ((go_at_call 108; exact quiet_more (HAc.out _)))
      rename Nat => N2
      go_upto_region 7 with fail
      obtain ⟨wz, hwz⟩ : ∃ x, x = (wr.drewN N1).drewN N2 := ⟨_, rfl⟩
      have hIz : AccInv w.heap.size W0 wz (w.heap.size + 1 + 1 + 1) 2 v L := by rw [hwz]; exact (HI.out.drewN N1).drewN N2
      rw [← hwz]
      clear c0 c1 c2 m0 m1 HI hwz
      have HI := Lib.hid hIz
      have sz0 := HSZ.out
      have LF0 : w.heap.size < W0.heap.size := by omega
      have LF1 : w.heap.size < W0.heap.size := by omega
      have LF2 : b < W0.heap.size := by omega
      have NF0 : w.heap.size ≠ w.heap.size + 1 + 1 + 1 := by omega
      have NF1 : w.heap.size ≠ w.heap.size + 1 + 1 + 1 := by omega
      have NF2 : b ≠ w.heap.size + 1 + 1 + 1 := by omega
      have FRC := Lib.hid (HQF.out 2)
      have hF : wz.drew.cell? ⟨w.heap.size, 0, none⟩ = some (.int .i64 wd) ∧ wz.drew.cell? ⟨w.heap.size, 2, none⟩ = some (.slice (some ⟨b, o, none⟩) n cap) ∧ wz.drew.cell? ⟨b, o + s, none⟩ = some (.int .i64 z) :=
        ⟨hIz.same ⟨w.heap.size, 0, none⟩ _ (by simp) HP.out.c0, hIz.same ⟨w.heap.size, 2, none⟩ _ (by simp) HP.out.c2, hIz.same ⟨b, o + s, none⟩ _ (by intro e; injection e with e _ _; omega) CZ.out⟩
      have hG : wz.drew.cell? ⟨w.heap.size + 1 + 1 + 1, 2, none⟩ = some v := hIz.at_
      clear hIz sz0
      refine wp_region_gate (fun w' => w'.cell? ⟨w.heap.size, 0, none⟩ = some (.int .i64 wd) ∧ w'.cell? ⟨w.heap.size, 2, none⟩ = some (.slice (some ⟨b, o, none⟩) n cap) ∧ w'.cell? ⟨b, o + s, none⟩ = some (.int .i64 z)) (fun w' => w'.cell? ⟨w.heap.size + 1 + 1 + 1, 2, none⟩ = some v) 13 (by kernel_rfl) ?_
      refine gate_takeF (i := 0) (v := ?_) rfl (by kernel_rfl) (by kernel_rfl) (by kernel_rfl) (fun _ _ _ h => h) (by decide) ⟨hF, fun _ => hG⟩ (Or.inl ⟨by rfl, ?_⟩) ?_
      rotate_left
      · intro wq hSw; obtain ⟨s0, s1, s2⟩ := hSw; go_simp; rfl
      simp only [Act.put]
      refine gate_takeG (i := 1) (v := ?_) rfl (by kernel_rfl) (by kernel_rfl) (by kernel_rfl) (fun _ _ _ h => h) (by decide) (by kernel_rfl) (by kernel_rfl) ⟨hF, fun _ => hG⟩ (Or.inl ⟨by rfl, ?_⟩) ?_
      rotate_left
      · intro wq hSw; obtain ⟨⟨s0, s1, s2⟩, s3⟩ := hSw; go_simp; rfl
      simp only [Act.put]
      refine gate_takeF (i := 2) (v := ?_) rfl (by kernel_rfl) (by kernel_rfl) (by kernel_rfl) (fun _ _ _ h => h) (by decide) ⟨hF, fun _ => hG⟩ (Or.inl ⟨by rfl, ?_⟩) ?_
      rotate_left
      · intro wq hSw; obtain ⟨s0, s1, s2⟩ := hSw; go_simp; rfl
      simp only [Act.put]
      refine gate_takeF (i := 3) (v := ?_) rfl (by kernel_rfl) (by kernel_rfl) (by kernel_rfl) (fun _ _ _ h => h) (by decide) ⟨hF, fun _ => hG⟩ (Or.inl ⟨by rfl, ?_⟩) ?_
      rotate_left
      · intro wq hSw; obtain ⟨s0, s1, s2⟩ := hSw; go_simp; rfl
      simp only [Act.put]
      refine gate_takeF (i := 4) (v := ?_) rfl (by kernel_rfl) (by kernel_rfl) (by kernel_rfl) (fun _ _ _ h => h) (by decide) ⟨hF, fun _ => hG⟩ (Or.inl ⟨by rfl, ?_⟩) ?_
      rotate_left
      · intro wq hSw; obtain ⟨s0, s1, s2⟩ := hSw; go_simp; rfl
      simp only [Act.put]
      refine gate_takeF (i := 5) (v := ?_) rfl (by kernel_rfl) (by kernel_rfl) (by kernel_rfl) (fun _ _ _ h => h) (by decide) ⟨hF, fun _ => hG⟩ (Or.inl ⟨by rfl, ?_⟩) ?_
      rotate_left
      · intro wq hSw; obtain ⟨s0, s1, s2⟩ := hSw; go_simp; rfl
      simp only [Act.put]
      refine gate_takeF (i := 6) (v := ?_) rfl (by kernel_rfl) (by kernel_rfl) (by kernel_rfl) (fun _ _ _ h => h) (by decide) ⟨hF, fun _ => hG⟩ (Or.inl ⟨by rfl, ?_⟩) ?_
      rotate_left
      · intro wq hSw; obtain ⟨s0, s1, s2⟩ := hSw; go_simp; rfl
      simp only [Act.put]
      refine gate_takeF (i := 7) (v := ?_) rfl (by kernel_rfl) (by kernel_rfl) (by kernel_rfl) (fun _ _ _ h => h) (by decide) ⟨hF, fun _ => hG⟩ (Or.inl ⟨by rfl, ?_⟩) ?_
      rotate_left
      · intro wq hSw; obtain ⟨s0, s1, s2⟩ := hSw; go_simp; rfl
      simp only [Act.put]
      refine gate_takeF (i := 8) (v := ?_) rfl (by kernel_rfl) (by kernel_rfl) (by kernel_rfl) (fun _ _ _ h => h) (by decide) ⟨hF, fun _ => hG⟩ (Or.inl ⟨by rfl, ?_⟩) ?_
      rotate_left
      · intro wq hSw; obtain ⟨s0, s1, s2⟩ := hSw; go_simp; rfl
      simp only [Act.put]
      refine gate_takeF (i := 9) (v := ?_) rfl (by kernel_rfl) (by kernel_rfl) (by kernel_rfl) (fun _ _ _ h => h) (by decide) ⟨hF, fun _ => hG⟩ (Or.inl ⟨by rfl, ?_⟩) ?_
      rotate_left
      · intro wq hSw; obtain ⟨s0, s1, s2⟩ := hSw; go_simp; rfl
      simp only [Act.put]
      refine gate_takeF (i := 10) (v := ?_) rfl (by kernel_rfl) (by kernel_rfl) (by kernel_rfl) (fun _ _ _ h => h) (by decide) ⟨hF, fun _ => hG⟩ (Or.inl ⟨by rfl, ?_⟩) ?_
      rotate_left
      · intro wq hSw; obtain ⟨s0, s1, s2⟩ := hSw; go_simp; rfl
      simp only [Act.put]
      refine gate_takeF (i := 11) (v := ?_) rfl (by kernel_rfl) (by kernel_rfl) (by kernel_rfl) (fun _ _ _ h => h) (by decide) ⟨hF, fun _ => hG⟩ (Or.inl ⟨by rfl, ?_⟩) ?_
      rotate_left
      · intro wq hSw; obtain ⟨s0, s1, s2⟩ := hSw; go_simp; rfl
      simp only [Act.put]
      refine gate_one (i := 12) (by kernel_rfl) rfl (fun K hK => ?_)
      go_simp
      refine hK _ _ ⟨⟨(Lat.alloc _ _).cell_at hF.1, (Lat.alloc _ _).cell_at hF.2.1, (Lat.alloc _ _).cell_at hF.2.2⟩, fun _ => (Lat.alloc _ _).cell_at hG⟩ ?_
      clear hK K
      refine gate_one (i := 13) (by kernel_rfl) rfl (fun K hK => ?_)
      obtain ⟨i0, hi0, hz0, hz1, hz2⟩ := info_int_parts
      have hsl : L.length ≤ 10000 := HLEN.out
      have hszd := HI.out.size
      refine step_append_lies (wz.drew.alloc (.cells #[.int .i64 z] 3)) rfl (.tmp 44) (.tmp 55) 25 rfl W0.heap.size 3 i0 (.int .i64 0) 1 8 Tryd.underlying25 hi0 hz0 hz1 hz2 rfl (by decide) v L.length (L.map (Value.int .i64)) rfl
        (by have := Own.alloc (Own.drew HI.out.own) (.cells #[.int .i64 z] 3); unfold Own at this; rwa [List.length_map] at this) ⟨wz.heap.size, 0, none⟩ 1 1 [.int .i64 z] rfl rfl ?_ ?_ (by decide) ?_ ?_ ?_ _ rfl ?_
      · intro q u' hq
        match q, hq with
        | 0, hq =>
          simp at hq; subst hq
          rw [Addr.add_lit]; exact cell_new (by simp) rfl
      · intro u' hu'; simp at hu'; subst hu'; rfl
      · unfold maxLen; omega
      · omega
      · simp; omega
      intro g c w1' hown hgrow hat hlt'
      have HI2 := HI.out.drewN 1
      have hstep := HI2.step (o := .cells #[.int .i64 z] 3) hgrow hown
      have cc : ∀ (b' i' : Nat) (x : Value), b' < W0.heap.size → wz.drew.cell? ⟨b', i', none⟩ = some x → w1'.cell? ⟨b', i', none⟩ = some x := fun b' i' x hb hx => grown_cell hgrow ((Lat.alloc _ _).cell_at hx) (Own.not HI2.own hb)
      have so : ∀ (b' i' : Nat) (x : Value), b' ≠ w.heap.size + 1 + 1 + 1 → w1'.cell? ⟨b', i', none⟩ = some x → (w1'.setCell ⟨w.heap.size + 1 + 1 + 1, 2, none⟩ (.slice (some ⟨g, 0, none⟩) (L.length + 1) c)).cell? ⟨b', i', none⟩ = some x := fun b' i' x hb hx => by
        rw [World.cell?_setCell_other _ _ _ _ (by intro e; injection e with e1 e2 _; exact hb e1.symm)]; exact hx
      have hcC := cc _ _ _ HI2.hi hG
      have hfC : w1'.frozen? ⟨w.heap.size + 1 + 1 + 1, 2, none⟩ = false := grown_free hgrow (Nat.lt_of_lt_of_le HI2.hi (Nat.le_trans HI2.size (Lat.alloc _ _).size)) ((Lat.alloc _ _).free_at (Nat.lt_of_lt_of_le HI2.hi HI2.size) (HI2.free _ HI2.hi FRC.out)) (Own.not HI2.own HI2.hi)
      have f0 := cc _ _ _ LF0 hF.1
      have f1 := cc _ _ _ LF1 hF.2.1
      have f2 := cc _ _ _ LF2 hF.2.2
      refine hK _ _ (FG.past (by kernel_rfl) ⟨f0, f1, f2⟩) ?_
      clear hK K
      refine gate_takeF (i := 14) (v := ?_) rfl (by kernel_rfl) (by kernel_rfl) (by kernel_rfl) (fun _ _ _ h => h) (by decide) (FG.past (by kernel_rfl) ⟨f0, f1, f2⟩) (Or.inl ⟨by rfl, ?_⟩) ?_
      rotate_left
      · intro wq hSw; go_simp; rfl
      simp only [Act.put]
      refine gate_one (i := 15) (by kernel_rfl) rfl (fun K hK => ?_)
      have HH := Lib.hid hstep
      clear hstep
      go_simp
      refine hK _ _ (FG.past (by kernel_rfl) ⟨so _ _ _ NF0 f0, so _ _ _ NF1 f1, so _ _ _ NF2 f2⟩) ?_
      clear hK K
      refine gate_done (by kernel_rfl) ?_ _
      clear hF hG cc so hcC hfC f0 f1 f2 hgrow hown HI2 hsl
      go_wp2
      go_roundw
      case rel =>
        refine ⟨k + 1, by omega, by go_num, ?_⟩
        show AccSome _ _ _ _ _ (shf wd hg zs mx my (k + 1))
        rw [HST.out]; exact ⟨_, HH.out⟩
      case measure => simp [intOf]; omega
    · obtain rfl : k = n := by omega
      have hI := HI.out
      have r0 := hI.same ⟨w.heap.size + 1 + 1, 0, none⟩ _ (by simp) HR.out.c0
      have r1 := hI.same ⟨w.heap.size + 1 + 1, 1, none⟩ _ (by simp) HR.out.c1
      have r2 := hI.same ⟨w.heap.size + 1 + 1, 2, none⟩ _ (by simp) HR.out.c2
      have sz0 := HSZ.out
      have f0 := hI.free ⟨w.heap.size + 1 + 1, 0, none⟩ (by simp; omega) (HRF.out 0)
      have f1 := hI.free ⟨w.heap.size + 1 + 1, 1, none⟩ (by simp; omega) (HRF.out 1)
      have f2 := hI.free ⟨w.heap.size + 1 + 1, 2, none⟩ (by simp; omega) (HRF.out 2)
      have q0 := hI.same ⟨w.heap.size + 1 + 1 + 1, 0, none⟩ _ (by simp) HQ.out.c0
      have q1 := hI.same ⟨w.heap.size + 1 + 1 + 1, 1, none⟩ _ (by simp) HQ.out.c1
      obtain ⟨ra, rc, rfl, hrat⟩ := OwnInts.sliceN hI.own HWF.out (shf_length _ _ _ _ _ _)
      have q2 := hI.at_
      have Q := Lib.hid (three_set r0 r1 r2 (.int .i64 wd) (.int .i64 hg) (.slice ra k rc))
      have HLT := Lib.hid (lat_three (hI.lat HL0.out) (show w.heap.size ≤ w.heap.size + 1 + 1 by omega) (.int .i64 wd) (.int .i64 hg) (.slice ra k rc))
      have HII := Lib.hid (ints_three (g := w.heap.size + 1 + 1) hrat (own_ne hI.own (by omega)) (.int .i64 wd) (.int .i64 hg) (.slice ra k rc))
      have FR := Lib.hid (show Fresh w ra k from fun g hg => own_ne hI.own (by omega))
      have FR := Lib.hid (show Fresh w ra k from fun g hg => own_ne hI.own (by omega))
      have FR := Lib.hid (show Fresh w ra k from fun g hg => own_ne hI.own (by omega))
      clear hI sz0 hrat HI
      go_wp2
      exact bodyPost_ret (v := picV wd hg ra k rc) (by simp [results, Tryd.results110, go_sem, Q.out.1, Q.out.2.1, Q.out.2.2]) rfl ⟨ra, rc, rfl, HII.out, FR.out, HLT.out⟩
end Go.Proofs.YtooepflfofgnnaaDoor
