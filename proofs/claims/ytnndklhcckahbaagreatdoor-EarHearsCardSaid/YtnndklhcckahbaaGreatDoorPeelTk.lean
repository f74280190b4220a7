/- The contract of (*peel.Peeler).Take. -/
import Derived.Test.YtnndklhcckahbaaGreatDoorPeelT
namespace Go.Proofs.YtnndklhcckahbaaGreatDoor
open Go.ChangeShapes Go.WideShapes Go.ChangeAt Go.RowKit

/-- what is wrong with a drop that is taken -/
def tkE (k m : Nat) (T : List Int) (s : Int) (t : Bts) : Nat := if drpE k m s (S t) ≠ 0 then drpE k m s (S t) else if s ∈ T then 7 else if 60 ≤ T.length then 4 else 0

set_option maxHeartbeats 4000000 in
set_option maxRecDepth 100000 in
theorem take_bad (G : Nat → Prop) (p k m : Nat) (K : Kn) (T : List Int) (L : List Wt) (s : Int) (t : Bts) (w : World) (h : PeelO G p k m K T L w) (hE : tkE k m T s t ≠ 0) :
    Calls Tryz.prog 19 #[.pointer (some ⟨p, 0, none⟩), .agg #[.int .i64 s, .string (S t)]] w fun e w' => e = .returned (.tuple #[.slice none 0 0, eno (tkE k m T s t)]) ∧ Lat w w' := by
  obtain ⟨kb, tb, a, cap, h⟩ := h
  have hck := fun W => dchk_tells k m s (S t) W
  by_cases h1 : drpE k m s (S t) = 0
  · have h2 := drpE_zero h1
    rw [h1, errv_zero rfl] at hck
    have HCK : Hid (∀ W, Calls Tryz.prog 16 #[.int .i64 k, .int .i64 m, .agg #[.int .i64 s, .string (S t)]] W fun e w' => e = .returned .nilIface ∧ Lat W w') := hck
    have HH := Lib.hid h
    have htl := h.tk.most
    obtain ⟨n, hn⟩ : ∃ n, n = T.length := ⟨_, rfl⟩
    by_cases hs : s ∈ T
    · have e1 : tkE k m T s t = 7 := by unfold tkE; rw [if_neg (fun e => e h1), if_pos hs]
      rw [e1]
      have HS := Lib.hid hs; have H2 := Lib.hid h2
      clear h hck h1 h2 hE hs htl hn e1
      go_enter Tryz.func19, Tryz.ntmps19
      go_upto_region 1 with fail
      obtain ⟨X, hX⟩ : ∃ X, X = w.heap.size := ⟨_, rfl⟩
      obtain ⟨W0, hW0⟩ : ∃ W0, W0 = w.alloc (.cells #[.int .i64 s, .string (S t)] 33) := ⟨_, rfl⟩
      have hb0 := BX.new w (.int .i64 s) (.string (S t)) 33
      rw [← hW0] at hb0
      rw [← hW0]
      rw [← hX] at hb0
      rw [← hX]
      have HX : Hid (X = w.heap.size) := hX
      clear hW0 hX
      have hF : W0.drew.cell? ⟨p, 0, none⟩ = some (.int .i64 k) ∧ W0.drew.cell? ⟨p, 1, none⟩ = some (.int .i64 m) ∧ W0.drew.cell? ⟨X, 0, none⟩ = some (.int .i64 s) ∧ W0.drew.cell? ⟨X, 1, none⟩ = some (.string (S t)) := ⟨hb0.lat.cell_at HH.out.c0, hb0.lat.cell_at HH.out.c1, hb0.c0, hb0.c1⟩
      have HB0 := Lib.hid (hb0.keep (Lat.drew W0))
      clear hb0
      refine wp_region_gate (fun w' => w'.cell? ⟨p, 0, none⟩ = some (.int .i64 k) ∧ w'.cell? ⟨p, 1, none⟩ = some (.int .i64 m) ∧ w'.cell? ⟨X, 0, none⟩ = some (.int .i64 s) ∧ w'.cell? ⟨X, 1, none⟩ = some (.string (S t))) (fun _ => True) 1000 (by kernel_rfl) ?_
      refine gate_takeF (i := 0) (v := ?_) rfl (by kernel_rfl) (by kernel_rfl) (by kernel_rfl) (fun _ _ _ h => h) (by decide) ⟨hF, fun _ => trivial⟩ (Or.inl ⟨by rfl, ?_⟩) ?_
      rotate_left
      · intro wq hSw; obtain ⟨s0, s1, s2, s3⟩ := hSw; go_simp; rfl
      simp only [Act.put]
      refine gate_takeF (i := 1) (v := ?_) rfl (by kernel_rfl) (by kernel_rfl) (by kernel_rfl) (fun _ _ _ h => h) (by decide) ⟨hF, fun _ => trivial⟩ (Or.inl ⟨by rfl, ?_⟩) ?_
      rotate_left
      · intro wq hSw; obtain ⟨s0, s1, s2, s3⟩ := hSw; go_simp; rfl
      simp only [Act.put]
      refine gate_takeF (i := 2) (v := ?_) rfl (by kernel_rfl) (by kernel_rfl) (by kernel_rfl) (fun _ _ _ h => h) (by decide) ⟨hF, fun _ => trivial⟩ (Or.inl ⟨by rfl, ?_⟩) ?_
      rotate_left
      · intro wq hSw; obtain ⟨s0, s1, s2, s3⟩ := hSw; go_simp; rfl
      simp only [Act.put]
      refine gate_takeF (i := 3) (v := ?_) rfl (by kernel_rfl) (by kernel_rfl) (by kernel_rfl) (fun _ _ _ h => h) (by decide) ⟨hF, fun _ => trivial⟩ (Or.inl ⟨by rfl, ?_⟩) ?_
      rotate_left
      · intro wq hSw; obtain ⟨s0, s1, s2, s3⟩ := hSw; go_simp; rfl
      simp only [Act.put]
      refine gate_takeF (i := 4) (v := ?_) rfl (by kernel_rfl) (by kernel_rfl) (by kernel_rfl) (fun _ _ _ h => h) (by decide) ⟨hF, fun _ => trivial⟩ (Or.inl ⟨by rfl, ?_⟩) ?_
      rotate_left
      · intro wq hSw; obtain ⟨s0, s1, s2, s3⟩ := hSw; go_simp; rfl
      simp only [Act.put]
      refine gate_takeF (i := 5) (v := ?_) rfl (by kernel_rfl) (by kernel_rfl) (by kernel_rfl) (fun _ _ _ h => h) (by decide) ⟨hF, fun _ => trivial⟩ (Or.inl ⟨by rfl, ?_⟩) ?_
      rotate_left
      · intro wq hSw; obtain ⟨s0, s1, s2, s3⟩ := hSw; go_simp; rfl
      simp only [Act.put]
      refine gate_takeF (i := 6) (v := ?_) rfl (by kernel_rfl) (by kernel_rfl) (by kernel_rfl) (fun _ _ _ h => h) (by decide) ⟨hF, fun _ => trivial⟩ (Or.inl ⟨by rfl, ?_⟩) ?_
      rotate_left
      · intro wq hSw; obtain ⟨s0, s1, s2, s3⟩ := hSw; go_simp; rfl
      simp only [Act.put]
      refine gate_takeF (i := 7) (v := ?_) rfl (by kernel_rfl) (by kernel_rfl) (by kernel_rfl) (fun _ _ _ h => h) (by decide) ⟨hF, fun _ => trivial⟩ (Or.inl ⟨by rfl, ?_⟩) ?_
      rotate_left
      · intro wq hSw; obtain ⟨s0, s1, s2, s3⟩ := hSw; go_simp; rfl
      simp only [Act.put]
      refine gate_takeF (i := 8) (v := ?_) rfl (by kernel_rfl) (by kernel_rfl) (by kernel_rfl) (fun _ _ _ h => h) (by decide) ⟨hF, fun _ => trivial⟩ (Or.inl ⟨by rfl, ?_⟩) ?_
      rotate_left
      · intro wq hSw; obtain ⟨s0, s1, s2, s3⟩ := hSw; go_simp; rfl
      simp only [Act.put]
      refine gate_one (i := 9) (by kernel_rfl) rfl (fun K hK => ?_)
      go_simp
      refine (HCK.out _).mono ?_
      rintro e w5 ⟨rfl, hb5⟩
      have hF' : w5.cell? ⟨p, 0, none⟩ = some (.int .i64 k) ∧ w5.cell? ⟨p, 1, none⟩ = some (.int .i64 m) ∧ w5.cell? ⟨X, 0, none⟩ = some (.int .i64 s) ∧ w5.cell? ⟨X, 1, none⟩ = some (.string (S t)) := ⟨hb5.cell_at hF.1, hb5.cell_at hF.2.1, hb5.cell_at hF.2.2.1, hb5.cell_at hF.2.2.2⟩
      refine hK _ _ ⟨hF', fun _ => trivial⟩ ?_
      clear hK K hF
      have hF := hF'
      clear hF'
      refine gate_takeF (i := 10) (v := ?_) rfl (by kernel_rfl) (by kernel_rfl) (by kernel_rfl) (fun _ _ _ h => h) (by decide) ⟨hF, fun _ => trivial⟩ (Or.inl ⟨by rfl, ?_⟩) ?_
      rotate_left
      · intro wq hSw; obtain ⟨s0, s1, s2, s3⟩ := hSw; go_simp; rfl
      simp only [Act.put]
      refine gate_done (by kernel_rfl) ?_ _
      have HB5 := Lib.hid (HB0.out.keep hb5)
      clear hb5 HB0 hF
      have hlook : ∀ j, (Instr.lookup 79 (.map (some tb)) (.int .i64 s) false).run Tryz.prog (w5.drewN j) = .ok (.bool true) (w5.drewN j) := fun j => by
        have := (HH.out.tk.keep (HB5.out.lat.trans (Lat.drewN w5 j))).look s H2.out.2.2.2.2.1 H2.out.2.2.2.2.2.1
        rw [decide_eq_true HS.out] at this; exact this
      have c3 := HB5.out.lat.cell_at HH.out.c3
      have x0 := HB5.out.c0
      go_upto_region 4 with fail
      go_quiet (fail)
      go_wp2
      go_ret2
      exact ⟨rfl, HB5.out.lat.trans (Lat.drewN _ _)⟩
    · have hfull : 60 ≤ T.length := by
        rcases Nat.lt_or_ge T.length 60 with h3 | h3
        · exact absurd (by unfold tkE; rw [if_neg (fun e => e h1), if_neg hs, if_neg (by omega)]) hE
        · exact h3
      have e1 : tkE k m T s t = 4 := by unfold tkE; rw [if_neg (fun e => e h1), if_neg hs, if_pos hfull]
      rw [e1]
      have d60 : decide ((60 : Int) ≤ (n : Int)) = true := decide_eq_true (by omega)
      have HS := Lib.hid hs; have H2 := Lib.hid h2; have HN := Lib.hid hn
      clear h hck h1 h2 hE hs htl hn e1 hfull
      go_enter Tryz.func19, Tryz.ntmps19
      go_upto_region 1 with fail
      obtain ⟨X, hX⟩ : ∃ X, X = w.heap.size := ⟨_, rfl⟩
      obtain ⟨W0, hW0⟩ : ∃ W0, W0 = w.alloc (.cells #[.int .i64 s, .string (S t)] 33) := ⟨_, rfl⟩
      have hb0 := BX.new w (.int .i64 s) (.string (S t)) 33
      rw [← hW0] at hb0
      rw [← hW0]
      rw [← hX] at hb0
      rw [← hX]
      have HX : Hid (X = w.heap.size) := hX
      clear hW0 hX
      have hF : W0.drew.cell? ⟨p, 0, none⟩ = some (.int .i64 k) ∧ W0.drew.cell? ⟨p, 1, none⟩ = some (.int .i64 m) ∧ W0.drew.cell? ⟨X, 0, none⟩ = some (.int .i64 s) ∧ W0.drew.cell? ⟨X, 1, none⟩ = some (.string (S t)) := ⟨hb0.lat.cell_at HH.out.c0, hb0.lat.cell_at HH.out.c1, hb0.c0, hb0.c1⟩
      have HB0 := Lib.hid (hb0.keep (Lat.drew W0))
      clear hb0
      refine wp_region_gate (fun w' => w'.cell? ⟨p, 0, none⟩ = some (.int .i64 k) ∧ w'.cell? ⟨p, 1, none⟩ = some (.int .i64 m) ∧ w'.cell? ⟨X, 0, none⟩ = some (.int .i64 s) ∧ w'.cell? ⟨X, 1, none⟩ = some (.string (S t))) (fun _ => True) 1000 (by kernel_rfl) ?_
      refine gate_takeF (i := 0) (v := ?_) rfl (by kernel_rfl) (by kernel_rfl) (by kernel_rfl) (fun _ _ _ h => h) (by decide) ⟨hF, fun _ => trivial⟩ (Or.inl ⟨by rfl, ?_⟩) ?_
      rotate_left
      · intro wq hSw; obtain ⟨s0, s1, s2, s3⟩ := hSw; go_simp; rfl
      simp only [Act.put]
      refine gate_takeF (i := 1) (v := ?_) rfl (by kernel_rfl) (by kernel_rfl) (by kernel_rfl) (fun _ _ _ h => h) (by decide) ⟨hF, fun _ => trivial⟩ (Or.inl ⟨by rfl, ?_⟩) ?_
      rotate_left
      · intro wq hSw; obtain ⟨s0, s1, s2, s3⟩ := hSw; go_simp; rfl
      simp only [Act.put]
      refine gate_takeF (i := 2) (v := ?_) rfl (by kernel_rfl) (by kernel_rfl) (by kernel_rfl) (fun _ _ _ h => h) (by decide) ⟨hF, fun _ => trivial⟩ (Or.inl ⟨by rfl, ?_⟩) ?_
      rotate_left
      · intro wq hSw; obtain ⟨s0, s1, s2, s3⟩ := hSw; go_simp; rfl
      simp only [Act.put]
      refine gate_takeF (i := 3) (v := ?_) rfl (by kernel_rfl) (by kernel_rfl) (by kernel_rfl) (fun _ _ _ h => h) (by decide) ⟨hF, fun _ => trivial⟩ (Or.inl ⟨by rfl, ?_⟩) ?_
      rotate_left
      · intro wq hSw; obtain ⟨s0, s1, s2, s3⟩ := hSw; go_simp; rfl
      simp only [Act.put]
      refine gate_takeF (i := 4) (v := ?_) rfl (by kernel_rfl) (by kernel_rfl) (by kernel_rfl) (fun _ _ _ h => h) (by decide) ⟨hF, fun _ => trivial⟩ (Or.inl ⟨by rfl, ?_⟩) ?_
      rotate_left
      · intro wq hSw; obtain ⟨s0, s1, s2, s3⟩ := hSw; go_simp; rfl
      simp only [Act.put]
      refine gate_takeF (i := 5) (v := ?_) rfl (by kernel_rfl) (by kernel_rfl) (by kernel_rfl) (fun _ _ _ h => h) (by decide) ⟨hF, fun _ => trivial⟩ (Or.inl ⟨by rfl, ?_⟩) ?_
      rotate_left
      · intro wq hSw; obtain ⟨s0, s1, s2, s3⟩ := hSw; go_simp; rfl
      simp only [Act.put]
      refine gate_takeF (i := 6) (v := ?_) rfl (by kernel_rfl) (by kernel_rfl) (by kernel_rfl) (fun _ _ _ h => h) (by decide) ⟨hF, fun _ => trivial⟩ (Or.inl ⟨by rfl, ?_⟩) ?_
      rotate_left
      · intro wq hSw; obtain ⟨s0, s1, s2, s3⟩ := hSw; go_simp; rfl
      simp only [Act.put]
      refine gate_takeF (i := 7) (v := ?_) rfl (by kernel_rfl) (by kernel_rfl) (by kernel_rfl) (fun _ _ _ h => h) (by decide) ⟨hF, fun _ => trivial⟩ (Or.inl ⟨by rfl, ?_⟩) ?_
      rotate_left
      · intro wq hSw; obtain ⟨s0, s1, s2, s3⟩ := hSw; go_simp; rfl
      simp only [Act.put]
      refine gate_takeF (i := 8) (v := ?_) rfl (by kernel_rfl) (by kernel_rfl) (by kernel_rfl) (fun _ _ _ h => h) (by decide) ⟨hF, fun _ => trivial⟩ (Or.inl ⟨by rfl, ?_⟩) ?_
      rotate_left
      · intro wq hSw; obtain ⟨s0, s1, s2, s3⟩ := hSw; go_simp; rfl
      simp only [Act.put]
      refine gate_one (i := 9) (by kernel_rfl) rfl (fun K hK => ?_)
      go_simp
      refine (HCK.out _).mono ?_
      rintro e w5 ⟨rfl, hb5⟩
      have hF' : w5.cell? ⟨p, 0, none⟩ = some (.int .i64 k) ∧ w5.cell? ⟨p, 1, none⟩ = some (.int .i64 m) ∧ w5.cell? ⟨X, 0, none⟩ = some (.int .i64 s) ∧ w5.cell? ⟨X, 1, none⟩ = some (.string (S t)) := ⟨hb5.cell_at hF.1, hb5.cell_at hF.2.1, hb5.cell_at hF.2.2.1, hb5.cell_at hF.2.2.2⟩
      refine hK _ _ ⟨hF', fun _ => trivial⟩ ?_
      clear hK K hF
      have hF := hF'
      clear hF'
      refine gate_takeF (i := 10) (v := ?_) rfl (by kernel_rfl) (by kernel_rfl) (by kernel_rfl) (fun _ _ _ h => h) (by decide) ⟨hF, fun _ => trivial⟩ (Or.inl ⟨by rfl, ?_⟩) ?_
      rotate_left
      · intro wq hSw; obtain ⟨s0, s1, s2, s3⟩ := hSw; go_simp; rfl
      simp only [Act.put]
      refine gate_done (by kernel_rfl) ?_ _
      have HB5 := Lib.hid (HB0.out.keep hb5)
      clear hb5 HB0 hF
      have hlook : ∀ j, (Instr.lookup 79 (.map (some tb)) (.int .i64 s) false).run Tryz.prog (w5.drewN j) = .ok (.bool false) (w5.drewN j) := fun j => by
        have := (HH.out.tk.keep (HB5.out.lat.trans (Lat.drewN w5 j))).look s H2.out.2.2.2.2.1 H2.out.2.2.2.2.2.1
        rw [decide_eq_false HS.out] at this; exact this
      have hlen : ∀ j ty, (Builtin.len_ #[79] ty #[.map (some tb)]).run Tryz.prog (w5.drewN j) = .ok (.int .i64 n) (w5.drewN j) := fun j ty => by
        have := (HH.out.tk.keep (HB5.out.lat.trans (Lat.drewN w5 j))).len ty
        rw [← HN.out] at this; exact this
      have c3 := HB5.out.lat.cell_at HH.out.c3
      have x0 := HB5.out.c0
      go_upto_region 4 with fail
      go_quiet (fail)
      go_wp2
      go_ret2
      exact ⟨rfl, HB5.out.lat.trans (Lat.drewN _ _)⟩
  · have e1 : tkE k m T s t = drpE k m s (S t) := by unfold tkE; rw [if_pos h1]
    rw [e1]
    rw [errv_pos h1] at hck
    obtain ⟨E, hEE⟩ : ∃ E, E = drpE k m s (S t) := ⟨_, rfl⟩
    rw [← hEE] at hck ⊢
    have HCK : Hid (∀ W, Calls Tryz.prog 16 #[.int .i64 k, .int .i64 m, .agg #[.int .i64 s, .string (S t)]] W fun e w' => e = .returned (eno E) ∧ Lat W w') := hck
    have HH := Lib.hid h
    clear h hck h1 hE hEE e1
    go_enter Tryz.func19, Tryz.ntmps19
    go_upto_region 1 with fail
    obtain ⟨X, hX⟩ : ∃ X, X = w.heap.size := ⟨_, rfl⟩
    obtain ⟨W0, hW0⟩ : ∃ W0, W0 = w.alloc (.cells #[.int .i64 s, .string (S t)] 33) := ⟨_, rfl⟩
    have hb0 := BX.new w (.int .i64 s) (.string (S t)) 33
    rw [← hW0] at hb0
    rw [← hW0]
    rw [← hX] at hb0
    rw [← hX]
    have HX : Hid (X = w.heap.size) := hX
    clear hW0 hX
    have hF : W0.drew.cell? ⟨p, 0, none⟩ = some (.int .i64 k) ∧ W0.drew.cell? ⟨p, 1, none⟩ = some (.int .i64 m) ∧ W0.drew.cell? ⟨X, 0, none⟩ = some (.int .i64 s) ∧ W0.drew.cell? ⟨X, 1, none⟩ = some (.string (S t)) := ⟨hb0.lat.cell_at HH.out.c0, hb0.lat.cell_at HH.out.c1, hb0.c0, hb0.c1⟩
    have HB0 := Lib.hid (hb0.keep (Lat.drew W0))
    clear hb0
    refine wp_region_gate (fun w' => w'.cell? ⟨p, 0, none⟩ = some (.int .i64 k) ∧ w'.cell? ⟨p, 1, none⟩ = some (.int .i64 m) ∧ w'.cell? ⟨X, 0, none⟩ = some (.int .i64 s) ∧ w'.cell? ⟨X, 1, none⟩ = some (.string (S t))) (fun _ => True) 1000 (by kernel_rfl) ?_
    refine gate_takeF (i := 0) (v := ?_) rfl (by kernel_rfl) (by kernel_rfl) (by kernel_rfl) (fun _ _ _ h => h) (by decide) ⟨hF, fun _ => trivial⟩ (Or.inl ⟨by rfl, ?_⟩) ?_
    rotate_left
    · intro wq hSw; obtain ⟨s0, s1, s2, s3⟩ := hSw; go_simp; rfl
    simp only [Act.put]
    refine gate_takeF (i := 1) (v := ?_) rfl (by kernel_rfl) (by kernel_rfl) (by kernel_rfl) (fun _ _ _ h => h) (by decide) ⟨hF, fun _ => trivial⟩ (Or.inl ⟨by rfl, ?_⟩) ?_
    rotate_left
    · intro wq hSw; obtain ⟨s0, s1, s2, s3⟩ := hSw; go_simp; rfl
    simp only [Act.put]
    refine gate_takeF (i := 2) (v := ?_) rfl (by kernel_rfl) (by kernel_rfl) (by kernel_rfl) (fun _ _ _ h => h) (by decide) ⟨hF, fun _ => trivial⟩ (Or.inl ⟨by rfl, ?_⟩) ?_
    rotate_left
    · intro wq hSw; obtain ⟨s0, s1, s2, s3⟩ := hSw; go_simp; rfl
    simp only [Act.put]
    refine gate_takeF (i := 3) (v := ?_) rfl (by kernel_rfl) (by kernel_rfl) (by kernel_rfl) (fun _ _ _ h => h) (by decide) ⟨hF, fun _ => trivial⟩ (Or.inl ⟨by rfl, ?_⟩) ?_
    rotate_left
    · intro wq hSw; obtain ⟨s0, s1, s2, s3⟩ := hSw; go_simp; rfl
    simp only [Act.put]
    refine gate_takeF (i := 4) (v := ?_) rfl (by kernel_rfl) (by kernel_rfl) (by kernel_rfl) (fun _ _ _ h => h) (by decide) ⟨hF, fun _ => trivial⟩ (Or.inl ⟨by rfl, ?_⟩) ?_
    rotate_left
    · intro wq hSw; obtain ⟨s0, s1, s2, s3⟩ := hSw; go_simp; rfl
    simp only [Act.put]
    refine gate_takeF (i := 5) (v := ?_) rfl (by kernel_rfl) (by kernel_rfl) (by kernel_rfl) (fun _ _ _ h => h) (by decide) ⟨hF, fun _ => trivial⟩ (Or.inl ⟨by rfl, ?_⟩) ?_
    rotate_left
    · intro wq hSw; obtain ⟨s0, s1, s2, s3⟩ := hSw; go_simp; rfl
    simp only [Act.put]
    refine gate_takeF (i := 6) (v := ?_) rfl (by kernel_rfl) (by kernel_rfl) (by kernel_rfl) (fun _ _ _ h => h) (by decide) ⟨hF, fun _ => trivial⟩ (Or.inl ⟨by rfl, ?_⟩) ?_
    rotate_left
    · intro wq hSw; obtain ⟨s0, s1, s2, s3⟩ := hSw; go_simp; rfl
    simp only [Act.put]
    refine gate_takeF (i := 7) (v := ?_) rfl (by kernel_rfl) (by kernel_rfl) (by kernel_rfl) (fun _ _ _ h => h) (by decide) ⟨hF, fun _ => trivial⟩ (Or.inl ⟨by rfl, ?_⟩) ?_
    rotate_left
    · intro wq hSw; obtain ⟨s0, s1, s2, s3⟩ := hSw; go_simp; rfl
    simp only [Act.put]
    refine gate_takeF (i := 8) (v := ?_) rfl (by kernel_rfl) (by kernel_rfl) (by kernel_rfl) (fun _ _ _ h => h) (by decide) ⟨hF, fun _ => trivial⟩ (Or.inl ⟨by rfl, ?_⟩) ?_
    rotate_left
    · intro wq hSw; obtain ⟨s0, s1, s2, s3⟩ := hSw; go_simp; rfl
    simp only [Act.put]
    refine gate_one (i := 9) (by kernel_rfl) rfl (fun K hK => ?_)
    go_simp
    refine (HCK.out _).mono ?_
    rintro e w5 ⟨rfl, hb5⟩
    have hF' : w5.cell? ⟨p, 0, none⟩ = some (.int .i64 k) ∧ w5.cell? ⟨p, 1, none⟩ = some (.int .i64 m) ∧ w5.cell? ⟨X, 0, none⟩ = some (.int .i64 s) ∧ w5.cell? ⟨X, 1, none⟩ = some (.string (S t)) := ⟨hb5.cell_at hF.1, hb5.cell_at hF.2.1, hb5.cell_at hF.2.2.1, hb5.cell_at hF.2.2.2⟩
    refine hK _ _ ⟨hF', fun _ => trivial⟩ ?_
    clear hK K hF
    have hF := hF'
    clear hF'
    refine gate_takeF (i := 10) (v := ?_) rfl (by kernel_rfl) (by kernel_rfl) (by kernel_rfl) (fun _ _ _ h => h) (by decide) ⟨hF, fun _ => trivial⟩ (Or.inl ⟨by rfl, ?_⟩) ?_
    rotate_left
    · intro wq hSw; obtain ⟨s0, s1, s2, s3⟩ := hSw; go_simp; rfl
    simp only [Act.put]
    refine gate_done (by kernel_rfl) ?_ _
    have HB5 := Lib.hid (HB0.out.keep hb5)
    clear hb5 HB0 hF
    go_wp2
    go_ret2
    exact ⟨rfl, HB5.out.lat⟩

set_option maxHeartbeats 4000000 in
set_option maxRecDepth 100000 in
theorem take_ok (G : Nat → Prop) (p k m : Nat) (K : Kn) (T : List Int) (L : List Wt) (s : Int) (t : Bts) (w : World) (h : PeelO G p k m K T L w) (hE : tkE k m T s t = 0) :
    Calls Tryz.prog 19 #[.pointer (some ⟨p, 0, none⟩), .agg #[.int .i64 s, .string (S t)]] w fun e w' => ∃ oa oc, e = .returned (.tuple #[.slice oa (lrnO k K (L ++ [(setZ k s.toNat, t)])).length oc, .nilIface]) ∧ IntsAt w' oa (lrnO k K (L ++ [(setZ k s.toNat, t)])).length oc (lrnO k K (L ++ [(setZ k s.toNat, t)])) ∧
      PeelStep G p k m (lrnK k K (L ++ [(setZ k s.toNat, t)])) (T ++ [s]) (lrnL k K (L ++ [(setZ k s.toNat, t)])) w w' := by
  obtain ⟨kb, tb, a, cap, h⟩ := h
  have hck := fun W => dchk_tells k m s (S t) W
  have h1 : drpE k m s (S t) = 0 := by
    unfold tkE at hE
    split at hE
    · exact absurd hE (by assumption)
    · omega
  have hs : s ∉ T := fun hs => by
    unfold tkE at hE
    rw [if_neg (fun e => e h1), if_pos hs] at hE
    cases hE
  have hT : T.length < 60 := by
    unfold tkE at hE
    rw [if_neg (fun e => e h1), if_neg hs] at hE
    split at hE <;> omega
  have h2 := drpE_zero h1
  obtain ⟨sn, rfl⟩ : ∃ sn : Nat, s = sn := ⟨s.toNat, by omega⟩
  have hk1 : 1 ≤ k := by omega
  have hk16 : k ≤ 16 := by omega
  have hm8 : m ≤ 8 := by omega
  have hs1 : 1 ≤ sn := by omega
  have hs2 : sn ≤ 10000 := by omega
  have htm : t.length = m := by
    have : ((S t).size : Int) = m := h2.2.2.2.2.2.2
    have e : (S t).size = t.length := rfl
    omega
  rw [h1, errv_zero rfl] at hck
  have hzs := setZ_length k sn hk1 hk16 hs2
  have hzl := setZ_lt k sn hk1 hs1
  have hok : WOk k m K (L ++ [(setZ k sn, t)]) := by
    have h0 := h.ok
    refine ⟨h0.kn, fun x hx => ?_, fun x hx => ?_, fun x hx => ?_⟩
    all_goals (rcases List.mem_append.1 hx with hx | hx)
    · exact h0.of x hx
    · rw [List.mem_singleton.1 hx]; exact hzl
    · exact h0.len x hx
    · rw [List.mem_singleton.1 hx]; show (setZ k sn).length ≤ 16; omega
    · exact h0.data x hx
    · rw [List.mem_singleton.1 hx]; exact htm
  have HCK : Hid (∀ W, Calls Tryz.prog 16 #[.int .i64 k, .int .i64 m, .agg #[.int .i64 (sn : Int), .string (S t)]] W fun e w' => e = .returned .nilIface ∧ Lat W w') := hck
  obtain ⟨n, hn⟩ : ∃ n, n = T.length := ⟨_, rfl⟩
  obtain ⟨ln, hln⟩ : ∃ ln, ln = L.length := ⟨_, rfl⟩
  have d60 : decide ((60 : Int) ≤ (n : Int)) = false := decide_eq_false (by omega)
  have HH := Lib.hid h; have HS := Lib.hid hs; have HTL := Lib.hid hT; have HN := Lib.hid hn; have HLN := Lib.hid hln; have HOK := Lib.hid hok
  rw [Int.toNat_natCast]
  obtain ⟨zs, hzsd⟩ : ∃ zs, zs = setZ k sn := ⟨_, rfl⟩
  have HZS := Lib.hid hzsd
  rw [← hzsd]
  obtain ⟨s, hsd⟩ : ∃ s : Int, s = (sn : Int) := ⟨_, rfl⟩
  have HSD := Lib.hid hsd
  rw [← hsd] at HCK
  rw [← hsd]
  have HS1 : Hid (1 ≤ s ∧ s ≤ 10000) := ⟨by omega, by omega⟩
  clear h hck h1 h2 hE hs hT htm hzs hzl hok hn hln hzsd hsd
  go_enter Tryz.func19, Tryz.ntmps19
  go_upto_region 1 with fail
  obtain ⟨X, hX⟩ : ∃ X, X = w.heap.size := ⟨_, rfl⟩
  obtain ⟨W0, hW0⟩ : ∃ W0, W0 = w.alloc (.cells #[.int .i64 s, .string (S t)] 33) := ⟨_, rfl⟩
  have hb0 := BX.new w (.int .i64 s) (.string (S t)) 33
  rw [← hW0] at hb0
  rw [← hW0]
  rw [← hX] at hb0
  rw [← hX]
  have HX : Hid (X = w.heap.size) := hX
  clear hW0 hX
  have hF : W0.drew.cell? ⟨p, 0, none⟩ = some (.int .i64 k) ∧ W0.drew.cell? ⟨p, 1, none⟩ = some (.int .i64 m) ∧ W0.drew.cell? ⟨X, 0, none⟩ = some (.int .i64 s) ∧ W0.drew.cell? ⟨X, 1, none⟩ = some (.string (S t)) := ⟨hb0.lat.cell_at HH.out.c0, hb0.lat.cell_at HH.out.c1, hb0.c0, hb0.c1⟩
  have HB0 := Lib.hid (hb0.keep (Lat.drew W0))
  clear hb0
  refine wp_region_gate (fun w' => w'.cell? ⟨p, 0, none⟩ = some (.int .i64 k) ∧ w'.cell? ⟨p, 1, none⟩ = some (.int .i64 m) ∧ w'.cell? ⟨X, 0, none⟩ = some (.int .i64 s) ∧ w'.cell? ⟨X, 1, none⟩ = some (.string (S t))) (fun _ => True) 1000 (by kernel_rfl) ?_
  refine gate_takeF (i := 0) (v := ?_) rfl (by kernel_rfl) (by kernel_rfl) (by kernel_rfl) (fun _ _ _ h => h) (by decide) ⟨hF, fun _ => trivial⟩ (Or.inl ⟨by rfl, ?_⟩) ?_
  rotate_left
  · intro wq hSw; obtain ⟨s0, s1, s2, s3⟩ := hSw; go_simp; rfl
  simp only [Act.put]
  refine gate_takeF (i := 1) (v := ?_) rfl (by kernel_rfl) (by kernel_rfl) (by kernel_rfl) (fun _ _ _ h => h) (by decide) ⟨hF, fun _ => trivial⟩ (Or.inl ⟨by rfl, ?_⟩) ?_
  rotate_left
  · intro wq hSw; obtain ⟨s0, s1, s2, s3⟩ := hSw; go_simp; rfl
  simp only [Act.put]
  refine gate_takeF (i := 2) (v := ?_) rfl (by kernel_rfl) (by kernel_rfl) (by kernel_rfl) (fun _ _ _ h => h) (by decide) ⟨hF, fun _ => trivial⟩ (Or.inl ⟨by rfl, ?_⟩) ?_
  rotate_left
  · intro wq hSw; obtain ⟨s0, s1, s2, s3⟩ := hSw; go_simp; rfl
  simp only [Act.put]
  refine gate_takeF (i := 3) (v := ?_) rfl (by kernel_rfl) (by kernel_rfl) (by kernel_rfl) (fun _ _ _ h => h) (by decide) ⟨hF, fun _ => trivial⟩ (Or.inl ⟨by rfl, ?_⟩) ?_
  rotate_left
  · intro wq hSw; obtain ⟨s0, s1, s2, s3⟩ := hSw; go_simp; rfl
  simp only [Act.put]
  refine gate_takeF (i := 4) (v := ?_) rfl (by kernel_rfl) (by kernel_rfl) (by kernel_rfl) (fun _ _ _ h => h) (by decide) ⟨hF, fun _ => trivial⟩ (Or.inl ⟨by rfl, ?_⟩) ?_
  rotate_left
  · intro wq hSw; obtain ⟨s0, s1, s2, s3⟩ := hSw; go_simp; rfl
  simp only [Act.put]
  refine gate_takeF (i := 5) (v := ?_) rfl (by kernel_rfl) (by kernel_rfl) (by kernel_rfl) (fun _ _ _ h => h) (by decide) ⟨hF, fun _ => trivial⟩ (Or.inl ⟨by rfl, ?_⟩) ?_
  rotate_left
  · intro wq hSw; obtain ⟨s0, s1, s2, s3⟩ := hSw; go_simp; rfl
  simp only [Act.put]
  refine gate_takeF (i := 6) (v := ?_) rfl (by kernel_rfl) (by kernel_rfl) (by kernel_rfl) (fun _ _ _ h => h) (by decide) ⟨hF, fun _ => trivial⟩ (Or.inl ⟨by rfl, ?_⟩) ?_
  rotate_left
  · intro wq hSw; obtain ⟨s0, s1, s2, s3⟩ := hSw; go_simp; rfl
  simp only [Act.put]
  refine gate_takeF (i := 7) (v := ?_) rfl (by kernel_rfl) (by kernel_rfl) (by kernel_rfl) (fun _ _ _ h => h) (by decide) ⟨hF, fun _ => trivial⟩ (Or.inl ⟨by rfl, ?_⟩) ?_
  rotate_left
  · intro wq hSw; obtain ⟨s0, s1, s2, s3⟩ := hSw; go_simp; rfl
  simp only [Act.put]
  refine gate_takeF (i := 8) (v := ?_) rfl (by kernel_rfl) (by kernel_rfl) (by kernel_rfl) (fun _ _ _ h => h) (by decide) ⟨hF, fun _ => trivial⟩ (Or.inl ⟨by rfl, ?_⟩) ?_
  rotate_left
  · intro wq hSw; obtain ⟨s0, s1, s2, s3⟩ := hSw; go_simp; rfl
  simp only [Act.put]
  refine gate_one (i := 9) (by kernel_rfl) rfl (fun K hK => ?_)
  go_simp
  refine (HCK.out _).mono ?_
  rintro e w5 ⟨rfl, hb5⟩
  have hF' : w5.cell? ⟨p, 0, none⟩ = some (.int .i64 k) ∧ w5.cell? ⟨p, 1, none⟩ = some (.int .i64 m) ∧ w5.cell? ⟨X, 0, none⟩ = some (.int .i64 s) ∧ w5.cell? ⟨X, 1, none⟩ = some (.string (S t)) := ⟨hb5.cell_at hF.1, hb5.cell_at hF.2.1, hb5.cell_at hF.2.2.1, hb5.cell_at hF.2.2.2⟩
  refine hK _ _ ⟨hF', fun _ => trivial⟩ ?_
  clear hK K hF
  have hF := hF'
  clear hF'
  refine gate_takeF (i := 10) (v := ?_) rfl (by kernel_rfl) (by kernel_rfl) (by kernel_rfl) (fun _ _ _ h => h) (by decide) ⟨hF, fun _ => trivial⟩ (Or.inl ⟨by rfl, ?_⟩) ?_
  rotate_left
  · intro wq hSw; obtain ⟨s0, s1, s2, s3⟩ := hSw; go_simp; rfl
  simp only [Act.put]
  refine gate_done (by kernel_rfl) ?_ _
  have HB5 := Lib.hid (HB0.out.keep hb5)
  clear hb5 HB0 hF
  have hsT : s ∉ T := by rw [HSD.out]; exact HS.out
  have HST := Lib.hid hsT
  clear hsT
  have hlook : ∀ j, (Instr.lookup 79 (.map (some tb)) (.int .i64 s) false).run Tryz.prog (w5.drewN j) = .ok (.bool false) (w5.drewN j) := fun j => by
    have := (HH.out.tk.keep (HB5.out.lat.trans (Lat.drewN w5 j))).look s HS1.out.1 HS1.out.2
    rw [decide_eq_false HST.out] at this; exact this
  have hlen : ∀ j ty, (Builtin.len_ #[79] ty #[.map (some tb)]).run Tryz.prog (w5.drewN j) = .ok (.int .i64 n) (w5.drewN j) := fun j ty => by
    have := (HH.out.tk.keep (HB5.out.lat.trans (Lat.drewN w5 j))).len ty
    rw [← HN.out] at this; exact this
  have c3 := HB5.out.lat.cell_at HH.out.c3
  have x0 := HB5.out.c0
  go_upto_region 4 with fail
  go_quiet (fail)
  go_upto_region 8 with fail
  clear hlook hlen
  obtain ⟨w6, hw6⟩ : ∃ w6, w6 = w5.drewN nq := ⟨_, rfl⟩
  have hb6 := HB5.out.keep (Lat.drewN w5 nq)
  rw [← hw6] at hb6
  rw [← hw6]
  clear hw6 c3 x0 HB5
  have hp6 := HH.out.keep (hb6.lat.trans (Lat.drew w6))
  obtain ⟨w7, hrun, htk7, hf7⟩ := hp6.tk.store s HS1.out.1 HS1.out.2 HST.out HTL.out
  have hp7 := hp6.take htk7 hf7 (by have := hp6.most; rw [List.length_append]; omega)
  have ntX : X ≠ tb := by have := HH.out.lt _ HH.out.gt; have := HX.out; omega
  have hF : w6.drew.cell? ⟨p, 3, none⟩ = some (.map (some tb)) ∧ w6.drew.cell? ⟨X, 0, none⟩ = some (.int .i64 s) := ⟨hp6.c3, hb6.c0⟩
  have hF5 : w7.cell? ⟨p, 3, none⟩ = some (.map (some tb)) ∧ w7.cell? ⟨X, 0, none⟩ = some (.int .i64 s) := ⟨hp7.c3, hf7.cell_at hF.2 ntX⟩
  have hF7 : w7.cell? ⟨p, 0, none⟩ = some (.int .i64 k) ∧ w7.cell? ⟨X, 0, none⟩ = some (.int .i64 s) ∧ w7.cell? ⟨X, 1, none⟩ = some (.string (S t)) := ⟨hp7.c0, hF5.2, hf7.cell_at (show w6.drew.cell? _ = _ from hb6.c1) ntX⟩
  have hl7 : Fr G w w7 := (Fr.lat (hb6.lat.trans (Lat.drew w6)) : Fr G w w6.drew).trans hf7 (fun i _ e => by rw [e]; exact HH.out.gt)
  have HF5 := Lib.hid hF5; have HF7 := Lib.hid hF7; have HP7 := Lib.hid hp7; have HL7 := Lib.hid hl7; have HRUN := Lib.hid hrun
  clear hb6 hp6 htk7 hf7 hp7 hF5 hF7 hl7 hrun
  refine wp_region_gate (fun w' => w'.cell? ⟨p, 3, none⟩ = some (.map (some tb)) ∧ w'.cell? ⟨X, 0, none⟩ = some (.int .i64 s)) (fun _ => True) 1000 (by kernel_rfl) ?_
  refine gate_takeF (i := 0) (v := ?_) rfl (by kernel_rfl) (by kernel_rfl) (by kernel_rfl) (fun _ _ _ h => h) (by decide) ⟨hF, fun _ => trivial⟩ (Or.inl ⟨by rfl, ?_⟩) ?_
  rotate_left
  · intro wq hSw; obtain ⟨s0, s1⟩ := hSw; go_simp; rfl
  simp only [Act.put]
  refine gate_takeF (i := 1) (v := ?_) rfl (by kernel_rfl) (by kernel_rfl) (by kernel_rfl) (fun _ _ _ h => h) (by decide) ⟨hF, fun _ => trivial⟩ (Or.inl ⟨by rfl, ?_⟩) ?_
  rotate_left
  · intro wq hSw; obtain ⟨s0, s1⟩ := hSw; go_simp; rfl
  simp only [Act.put]
  refine gate_takeF (i := 2) (v := ?_) rfl (by kernel_rfl) (by kernel_rfl) (by kernel_rfl) (fun _ _ _ h => h) (by decide) ⟨hF, fun _ => trivial⟩ (Or.inl ⟨by rfl, ?_⟩) ?_
  rotate_left
  · intro wq hSw; obtain ⟨s0, s1⟩ := hSw; go_simp; rfl
  simp only [Act.put]
  refine gate_takeF (i := 3) (v := ?_) rfl (by kernel_rfl) (by kernel_rfl) (by kernel_rfl) (fun _ _ _ h => h) (by decide) ⟨hF, fun _ => trivial⟩ (Or.inl ⟨by rfl, ?_⟩) ?_
  rotate_left
  · intro wq hSw; obtain ⟨s0, s1⟩ := hSw; go_simp; rfl
  simp only [Act.put]
  refine gate_takeF (i := 4) (v := ?_) rfl (by kernel_rfl) (by kernel_rfl) (by kernel_rfl) (fun _ _ _ h => h) (by decide) ⟨hF, fun _ => trivial⟩ (Or.inl ⟨by rfl, ?_⟩) ?_
  rotate_left
  · intro wq hSw; obtain ⟨s0, s1⟩ := hSw; go_simp; rfl
  simp only [Act.put]
  refine gate_takeF (i := 5) (v := ?_) rfl (by kernel_rfl) (by kernel_rfl) (by kernel_rfl) (fun _ _ _ h => h) (by decide) ⟨hF, fun _ => trivial⟩ (Or.inl ⟨by rfl, ?_⟩) ?_
  rotate_left
  · intro wq hSw; obtain ⟨s0, s1⟩ := hSw; go_simp; rfl
  simp only [Act.put]
  refine gate_one (i := 6) (by kernel_rfl) rfl (fun K hK => ?_)
  have hrun := HRUN.out
  go_simp
  have hF' := HF5.out
  refine hK _ _ ⟨hF', fun _ => trivial⟩ ?_
  clear hK K hF hF' hrun
  refine gate_done (by kernel_rfl) ?_ _
  go_upto_region 9 with fail
  have hF : w7.drew.cell? ⟨p, 0, none⟩ = some (.int .i64 k) ∧ w7.drew.cell? ⟨X, 0, none⟩ = some (.int .i64 s) ∧ w7.drew.cell? ⟨X, 1, none⟩ = some (.string (S t)) := HF7.out
  have hG : w7.drew.cell? ⟨p, 4, none⟩ = some (.slice a ln cap) := by have := HP7.out.c4; rw [← HLN.out] at this; exact this
  refine wp_region_gate (fun w' => w'.cell? ⟨p, 0, none⟩ = some (.int .i64 k) ∧ w'.cell? ⟨X, 0, none⟩ = some (.int .i64 s) ∧ w'.cell? ⟨X, 1, none⟩ = some (.string (S t))) (fun w' => w'.cell? ⟨p, 4, none⟩ = some (.slice a ln cap)) 16 (by kernel_rfl) ?_
  refine gate_takeF (i := 0) (v := ?_) rfl (by kernel_rfl) (by kernel_rfl) (by kernel_rfl) (fun _ _ _ h => h) (by decide) ⟨hF, fun _ => hG⟩ (Or.inl ⟨by rfl, ?_⟩) ?_
  rotate_left
  · intro wq hSw; obtain ⟨s0, s1, s2⟩ := hSw; go_simp; rfl
  simp only [Act.put]
  refine gate_takeF (i := 1) (v := ?_) rfl (by kernel_rfl) (by kernel_rfl) (by kernel_rfl) (fun _ _ _ h => h) (by decide) ⟨hF, fun _ => hG⟩ (Or.inl ⟨by rfl, ?_⟩) ?_
  rotate_left
  · intro wq hSw; obtain ⟨s0, s1, s2⟩ := hSw; go_simp; rfl
  simp only [Act.put]
  refine gate_takeF (i := 2) (v := ?_) rfl (by kernel_rfl) (by kernel_rfl) (by kernel_rfl) (fun _ _ _ h => h) (by decide) ⟨hF, fun _ => hG⟩ (Or.inl ⟨by rfl, ?_⟩) ?_
  rotate_left
  · intro wq hSw; obtain ⟨s0, s1, s2⟩ := hSw; go_simp; rfl
  simp only [Act.put]
  refine gate_takeF (i := 3) (v := ?_) rfl (by kernel_rfl) (by kernel_rfl) (by kernel_rfl) (fun _ _ _ h => h) (by decide) ⟨hF, fun _ => hG⟩ (Or.inl ⟨by rfl, ?_⟩) ?_
  rotate_left
  · intro wq hSw; obtain ⟨s0, s1, s2⟩ := hSw; go_simp; rfl
  simp only [Act.put]
  refine gate_takeG (i := 4) (v := ?_) rfl (by kernel_rfl) (by kernel_rfl) (by kernel_rfl) (fun _ _ _ h => h) (by decide) (by kernel_rfl) (by kernel_rfl) ⟨hF, fun _ => hG⟩ (Or.inl ⟨by rfl, ?_⟩) ?_
  rotate_left
  · intro wq hSw; obtain ⟨⟨s0, s1, s2⟩, s3⟩ := hSw; go_simp; rfl
  simp only [Act.put]
  refine gate_takeF (i := 5) (v := ?_) rfl (by kernel_rfl) (by kernel_rfl) (by kernel_rfl) (fun _ _ _ h => h) (by decide) ⟨hF, fun _ => hG⟩ (Or.inl ⟨by rfl, ?_⟩) ?_
  rotate_left
  · intro wq hSw; obtain ⟨s0, s1, s2⟩ := hSw; go_simp; rfl
  simp only [Act.put]
  refine gate_takeF (i := 6) (v := ?_) rfl (by kernel_rfl) (by kernel_rfl) (by kernel_rfl) (fun _ _ _ h => h) (by decide) ⟨hF, fun _ => hG⟩ (Or.inl ⟨by rfl, ?_⟩) ?_
  rotate_left
  · intro wq hSw; obtain ⟨s0, s1, s2⟩ := hSw; go_simp; rfl
  simp only [Act.put]
  refine gate_takeF (i := 7) (v := ?_) rfl (by kernel_rfl) (by kernel_rfl) (by kernel_rfl) (fun _ _ _ h => h) (by decide) ⟨hF, fun _ => hG⟩ (Or.inl ⟨by rfl, ?_⟩) ?_
  rotate_left
  · intro wq hSw; obtain ⟨s0, s1, s2⟩ := hSw; go_simp; rfl
  simp only [Act.put]
  refine gate_takeF (i := 8) (v := ?_) rfl (by kernel_rfl) (by kernel_rfl) (by kernel_rfl) (fun _ _ _ h => h) (by decide) ⟨hF, fun _ => hG⟩ (Or.inl ⟨by rfl, ?_⟩) ?_
  rotate_left
  · intro wq hSw; obtain ⟨s0, s1, s2⟩ := hSw; go_simp; rfl
  simp only [Act.put]
  refine gate_takeF (i := 9) (v := ?_) rfl (by kernel_rfl) (by kernel_rfl) (by kernel_rfl) (fun _ _ _ h => h) (by decide) ⟨hF, fun _ => hG⟩ (Or.inl ⟨by rfl, ?_⟩) ?_
  rotate_left
  · intro wq hSw; obtain ⟨s0, s1, s2⟩ := hSw; go_simp; rfl
  simp only [Act.put]
  refine gate_takeF (i := 10) (v := ?_) rfl (by kernel_rfl) (by kernel_rfl) (by kernel_rfl) (fun _ _ _ h => h) (by decide) ⟨hF, fun _ => hG⟩ (Or.inl ⟨by rfl, ?_⟩) ?_
  rotate_left
  · intro wq hSw; obtain ⟨s0, s1, s2⟩ := hSw; go_simp; rfl
  simp only [Act.put]
  refine gate_takeF (i := 12) (v := ?_) rfl (by kernel_rfl) (by kernel_rfl) (by kernel_rfl) (fun _ _ _ h => h) (by decide) ⟨hF, fun _ => hG⟩ (Or.inl ⟨by rfl, ?_⟩) ?_
  rotate_left
  · intro wq hSw; obtain ⟨s0, s1, s2⟩ := hSw; go_simp; rfl
  simp only [Act.put]
  refine gate_takeF (i := 13) (v := ?_) rfl (by kernel_rfl) (by kernel_rfl) (by kernel_rfl) (fun _ _ _ h => h) (by decide) ⟨hF, fun _ => hG⟩ (Or.inl ⟨by rfl, ?_⟩) ?_
  rotate_left
  · intro wq hSw; obtain ⟨s0, s1, s2⟩ := hSw; go_simp; rfl
  simp only [Act.put]
  refine gate_one (i := 11) (by kernel_rfl) rfl (fun K hK => ?_)
  have hdo := dropOf_new k sn w7.drew hk1 hk16 hs1 hs2
  rw [← HZS.out, ← HSD.out] at hdo
  go_simp
  refine hdo.mono ?_
  rintro e w8 ⟨oa, oc, rfl, hoi, hob, hb8⟩
  have hF' : w8.cell? ⟨p, 0, none⟩ = some (.int .i64 k) ∧ w8.cell? ⟨X, 0, none⟩ = some (.int .i64 s) ∧ w8.cell? ⟨X, 1, none⟩ = some (.string (S t)) := ⟨hb8.cell_at hF.1, hb8.cell_at hF.2.1, hb8.cell_at hF.2.2⟩
  have hG' := hb8.cell_at hG
  refine hK _ _ ⟨hF', fun _ => hG'⟩ ?_
  clear hK K hF hG hdo
  have hF := hF'
  have hG := hG'
  clear hF' hG'
  have hp8 := HP7.out.keep ((Lat.drew w7).trans hb8)
  obtain ⟨rows, ho8, hw8⟩ := hp8.row
  have hrl : rows.length = ln := by rw [hw8.1, ← HLN.out]
  rw [← HLN.out] at ho8
  have HO8 := Lib.hid ho8; have HW8 := Lib.hid hw8; have HRL := Lib.hid hrl; have HP8 := Lib.hid hp8; have HB8 := Lib.hid hb8; have HOI := Lib.hid hoi; have HOB := Lib.hid hob
  clear ho8 hw8 hrl hp8 hb8 hoi hob
  refine gate_takeF (i := 14) (v := ?_) rfl (by kernel_rfl) (by kernel_rfl) (by kernel_rfl) (fun _ _ _ h => h) (by decide) ⟨hF, fun _ => hG⟩ (Or.inl ⟨by rfl, ?_⟩) ?_
  rotate_left
  · intro wq hSw; obtain ⟨s0, s1, s2⟩ := hSw; go_simp; rfl
  simp only [Act.put]
  refine gate_one (i := 15) (by kernel_rfl) rfl (fun K hK => ?_)
  go_simp
  refine hK _ _ ⟨⟨(Lat.alloc _ _).cell_at hF.1, (Lat.alloc _ _).cell_at hF.2.1, (Lat.alloc _ _).cell_at hF.2.2⟩, fun _ => (Lat.alloc _ _).cell_at hG⟩ ?_
  clear hK K
  refine gate_one (i := 16) (by kernel_rfl) rfl (fun K hK => ?_)
  refine appR_step w8 0 rfl (.tmp 47) (.tmp 58) 80 rfl 85 _ 2 40 Tryz.underlying80 info_wait rfl (by decide) (by decide) _ _ _ rfl HO8.out rfl rfl (fun u hu => by simp at hu; rcases hu with rfl | rfl <;> rfl) (by rw [HRL.out]; have := HTL.out; have := HH.out.most; have := HLN.out; omega) (Nat.zero_le _) ?_
  rw [HRL.out]
  intro g' cap' w9 hown9 hb9 hs9
  have hs9 : AppStep w8 w9 (.slice a ln cap) (.slice (some ⟨g', 0, none⟩) (ln + 1) cap') := hs9
  have hnp : (Value.slice a ln cap).ownBlock ≠ some p := fun e => by rw [HLN.out] at e; exact (HP8.out.own p e).2.1 rfl
  have hnX : (Value.slice a ln cap).ownBlock ≠ some X := fun e => by
    rw [HLN.out] at e
    have := HH.out.lt X (HP8.out.own X e).1
    have := HX.out
    omega
  have hF9 : w9.cell? ⟨p, 0, none⟩ = some (.int .i64 k) ∧ w9.cell? ⟨X, 0, none⟩ = some (.int .i64 s) ∧ w9.cell? ⟨X, 1, none⟩ = some (.string (S t)) := ⟨hs9.cell hF.1 hnp, hs9.cell hF.2.1 hnX, hs9.cell hF.2.2 hnX⟩
  have hG9 : w9.cell? ⟨p, 4, none⟩ = some (.slice a ln cap) := hs9.cell hG hnp
  have hpl8 := World.block_lt_of_cell? _ _ hG
  have hf9 : w9.frozen? ⟨p, 4, none⟩ = false := by
    rw [World.frozen?_of_block (w := w8) (a := ⟨p, 4, none⟩) (hs9.block p hpl8 (fun e => hnp e.symm))]; exact HP8.out.free
  have hws8 : w.heap.size ≤ w8.heap.size := by have := HL7.out.size; have := HB8.out.size; have := (Lat.drew w7).size; omega
  have hp10 := (HP8.out).push (B := w.heap.size) HH.out.lt hws8 (by rw [List.length_append]; have := HH.out.most; simp; omega) HW8.out (g := g') (cap' := cap') (w5 := w9) (by rw [← HLN.out]; exact hown9) (by rw [← HLN.out]; exact hs9) hb9 HOI.out (fun b o e => by have := HOB.out b o e; have := HL7.out.size; have := (Lat.drew w7).size; omega) (by rw [HZS.out]; exact HOK.out)
  rw [← HLN.out] at hp10
  have hfr10 : Fr G w (w9.setCell ⟨p, 4, none⟩ (.slice (some ⟨g', 0, none⟩) (ln + 1) cap')) := (((HL7.out.next (Lat.drew w7)).next HB8.out).trans (Fr.app hs9 ⟨hb9.os, hb9.tape, hb9.output⟩) (fun i _ e => by
    rw [HLN.out] at e
    exact (HP8.out.own i e).1)).then_set ⟨p, 4, none⟩ _ (.inl HH.out.gp)
  have HP10 := Lib.hid hp10; have HFR10 := Lib.hid hfr10
  refine hK _ _ (FG.past (by kernel_rfl) hF9) ?_
  clear hK K hF hG hown9 hb9 hs9 hnp hnX hp10 hfr10 hpl8 hws8
  refine gate_takeF (i := 17) (v := ?_) rfl (by kernel_rfl) (by kernel_rfl) (by kernel_rfl) (fun _ _ _ h => h) (by decide) (FG.past (by kernel_rfl) hF9) (Or.inl ⟨by rfl, ?_⟩) ?_
  rotate_left
  · intro wq hSw; go_simp; rfl
  simp only [Act.put]
  refine gate_takeF (i := 18) (v := ?_) rfl (by kernel_rfl) (by kernel_rfl) (by kernel_rfl) (fun _ _ _ h => h) (by decide) (FG.past (by kernel_rfl) hF9) (Or.inl ⟨by rfl, ?_⟩) ?_
  rotate_left
  · intro wq hSw; go_simp; rfl
  simp only [Act.put]
  have hX0 : X ≠ p := by have := HH.out.lt _ HH.out.gp; have := HX.out; omega
  have hF8 : ∀ x : Value, (w9.setCell ⟨p, 4, none⟩ x).cell? ⟨p, 0, none⟩ = some (.int .i64 k) ∧ (w9.setCell ⟨p, 4, none⟩ x).cell? ⟨X, 0, none⟩ = some (.int .i64 s) ∧ (w9.setCell ⟨p, 4, none⟩ x).cell? ⟨X, 1, none⟩ = some (.string (S t)) := fun x =>
    ⟨by rw [World.cell?_setCell_other _ _ _ _ (by simp)]; exact hF9.1, by rw [World.cell?_setCell_other _ _ _ _ (by intro e; injection e with e1 _ _; exact hX0 e1.symm)]; exact hF9.2.1, by rw [World.cell?_setCell_other _ _ _ _ (by intro e; injection e with e1 _ _; exact hX0 e1.symm)]; exact hF9.2.2⟩
  have HF8 := Lib.hid hF8
  refine gate_one (i := 19) (by kernel_rfl) rfl (fun K hK => ?_)
  clear hF8 hF9
  go_simp
  refine hK _ _ (FG.past (by kernel_rfl) (HF8.out _)) ?_
  clear hK K
  refine gate_done (by kernel_rfl) ?_ _
  clear hG9 hf9 hX0
  have hln := learn_any _ p k m K (T ++ [s]) (L ++ [(zs, t)]) _ ⟨kb, tb, _, cap', HP10.out⟩ hk16 hm8
  have HLRN := Lib.hid hln
  clear hln
  go_wp2_with (go_at_call 38; refine HLRN.out.mono ?_; rintro e w11 ⟨ra, rc, rfl, hri, hst⟩)
  go_ret2
  obtain ⟨G2, ho2, hG2⟩ := hst.obj
  refine ⟨ra, rc, rfl, hri, HFR10.out.trans hst.fr (fun i hi e => ?_), G2, ho2, fun i hi => ?_⟩
  · rcases e.2 with e | e
    · exact e
    · omega
  · rcases hG2 i hi with e | e
    · exact e.2
    · exact .inr (Nat.le_trans HFR10.out.size e)
end Go.Proofs.YtnndklhcckahbaaGreatDoor
