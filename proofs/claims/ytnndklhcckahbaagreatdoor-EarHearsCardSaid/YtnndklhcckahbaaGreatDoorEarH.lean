/- The contract of (*ear.Ear).Hear. -/
import Derived.Test.YtnndklhcckahbaaGreatDoorEarM
namespace Go.Proofs.YtnndklhcckahbaaGreatDoor
open Go.ChangeShapes Go.WideShapes Go.ChangeAt Go.RowKit

/-- The two boxes of 'Hear': the drop at X, what is heard at X + 1. -/
structure HB (w : World) (X : Nat) (s : Int) (t : Bts) (W : World) : Prop where
  lo : w.heap.size ≤ X
  lt : X + 1 < W.heap.size
  c0 : W.cell? ⟨X, 0, none⟩ = some (.int .i64 s)
  c1 : W.cell? ⟨X, 1, none⟩ = some (.string (S t))
  r0 : W.cell? ⟨X + 1, 0, none⟩ = some (.int .i64 0)
  r1 : W.cell? ⟨X + 1, 1, none⟩ = some (.int .i64 0)
  r2 : W.cell? ⟨X + 1, 2, none⟩ = some (.int .i64 0)
  g0 : W.frozen? ⟨X + 1, 0, none⟩ = false
  g1 : W.frozen? ⟨X + 1, 1, none⟩ = false
  g2 : W.frozen? ⟨X + 1, 2, none⟩ = false
theorem HB.fr {w : World} {X : Nat} {s : Int} {t : Bts} {W W' : World} {H : Nat → Prop} (h : HB w X s t W) (hf : Fr H W W') (hH : ∀ i, H i → i < w.heap.size) : HB w X s t W' := by
  have lo := h.lo
  have lt := h.lt
  have n0 : ¬ H X := fun e => by have := hH X e; omega
  have n1 : ¬ H (X + 1) := fun e => by have := hH (X + 1) e; omega
  exact ⟨lo, Nat.lt_of_lt_of_le lt hf.size, hf.cell_at h.c0 n0, hf.cell_at h.c1 n0, hf.cell_at h.r0 n1, hf.cell_at h.r1 n1, hf.cell_at h.r2 n1, hf.free_at lt h.g0 n1, hf.free_at lt h.g1 n1, hf.free_at lt h.g2 n1⟩
theorem HB.keep {w : World} {X : Nat} {s : Int} {t : Bts} {W W' : World} (h : HB w X s t W) (hb : Lat W W') : HB w X s t W' := h.fr (H := fun _ => False) (Fr.lat hb) (fun _ e => e.elim)
/-- .. and nothing that was there has turned. -/
structure HL (w : World) (X : Nat) (s : Int) (t : Bts) (W : World) : Prop extends HB w X s t W where
  lat : Lat w W
theorem HL.keep {w : World} {X : Nat} {s : Int} {t : Bts} {W W' : World} (h : HL w X s t W) (hb : Lat W W') : HL w X s t W' := ⟨h.toHB.keep hb, h.lat.trans hb⟩
theorem HL.new (w : World) (s : Int) (t : Bts) : HL w w.heap.size s t ((w.alloc (.cells #[.int .i64 s, .string (S t)] 33)).alloc (.cells #[.int .i64 0, .int .i64 0, .int .i64 0] 29)) := by
  obtain ⟨W1, hW⟩ : ∃ W1, W1 = w.alloc (.cells #[.int .i64 s, .string (S t)] 33) := ⟨_, rfl⟩
  have hz : W1.heap.size = w.heap.size + 1 := by rw [hW]; simp
  have c0 : W1.cell? ⟨w.heap.size, 0, none⟩ = some (.int .i64 s) := by rw [hW]; simp
  have c1 : W1.cell? ⟨w.heap.size, 1, none⟩ = some (.string (S t)) := by rw [hW]; simp
  have hl : Lat w W1 := by rw [hW]; exact Lat.alloc _ _
  rw [← hW]
  refine ⟨⟨Nat.le_refl _, by simp [hz], (Lat.alloc _ _).cell_at c0, (Lat.alloc _ _).cell_at c1, ?_, ?_, ?_, ?_, ?_, ?_⟩, hl.trans (Lat.alloc _ _)⟩
  all_goals (rw [← hz]; simp)
theorem three_put {w : World} {g : Nat} {a b c : Value} (c0 : w.cell? ⟨g, 0, none⟩ = some a) (c1 : w.cell? ⟨g, 1, none⟩ = some b) (c2 : w.cell? ⟨g, 2, none⟩ = some c) (x y z : Value) :
    (((w.setCell ⟨g, 0, none⟩ x).setCell ⟨g, 1, none⟩ y).setCell ⟨g, 2, none⟩ z).cell? ⟨g, 0, none⟩ = some x ∧ (((w.setCell ⟨g, 0, none⟩ x).setCell ⟨g, 1, none⟩ y).setCell ⟨g, 2, none⟩ z).cell? ⟨g, 1, none⟩ = some y ∧ (((w.setCell ⟨g, 0, none⟩ x).setCell ⟨g, 1, none⟩ y).setCell ⟨g, 2, none⟩ z).cell? ⟨g, 2, none⟩ = some z := by
  have q := two_put c0 c1 x y
  refine ⟨?_, ?_, ?_⟩
  · rw [World.cell?_setCell_other _ _ _ _ (by simp)]; exact q.1
  · rw [World.cell?_setCell_other _ _ _ _ (by simp)]; exact q.2
  · exact World.cell?_setCell_same _ _ _ ((World.cell?_setCell_other _ _ _ _ (by simp)).trans ((World.cell?_setCell_other _ _ _ _ (by simp)).trans c2))

/-- what is wrong with a drop that is heard -/
def hrE (k m : Nat) (ds : List Dr) (s : Int) (t : Bts) : Nat := if drpE k m s (S t) ≠ 0 then drpE k m s (S t) else if 60 ≤ ds.length then 4 else 0
theorem hrE_zero {k m : Nat} {ds : List Dr} {s : Int} {t : Bts} (h : hrE k m ds s t = 0) : drpE k m s (S t) = 0 ∧ ds.length < 60 := by
  unfold hrE at h
  by_cases h1 : drpE k m s (S t) = 0
  · rw [if_neg (fun e => e h1)] at h
    split at h
    · cases h
    · exact ⟨h1, by omega⟩
  · rw [if_pos h1] at h; exact absurd h h1

set_option maxHeartbeats 4000000 in
set_option maxRecDepth 100000 in
theorem ear_hear_bad (G : Nat → Prop) (x k m n : Nat) (q : Int) (K0 : Kn) (L : List Wt) (ds : List Dr) (s : Int) (t : Bts) (w : World) (h : EarO G x k m n q K0 L ds w) (hE : hrE k m ds s t ≠ 0) :
    Calls Tryz.prog 5 #[.pointer (some ⟨x, 0, none⟩), .agg #[.int .i64 s, .string (S t)]] w fun e w' => e = .returned (.tuple #[.agg #[.int .i64 0, .int .i64 0, .int .i64 0], eno (hrE k m ds s t)]) ∧ Lat w w' := by
  obtain ⟨Gp, p, a, cap, h⟩ := h
  have hck := fun W => dchk_tells k m s (S t) W
  have HH := Lib.hid h
  by_cases h1 : drpE k m s (S t) = 0
  · have hfull : 60 ≤ ds.length := by
      rcases Nat.lt_or_ge ds.length 60 with h3 | h3
      · exact absurd (by unfold hrE; rw [if_neg (fun e => e h1), if_neg (by omega)]) hE
      · exact h3
    have e1 : hrE k m ds s t = 4 := by unfold hrE; rw [if_neg (fun e => e h1), if_pos hfull]
    rw [e1]
    rw [h1, errv_zero rfl] at hck
    have HCK : Hid (∀ W, Calls Tryz.prog 16 #[.int .i64 k, .int .i64 m, .agg #[.int .i64 s, .string (S t)]] W fun e w' => e = .returned .nilIface ∧ Lat W w') := hck
    obtain ⟨ln, hln⟩ : ∃ ln, ln = ds.length := ⟨_, rfl⟩
    have d60 : decide ((60 : Int) ≤ (ln : Int)) = true := decide_eq_true (by omega)
    have HLN := Lib.hid hln
    clear h hck h1 hE e1 hfull hln
    go_enter Tryz.func5, Tryz.ntmps5
    go_upto_region 1 with fail
    obtain ⟨X, hX⟩ : ∃ X, X = w.heap.size := ⟨_, rfl⟩
    obtain ⟨W0, hW0⟩ : ∃ W0, W0 = (w.alloc (.cells #[.int .i64 s, .string (S t)] 33)).alloc (.cells #[.int .i64 0, .int .i64 0, .int .i64 0] 29) := ⟨_, rfl⟩
    have hb0 := HL.new w s t
    rw [← hW0] at hb0
    rw [← hW0]
    rw [← hX] at hb0
    rw [← hX]
    have HX : Hid (X = w.heap.size) := hX
    clear hW0 hX
    have hF : W0.drew.cell? ⟨x, 1, none⟩ = some (.int .i64 k) ∧ W0.drew.cell? ⟨x, 2, none⟩ = some (.int .i64 m) ∧ W0.drew.cell? ⟨X, 0, none⟩ = some (.int .i64 s) ∧ W0.drew.cell? ⟨X, 1, none⟩ = some (.string (S t)) := ⟨hb0.lat.cell_at HH.out.c1, hb0.lat.cell_at HH.out.c2, hb0.c0, hb0.c1⟩
    have HB0 := Lib.hid (hb0.keep (Lat.drew W0))
    clear hb0
    refine wp_region_gate (fun w' => w'.cell? ⟨x, 1, none⟩ = some (.int .i64 k) ∧ w'.cell? ⟨x, 2, none⟩ = some (.int .i64 m) ∧ w'.cell? ⟨X, 0, none⟩ = some (.int .i64 s) ∧ w'.cell? ⟨X, 1, none⟩ = some (.string (S t))) (fun _ => True) 1000 (by kernel_rfl) ?_
    refine gate_takeF (i := 0) (v := ?_) rfl (by kernel_rfl) (by kernel_rfl) (by kernel_rfl) (fun _ _ _ h => h) (by decide) ⟨hF, fun _ => trivial⟩ (Or.inl ⟨by rfl, ?_⟩) ?_
    rotate_left
    · intro wq hSw; obtain ⟨s0, s1, s2, s3⟩ := hSw; go_simp; rfl
    simp only [Act.put]
    refine gate_takeF (i := 1) (v := ?_) rfl (by kernel_rfl) (by kernel_rfl) (by kernel_rfl) (fun _ _ _ h => h) (by decide) ⟨hF, fun _ => trivial⟩ (Or.inl ⟨by rfl, ?_⟩) ?_
    rotate_left
    · intro wq hSw; obtain ⟨s0, s1, s2, s3⟩ := hSw; go_simp; rfl
    simp only [Act.put]
    refine gate_takeF (i := 2) (v := ?_) rfl (by kernel_rfl) (by kernel_rfl) (by kernel_rfl) (fun _ _ _ h => h) (by decide) ⟨hF, fun _ => trivial⟩ (Or.inl ⟨by rfl, ?_⟩) ?_
    rotate_left
    · intro wq hSw; obtain ⟨s0, s1, s2, s3⟩ := hSw; go_simp; rfl
    simp only [Act.put]
    refine gate_takeF (i := 3) (v := ?_) rfl (by kernel_rfl) (by kernel_rfl) (by kernel_rfl) (fun _ _ _ h => h) (by decide) ⟨hF, fun _ => trivial⟩ (Or.inl ⟨by rfl, ?_⟩) ?_
    rotate_left
    · intro wq hSw; obtain ⟨s0, s1, s2, s3⟩ := hSw; go_simp; rfl
    simp only [Act.put]
    refine gate_takeF (i := 4) (v := ?_) rfl (by kernel_rfl) (by kernel_rfl) (by kernel_rfl) (fun _ _ _ h => h) (by decide) ⟨hF, fun _ => trivial⟩ (Or.inl ⟨by rfl, ?_⟩) ?_
    rotate_left
    · intro wq hSw; obtain ⟨s0, s1, s2, s3⟩ := hSw; go_simp; rfl
    simp only [Act.put]
    refine gate_takeF (i := 5) (v := ?_) rfl (by kernel_rfl) (by kernel_rfl) (by kernel_rfl) (fun _ _ _ h => h) (by decide) ⟨hF, fun _ => trivial⟩ (Or.inl ⟨by rfl, ?_⟩) ?_
    rotate_left
    · intro wq hSw; obtain ⟨s0, s1, s2, s3⟩ := hSw; go_simp; rfl
    simp only [Act.put]
    refine gate_takeF (i := 6) (v := ?_) rfl (by kernel_rfl) (by kernel_rfl) (by kernel_rfl) (fun _ _ _ h => h) (by decide) ⟨hF, fun _ => trivial⟩ (Or.inl ⟨by rfl, ?_⟩) ?_
    rotate_left
    · intro wq hSw; obtain ⟨s0, s1, s2, s3⟩ := hSw; go_simp; rfl
    simp only [Act.put]
    refine gate_takeF (i := 7) (v := ?_) rfl (by kernel_rfl) (by kernel_rfl) (by kernel_rfl) (fun _ _ _ h => h) (by decide) ⟨hF, fun _ => trivial⟩ (Or.inl ⟨by rfl, ?_⟩) ?_
    rotate_left
    · intro wq hSw; obtain ⟨s0, s1, s2, s3⟩ := hSw; go_simp; rfl
    simp only [Act.put]
    refine gate_takeF (i := 8) (v := ?_) rfl (by kernel_rfl) (by kernel_rfl) (by kernel_rfl) (fun _ _ _ h => h) (by decide) ⟨hF, fun _ => trivial⟩ (Or.inl ⟨by rfl, ?_⟩) ?_
    rotate_left
    · intro wq hSw; obtain ⟨s0, s1, s2, s3⟩ := hSw; go_simp; rfl
    simp only [Act.put]
    refine gate_one (i := 9) (by kernel_rfl) rfl (fun K hK => ?_)
    go_simp
    refine (HCK.out _).mono ?_
    rintro e w5 ⟨rfl, hb5⟩
    have hF' : w5.cell? ⟨x, 1, none⟩ = some (.int .i64 k) ∧ w5.cell? ⟨x, 2, none⟩ = some (.int .i64 m) ∧ w5.cell? ⟨X, 0, none⟩ = some (.int .i64 s) ∧ w5.cell? ⟨X, 1, none⟩ = some (.string (S t)) := ⟨hb5.cell_at hF.1, hb5.cell_at hF.2.1, hb5.cell_at hF.2.2.1, hb5.cell_at hF.2.2.2⟩
    refine hK _ _ ⟨hF', fun _ => trivial⟩ ?_
    clear hK K hF
    have hF := hF'
    clear hF'
    refine gate_takeF (i := 10) (v := ?_) rfl (by kernel_rfl) (by kernel_rfl) (by kernel_rfl) (fun _ _ _ h => h) (by decide) ⟨hF, fun _ => trivial⟩ (Or.inl ⟨by rfl, ?_⟩) ?_
    rotate_left
    · intro wq hSw; obtain ⟨s0, s1, s2, s3⟩ := hSw; go_simp; rfl
    simp only [Act.put]
    refine gate_done (by kernel_rfl) ?_ _
    have HB5 := Lib.hid (HB0.out.keep hb5)
    clear hb5 HB0 hF
    have c5 := HB5.out.lat.cell_at HH.out.c5
    rw [← HLN.out] at c5
    have e0 := HB5.out.r0
    have e1 := HB5.out.r1
    have e2 := HB5.out.r2
    have g0 := HB5.out.g0
    have g1 := HB5.out.g1
    have g2 := HB5.out.g2
    have QQ := three_put e0 e1 e2 (.int .i64 0) (.int .i64 0) (.int .i64 0)
    have hl : Lat w (((w5.setCell ⟨X + 1, 0, none⟩ (.int .i64 0)).setCell ⟨X + 1, 1, none⟩ (.int .i64 0)).setCell ⟨X + 1, 2, none⟩ (.int .i64 0)) := by
      have hw1 : w.heap.size ≤ X + 1 := by have := HX.out; omega
      exact ((HB5.out.lat.setCell (p := ⟨X + 1, 0, none⟩) hw1 _).setCell (p := ⟨X + 1, 1, none⟩) hw1 _).setCell (p := ⟨X + 1, 2, none⟩) hw1 _
    have HQ := Lib.hid QQ; have HLL := Lib.hid hl
    clear QQ hl
    go_wp2
    have Q0 := HQ.out
    exact bodyPost_ret (v := .tuple #[.agg #[.int .i64 0, .int .i64 0, .int .i64 0], eno 4]) (by simp [results, Tryz.results5, go_sem, Q0.1, Q0.2.1, Q0.2.2]) rfl ⟨rfl, HLL.out⟩
  · have e1 : hrE k m ds s t = drpE k m s (S t) := by unfold hrE; rw [if_pos h1]
    rw [e1]
    rw [errv_pos h1] at hck
    obtain ⟨E, hEE⟩ : ∃ E, E = drpE k m s (S t) := ⟨_, rfl⟩
    rw [← hEE] at hck ⊢
    have HCK : Hid (∀ W, Calls Tryz.prog 16 #[.int .i64 k, .int .i64 m, .agg #[.int .i64 s, .string (S t)]] W fun e w' => e = .returned (eno E) ∧ Lat W w') := hck
    clear h hck h1 hE hEE e1
    go_enter Tryz.func5, Tryz.ntmps5
    go_upto_region 1 with fail
    obtain ⟨X, hX⟩ : ∃ X, X = w.heap.size := ⟨_, rfl⟩
    obtain ⟨W0, hW0⟩ : ∃ W0, W0 = (w.alloc (.cells #[.int .i64 s, .string (S t)] 33)).alloc (.cells #[.int .i64 0, .int .i64 0, .int .i64 0] 29) := ⟨_, rfl⟩
    have hb0 := HL.new w s t
    rw [← hW0] at hb0
    rw [← hW0]
    rw [← hX] at hb0
    rw [← hX]
    have HX : Hid (X = w.heap.size) := hX
    clear hW0 hX
    have hF : W0.drew.cell? ⟨x, 1, none⟩ = some (.int .i64 k) ∧ W0.drew.cell? ⟨x, 2, none⟩ = some (.int .i64 m) ∧ W0.drew.cell? ⟨X, 0, none⟩ = some (.int .i64 s) ∧ W0.drew.cell? ⟨X, 1, none⟩ = some (.string (S t)) := ⟨hb0.lat.cell_at HH.out.c1, hb0.lat.cell_at HH.out.c2, hb0.c0, hb0.c1⟩
    have HB0 := Lib.hid (hb0.keep (Lat.drew W0))
    clear hb0
    refine wp_region_gate (fun w' => w'.cell? ⟨x, 1, none⟩ = some (.int .i64 k) ∧ w'.cell? ⟨x, 2, none⟩ = some (.int .i64 m) ∧ w'.cell? ⟨X, 0, none⟩ = some (.int .i64 s) ∧ w'.cell? ⟨X, 1, none⟩ = some (.string (S t))) (fun _ => True) 1000 (by kernel_rfl) ?_
    refine gate_takeF (i := 0) (v := ?_) rfl (by kernel_rfl) (by kernel_rfl) (by kernel_rfl) (fun _ _ _ h => h) (by decide) ⟨hF, fun _ => trivial⟩ (Or.inl ⟨by rfl, ?_⟩) ?_
    rotate_left
    · intro wq hSw; obtain ⟨s0, s1, s2, s3⟩ := hSw; go_simp; rfl
    simp only [Act.put]
    refine gate_takeF (i := 1) (v := ?_) rfl (by kernel_rfl) (by kernel_rfl) (by kernel_rfl) (fun _ _ _ h => h) (by decide) ⟨hF, fun _ => trivial⟩ (Or.inl ⟨by rfl, ?_⟩) ?_
    rotate_left
    · intro wq hSw; obtain ⟨s0, s1, s2, s3⟩ := hSw; go_simp; rfl
    simp only [Act.put]
    refine gate_takeF (i := 2) (v := ?_) rfl (by kernel_rfl) (by kernel_rfl) (by kernel_rfl) (fun _ _ _ h => h) (by decide) ⟨hF, fun _ => trivial⟩ (Or.inl ⟨by rfl, ?_⟩) ?_
    rotate_left
    · intro wq hSw; obtain ⟨s0, s1, s2, s3⟩ := hSw; go_simp; rfl
    simp only [Act.put]
    refine gate_takeF (i := 3) (v := ?_) rfl (by kernel_rfl) (by kernel_rfl) (by kernel_rfl) (fun _ _ _ h => h) (by decide) ⟨hF, fun _ => trivial⟩ (Or.inl ⟨by rfl, ?_⟩) ?_
    rotate_left
    · intro wq hSw; obtain ⟨s0, s1, s2, s3⟩ := hSw; go_simp; rfl
    simp only [Act.put]
    refine gate_takeF (i := 4) (v := ?_) rfl (by kernel_rfl) (by kernel_rfl) (by kernel_rfl) (fun _ _ _ h => h) (by decide) ⟨hF, fun _ => trivial⟩ (Or.inl ⟨by rfl, ?_⟩) ?_
    rotate_left
    · intro wq hSw; obtain ⟨s0, s1, s2, s3⟩ := hSw; go_simp; rfl
    simp only [Act.put]
    refine gate_takeF (i := 5) (v := ?_) rfl (by kernel_rfl) (by kernel_rfl) (by kernel_rfl) (fun _ _ _ h => h) (by decide) ⟨hF, fun _ => trivial⟩ (Or.inl ⟨by rfl, ?_⟩) ?_
    rotate_left
    · intro wq hSw; obtain ⟨s0, s1, s2, s3⟩ := hSw; go_simp; rfl
    simp only [Act.put]
    refine gate_takeF (i := 6) (v := ?_) rfl (by kernel_rfl) (by kernel_rfl) (by kernel_rfl) (fun _ _ _ h => h) (by decide) ⟨hF, fun _ => trivial⟩ (Or.inl ⟨by rfl, ?_⟩) ?_
    rotate_left
    · intro wq hSw; obtain ⟨s0, s1, s2, s3⟩ := hSw; go_simp; rfl
    simp only [Act.put]
    refine gate_takeF (i := 7) (v := ?_) rfl (by kernel_rfl) (by kernel_rfl) (by kernel_rfl) (fun _ _ _ h => h) (by decide) ⟨hF, fun _ => trivial⟩ (Or.inl ⟨by rfl, ?_⟩) ?_
    rotate_left
    · intro wq hSw; obtain ⟨s0, s1, s2, s3⟩ := hSw; go_simp; rfl
    simp only [Act.put]
    refine gate_takeF (i := 8) (v := ?_) rfl (by kernel_rfl) (by kernel_rfl) (by kernel_rfl) (fun _ _ _ h => h) (by decide) ⟨hF, fun _ => trivial⟩ (Or.inl ⟨by rfl, ?_⟩) ?_
    rotate_left
    · intro wq hSw; obtain ⟨s0, s1, s2, s3⟩ := hSw; go_simp; rfl
    simp only [Act.put]
    refine gate_one (i := 9) (by kernel_rfl) rfl (fun K hK => ?_)
    go_simp
    refine (HCK.out _).mono ?_
    rintro e w5 ⟨rfl, hb5⟩
    have hF' : w5.cell? ⟨x, 1, none⟩ = some (.int .i64 k) ∧ w5.cell? ⟨x, 2, none⟩ = some (.int .i64 m) ∧ w5.cell? ⟨X, 0, none⟩ = some (.int .i64 s) ∧ w5.cell? ⟨X, 1, none⟩ = some (.string (S t)) := ⟨hb5.cell_at hF.1, hb5.cell_at hF.2.1, hb5.cell_at hF.2.2.1, hb5.cell_at hF.2.2.2⟩
    refine hK _ _ ⟨hF', fun _ => trivial⟩ ?_
    clear hK K hF
    have hF := hF'
    clear hF'
    refine gate_takeF (i := 10) (v := ?_) rfl (by kernel_rfl) (by kernel_rfl) (by kernel_rfl) (fun _ _ _ h => h) (by decide) ⟨hF, fun _ => trivial⟩ (Or.inl ⟨by rfl, ?_⟩) ?_
    rotate_left
    · intro wq hSw; obtain ⟨s0, s1, s2, s3⟩ := hSw; go_simp; rfl
    simp only [Act.put]
    refine gate_done (by kernel_rfl) ?_ _
    have HB5 := Lib.hid (HB0.out.keep hb5)
    clear hb5 HB0 hF
    have e0 := HB5.out.r0
    have e1 := HB5.out.r1
    have e2 := HB5.out.r2
    have g0 := HB5.out.g0
    have g1 := HB5.out.g1
    have g2 := HB5.out.g2
    have QQ := three_put e0 e1 e2 (.int .i64 0) (.int .i64 0) (.int .i64 0)
    have hl : Lat w (((w5.setCell ⟨X + 1, 0, none⟩ (.int .i64 0)).setCell ⟨X + 1, 1, none⟩ (.int .i64 0)).setCell ⟨X + 1, 2, none⟩ (.int .i64 0)) := by
      have hw1 : w.heap.size ≤ X + 1 := by have := HX.out; omega
      exact ((HB5.out.lat.setCell (p := ⟨X + 1, 0, none⟩) hw1 _).setCell (p := ⟨X + 1, 1, none⟩) hw1 _).setCell (p := ⟨X + 1, 2, none⟩) hw1 _
    have HQ := Lib.hid QQ; have HLL := Lib.hid hl
    clear QQ hl
    go_wp2
    have Q0 := HQ.out
    exact bodyPost_ret (v := .tuple #[.agg #[.int .i64 0, .int .i64 0, .int .i64 0], eno E]) (by simp [results, Tryz.results5, go_sem, Q0.1, Q0.2.1, Q0.2.2]) rfl ⟨rfl, HLL.out⟩

set_option maxHeartbeats 4000000 in
set_option maxRecDepth 100000 in
theorem ear_hear_old (G : Nat → Prop) (x k m n : Nat) (q : Int) (K0 : Kn) (L : List Wt) (ds : List Dr) (s : Int) (t : Bts) (w : World) (h : EarO G x k m n q K0 L ds w) (hE : hrE k m ds s t = 0) (hmem : s ∈ ds.map Dr.s) (qn : Int) (hqn : wrap64 (q + 1) = qn) :
    Calls Tryz.prog 5 #[.pointer (some ⟨x, 0, none⟩), .agg #[.int .i64 s, .string (S t)]] w fun e w' => e = .returned (.tuple #[.agg #[.int .i64 qn, .int .i64 (ds.length : Nat), .int .i64 ((knwL K0 k).length : Nat)], .nilIface]) ∧ EarStep G x k m n qn K0 L ds w w' := by
  obtain ⟨Gp, p, a, cap, h⟩ := h
  obtain ⟨hde, hl60⟩ := hrE_zero hE
  have hck := fun W => dchk_tells k m s (S t) W
  rw [hde, errv_zero rfl] at hck
  have hd2 := drpE_zero hde
  have hk16 : k ≤ 16 := by omega
  have HCK : Hid (∀ W, Calls Tryz.prog 16 #[.int .i64 k, .int .i64 m, .agg #[.int .i64 s, .string (S t)]] W fun e w' => e = .returned .nilIface ∧ Lat W w') := hck
  obtain ⟨ln, hln⟩ : ∃ ln, ln = ds.length := ⟨_, rfl⟩
  have d60 : decide ((60 : Int) ≤ (ln : Int)) = false := decide_eq_false (by omega)
  have HH := Lib.hid h; have HMEM := Lib.hid hmem; have HDE := Lib.hid hde; have HLN := Lib.hid hln; have HL60 := Lib.hid hl60
  obtain ⟨kn, hkn⟩ : ∃ kn, kn = (knwL K0 k).length := ⟨_, rfl⟩
  have HKN := Lib.hid hkn
  rw [← hln, ← hkn]
  clear h hck hE hde hd2 hln hkn hmem hl60
  go_enter Tryz.func5, Tryz.ntmps5
  go_upto_region 1 with fail
  obtain ⟨X, hX⟩ : ∃ X, X = w.heap.size := ⟨_, rfl⟩
  obtain ⟨W0, hW0⟩ : ∃ W0, W0 = (w.alloc (.cells #[.int .i64 s, .string (S t)] 33)).alloc (.cells #[.int .i64 0, .int .i64 0, .int .i64 0] 29) := ⟨_, rfl⟩
  have hb0 := HL.new w s t
  rw [← hW0] at hb0
  rw [← hW0]
  rw [← hX] at hb0
  rw [← hX]
  have HX : Hid (X = w.heap.size) := hX
  clear hW0 hX
  have hF : W0.drew.cell? ⟨x, 1, none⟩ = some (.int .i64 k) ∧ W0.drew.cell? ⟨x, 2, none⟩ = some (.int .i64 m) ∧ W0.drew.cell? ⟨X, 0, none⟩ = some (.int .i64 s) ∧ W0.drew.cell? ⟨X, 1, none⟩ = some (.string (S t)) := ⟨hb0.lat.cell_at HH.out.c1, hb0.lat.cell_at HH.out.c2, hb0.c0, hb0.c1⟩
  have HB0 := Lib.hid (hb0.keep (Lat.drew W0))
  clear hb0
  refine wp_region_gate (fun w' => w'.cell? ⟨x, 1, none⟩ = some (.int .i64 k) ∧ w'.cell? ⟨x, 2, none⟩ = some (.int .i64 m) ∧ w'.cell? ⟨X, 0, none⟩ = some (.int .i64 s) ∧ w'.cell? ⟨X, 1, none⟩ = some (.string (S t))) (fun _ => True) 1000 (by kernel_rfl) ?_
  refine gate_takeF (i := 0) (v := ?_) rfl (by kernel_rfl) (by kernel_rfl) (by kernel_rfl) (fun _ _ _ h => h) (by decide) ⟨hF, fun _ => trivial⟩ (Or.inl ⟨by rfl, ?_⟩) ?_
  rotate_left
  · intro wq hSw; obtain ⟨s0, s1, s2, s3⟩ := hSw; go_simp; rfl
  simp only [Act.put]
  refine gate_takeF (i := 1) (v := ?_) rfl (by kernel_rfl) (by kernel_rfl) (by kernel_rfl) (fun _ _ _ h => h) (by decide) ⟨hF, fun _ => trivial⟩ (Or.inl ⟨by rfl, ?_⟩) ?_
  rotate_left
  · intro wq hSw; obtain ⟨s0, s1, s2, s3⟩ := hSw; go_simp; rfl
  simp only [Act.put]
  refine gate_takeF (i := 2) (v := ?_) rfl (by kernel_rfl) (by kernel_rfl) (by kernel_rfl) (fun _ _ _ h => h) (by decide) ⟨hF, fun _ => trivial⟩ (Or.inl ⟨by rfl, ?_⟩) ?_
  rotate_left
  · intro wq hSw; obtain ⟨s0, s1, s2, s3⟩ := hSw; go_simp; rfl
  simp only [Act.put]
  refine gate_takeF (i := 3) (v := ?_) rfl (by kernel_rfl) (by kernel_rfl) (by kernel_rfl) (fun _ _ _ h => h) (by decide) ⟨hF, fun _ => trivial⟩ (Or.inl ⟨by rfl, ?_⟩) ?_
  rotate_left
  · intro wq hSw; obtain ⟨s0, s1, s2, s3⟩ := hSw; go_simp; rfl
  simp only [Act.put]
  refine gate_takeF (i := 4) (v := ?_) rfl (by kernel_rfl) (by kernel_rfl) (by kernel_rfl) (fun _ _ _ h => h) (by decide) ⟨hF, fun _ => trivial⟩ (Or.inl ⟨by rfl, ?_⟩) ?_
  rotate_left
  · intro wq hSw; obtain ⟨s0, s1, s2, s3⟩ := hSw; go_simp; rfl
  simp only [Act.put]
  refine gate_takeF (i := 5) (v := ?_) rfl (by kernel_rfl) (by kernel_rfl) (by kernel_rfl) (fun _ _ _ h => h) (by decide) ⟨hF, fun _ => trivial⟩ (Or.inl ⟨by rfl, ?_⟩) ?_
  rotate_left
  · intro wq hSw; obtain ⟨s0, s1, s2, s3⟩ := hSw; go_simp; rfl
  simp only [Act.put]
  refine gate_takeF (i := 6) (v := ?_) rfl (by kernel_rfl) (by kernel_rfl) (by kernel_rfl) (fun _ _ _ h => h) (by decide) ⟨hF, fun _ => trivial⟩ (Or.inl ⟨by rfl, ?_⟩) ?_
  rotate_left
  · intro wq hSw; obtain ⟨s0, s1, s2, s3⟩ := hSw; go_simp; rfl
  simp only [Act.put]
  refine gate_takeF (i := 7) (v := ?_) rfl (by kernel_rfl) (by kernel_rfl) (by kernel_rfl) (fun _ _ _ h => h) (by decide) ⟨hF, fun _ => trivial⟩ (Or.inl ⟨by rfl, ?_⟩) ?_
  rotate_left
  · intro wq hSw; obtain ⟨s0, s1, s2, s3⟩ := hSw; go_simp; rfl
  simp only [Act.put]
  refine gate_takeF (i := 8) (v := ?_) rfl (by kernel_rfl) (by kernel_rfl) (by kernel_rfl) (fun _ _ _ h => h) (by decide) ⟨hF, fun _ => trivial⟩ (Or.inl ⟨by rfl, ?_⟩) ?_
  rotate_left
  · intro wq hSw; obtain ⟨s0, s1, s2, s3⟩ := hSw; go_simp; rfl
  simp only [Act.put]
  refine gate_one (i := 9) (by kernel_rfl) rfl (fun K hK => ?_)
  go_simp
  refine (HCK.out _).mono ?_
  rintro e w5 ⟨rfl, hb5⟩
  have hF' : w5.cell? ⟨x, 1, none⟩ = some (.int .i64 k) ∧ w5.cell? ⟨x, 2, none⟩ = some (.int .i64 m) ∧ w5.cell? ⟨X, 0, none⟩ = some (.int .i64 s) ∧ w5.cell? ⟨X, 1, none⟩ = some (.string (S t)) := ⟨hb5.cell_at hF.1, hb5.cell_at hF.2.1, hb5.cell_at hF.2.2.1, hb5.cell_at hF.2.2.2⟩
  refine hK _ _ ⟨hF', fun _ => trivial⟩ ?_
  clear hK K hF
  have hF := hF'
  clear hF'
  refine gate_takeF (i := 10) (v := ?_) rfl (by kernel_rfl) (by kernel_rfl) (by kernel_rfl) (fun _ _ _ h => h) (by decide) ⟨hF, fun _ => trivial⟩ (Or.inl ⟨by rfl, ?_⟩) ?_
  rotate_left
  · intro wq hSw; obtain ⟨s0, s1, s2, s3⟩ := hSw; go_simp; rfl
  simp only [Act.put]
  refine gate_done (by kernel_rfl) ?_ _
  have HB5 := Lib.hid (HB0.out.keep hb5)
  clear hb5 HB0 hF
  have c5 := HB5.out.lat.cell_at HH.out.c5
  rw [← HLN.out] at c5
  go_upto_region 6 with fail
  clear c5
  have hF : w5.drew.cell? ⟨X, 0, none⟩ = some (.int .i64 s) ∧ w5.drew.cell? ⟨X, 1, none⟩ = some (.string (S t)) := ⟨HB5.out.c0, HB5.out.c1⟩
  have HB6 := Lib.hid (HB5.out.keep (Lat.drew w5))
  refine wp_region_gate (fun w' => w'.cell? ⟨X, 0, none⟩ = some (.int .i64 s) ∧ w'.cell? ⟨X, 1, none⟩ = some (.string (S t))) (fun _ => True) 1000 (by kernel_rfl) ?_
  refine gate_takeF (i := 0) (v := ?_) rfl (by kernel_rfl) (by kernel_rfl) (by kernel_rfl) (fun _ _ _ h => h) (by decide) ⟨hF, fun _ => trivial⟩ (Or.inl ⟨by rfl, ?_⟩) ?_
  rotate_left
  · intro wq hSw; obtain ⟨s0, s1⟩ := hSw; go_simp; rfl
  simp only [Act.put]
  refine gate_takeF (i := 2) (v := ?_) rfl (by kernel_rfl) (by kernel_rfl) (by kernel_rfl) (fun _ _ _ h => h) (by decide) ⟨hF, fun _ => trivial⟩ (Or.inl ⟨by rfl, ?_⟩) ?_
  rotate_left
  · intro wq hSw; obtain ⟨s0, s1⟩ := hSw; go_simp; rfl
  simp only [Act.put]
  refine gate_takeF (i := 3) (v := ?_) rfl (by kernel_rfl) (by kernel_rfl) (by kernel_rfl) (fun _ _ _ h => h) (by decide) ⟨hF, fun _ => trivial⟩ (Or.inl ⟨by rfl, ?_⟩) ?_
  rotate_left
  · intro wq hSw; obtain ⟨s0, s1⟩ := hSw; go_simp; rfl
  simp only [Act.put]
  refine gate_one (i := 1) (by kernel_rfl) rfl (fun K hK => ?_)
  have hsd := ear_seeds G x k m n q K0 L ds w5.drew ⟨Gp, p, a, cap, HH.out.keep HB6.out.lat⟩
  rw [← HLN.out] at hsd
  go_simp
  refine hsd.mono ?_
  rintro e w6 ⟨ya, yc, rfl, hyi, hb6⟩
  have hF' : w6.cell? ⟨X, 0, none⟩ = some (.int .i64 s) ∧ w6.cell? ⟨X, 1, none⟩ = some (.string (S t)) := ⟨hb6.cell_at hF.1, hb6.cell_at hF.2⟩
  refine hK _ _ ⟨hF', fun _ => trivial⟩ ?_
  clear hK K hF hsd
  have hF := hF'
  clear hF'
  refine gate_one (i := 4) (by kernel_rfl) rfl (fun K hK => ?_)
  go_simp
  refine (containsI_yes ya ln yc _ _ w6 hyi HMEM.out).mono ?_
  rintro e w7 ⟨rfl, rfl⟩
  refine hK _ _ ⟨hF, fun _ => trivial⟩ ?_
  clear hK K
  refine gate_takeF (i := 5) (v := ?_) rfl (by kernel_rfl) (by kernel_rfl) (by kernel_rfl) (fun _ _ _ h => h) (by decide) ⟨hF, fun _ => trivial⟩ (Or.inl ⟨by rfl, ?_⟩) ?_
  rotate_left
  · intro wq hSw; obtain ⟨s0, s1⟩ := hSw; go_simp; rfl
  simp only [Act.put]
  refine gate_done (by kernel_rfl) ?_ _
  have HB7 := Lib.hid (HB6.out.keep hb6)
  clear hb6 hyi HB6 hF HB5
  have HE := Lib.hid (HH.out.keep HB7.out.lat)
  have HBB := Lib.hid HB7.out.toHB
  have HFR : Hid (Fr G w w6) := Fr.lat HB7.out.lat
  have HLL : Hid (ds.length = ln) := HLN.out.symm
  have HNX : Hid (∀ i, G i → i ≠ X + 1) := fun i hi e => by have := HH.out.lt i hi; have := HX.out; omega
  have HGI : Hid (∀ i, G i → G i ∨ w.heap.size ≤ i) := fun i hi => .inl hi
  have c4 := HE.out.c4
  have f4 := HE.out.f4
  go_upto_region 12 with fail
  clear c4 f4
  have hcnt := HE.out.count qn
  have hbb := HBB.out.fr (Fr.set (S := fun i => i = x) _ ⟨x, 4, none⟩ (.int .i64 qn) rfl) (fun i e => by rw [e]; exact HH.out.lt x HH.out.gx)
  have hfrc := HFR.out.then_set ⟨x, 4, none⟩ (.int .i64 qn) (.inl HH.out.gx)
  generalize hwe : World.setCell _ ⟨x, 4, none⟩ (.int .i64 qn) = we at hcnt hbb hfrc ⊢
  have hc4 := hcnt.c4
  have hc5 := hcnt.c5
  rw [HLL.out] at hc5
  have hF : we.drew.cell? ⟨x, 4, none⟩ = some (.int .i64 qn) ∧ we.drew.cell? ⟨x, 5, none⟩ = some (.slice a ln cap) ∧ we.drew.cell? ⟨x, 0, none⟩ = some (.pointer (some ⟨p, 0, none⟩)) := ⟨hc4, hc5, hcnt.c0⟩
  have hG : we.drew.cell? ⟨X + 1, 0, none⟩ = some (.int .i64 0) ∧ we.drew.cell? ⟨X + 1, 1, none⟩ = some (.int .i64 0) ∧ we.drew.cell? ⟨X + 1, 2, none⟩ = some (.int .i64 0) := ⟨hbb.r0, hbb.r1, hbb.r2⟩
  have HEC := Lib.hid hcnt; have HBC := Lib.hid hbb; have HFC := Lib.hid hfrc
  clear hwe hcnt hbb hfrc hc4 hc5 HE HBB HFR
  refine wp_region_gate (fun w' => w'.cell? ⟨x, 4, none⟩ = some (.int .i64 qn) ∧ w'.cell? ⟨x, 5, none⟩ = some (.slice a ln cap) ∧ w'.cell? ⟨x, 0, none⟩ = some (.pointer (some ⟨p, 0, none⟩))) (fun w' => w'.cell? ⟨X + 1, 0, none⟩ = some (.int .i64 0) ∧ w'.cell? ⟨X + 1, 1, none⟩ = some (.int .i64 0) ∧ w'.cell? ⟨X + 1, 2, none⟩ = some (.int .i64 0)) 16 (by kernel_rfl) ?_
  refine gate_takeF (i := 0) (v := ?_) rfl (by kernel_rfl) (by kernel_rfl) (by kernel_rfl) (fun _ _ _ h => h) (by decide) ⟨hF, fun _ => hG⟩ (Or.inl ⟨by rfl, ?_⟩) ?_
  rotate_left
  · intro wq hSw; obtain ⟨s0, s1, s2⟩ := hSw; go_simp; rfl
  simp only [Act.put]
  refine gate_takeF (i := 1) (v := ?_) rfl (by kernel_rfl) (by kernel_rfl) (by kernel_rfl) (fun _ _ _ h => h) (by decide) ⟨hF, fun _ => hG⟩ (Or.inl ⟨by rfl, ?_⟩) ?_
  rotate_left
  · intro wq hSw; obtain ⟨s0, s1, s2⟩ := hSw; go_simp; rfl
  simp only [Act.put]
  refine gate_takeF (i := 2) (v := ?_) rfl (by kernel_rfl) (by kernel_rfl) (by kernel_rfl) (fun _ _ _ h => h) (by decide) ⟨hF, fun _ => hG⟩ (Or.inl ⟨by rfl, ?_⟩) ?_
  rotate_left
  · intro wq hSw; obtain ⟨s0, s1, s2⟩ := hSw; go_simp; rfl
  simp only [Act.put]
  refine gate_takeF (i := 3) (v := ?_) rfl (by kernel_rfl) (by kernel_rfl) (by kernel_rfl) (fun _ _ _ h => h) (by decide) ⟨hF, fun _ => hG⟩ (Or.inl ⟨by rfl, ?_⟩) ?_
  rotate_left
  · intro wq hSw; obtain ⟨s0, s1, s2⟩ := hSw; go_simp; rfl
  simp only [Act.put]
  refine gate_takeF (i := 4) (v := ?_) rfl (by kernel_rfl) (by kernel_rfl) (by kernel_rfl) (fun _ _ _ h => h) (by decide) ⟨hF, fun _ => hG⟩ (Or.inl ⟨by rfl, ?_⟩) ?_
  rotate_left
  · intro wq hSw; obtain ⟨s0, s1, s2⟩ := hSw; go_simp; rfl
  simp only [Act.put]
  refine gate_takeF (i := 5) (v := ?_) rfl (by kernel_rfl) (by kernel_rfl) (by kernel_rfl) (fun _ _ _ h => h) (by decide) ⟨hF, fun _ => hG⟩ (Or.inl ⟨by rfl, ?_⟩) ?_
  rotate_left
  · intro wq hSw; obtain ⟨s0, s1, s2⟩ := hSw; go_simp; rfl
  simp only [Act.put]
  refine gate_takeF (i := 6) (v := ?_) rfl (by kernel_rfl) (by kernel_rfl) (by kernel_rfl) (fun _ _ _ h => h) (by decide) ⟨hF, fun _ => hG⟩ (Or.inl ⟨by rfl, ?_⟩) ?_
  rotate_left
  · intro wq hSw; obtain ⟨s0, s1, s2⟩ := hSw; go_simp; rfl
  simp only [Act.put]
  refine gate_takeF (i := 7) (v := ?_) rfl (by kernel_rfl) (by kernel_rfl) (by kernel_rfl) (fun _ _ _ h => h) (by decide) ⟨hF, fun _ => hG⟩ (Or.inl ⟨by rfl, ?_⟩) ?_
  rotate_left
  · intro wq hSw; obtain ⟨s0, s1, s2⟩ := hSw; go_simp; rfl
  simp only [Act.put]
  refine gate_takeF (i := 8) (v := ?_) rfl (by kernel_rfl) (by kernel_rfl) (by kernel_rfl) (fun _ _ _ h => h) (by decide) ⟨hF, fun _ => hG⟩ (Or.inl ⟨by rfl, ?_⟩) ?_
  rotate_left
  · intro wq hSw; obtain ⟨s0, s1, s2⟩ := hSw; go_simp; rfl
  simp only [Act.put]
  refine gate_takeF (i := 9) (v := ?_) rfl (by kernel_rfl) (by kernel_rfl) (by kernel_rfl) (fun _ _ _ h => h) (by decide) ⟨hF, fun _ => hG⟩ (Or.inl ⟨by rfl, ?_⟩) ?_
  rotate_left
  · intro wq hSw; obtain ⟨s0, s1, s2⟩ := hSw; go_simp; rfl
  simp only [Act.put]
  refine gate_takeF (i := 10) (v := ?_) rfl (by kernel_rfl) (by kernel_rfl) (by kernel_rfl) (fun _ _ _ h => h) (by decide) ⟨hF, fun _ => hG⟩ (Or.inl ⟨by rfl, ?_⟩) ?_
  rotate_left
  · intro wq hSw; obtain ⟨s0, s1, s2⟩ := hSw; go_simp; rfl
  simp only [Act.put]
  refine gate_takeF (i := 11) (v := ?_) rfl (by kernel_rfl) (by kernel_rfl) (by kernel_rfl) (fun _ _ _ h => h) (by decide) ⟨hF, fun _ => hG⟩ (Or.inl ⟨by rfl, ?_⟩) ?_
  rotate_left
  · intro wq hSw; obtain ⟨s0, s1, s2⟩ := hSw; go_simp; rfl
  simp only [Act.put]
  refine gate_takeF (i := 12) (v := ?_) rfl (by kernel_rfl) (by kernel_rfl) (by kernel_rfl) (fun _ _ _ h => h) (by decide) ⟨hF, fun _ => hG⟩ (Or.inl ⟨by rfl, ?_⟩) ?_
  rotate_left
  · intro wq hSw; obtain ⟨s0, s1, s2⟩ := hSw; go_simp; rfl
  simp only [Act.put]
  refine gate_one (i := 13) (by kernel_rfl) rfl (fun K hK => ?_)
  have hkn := peel_knows _ p k m _ _ _ we.drew (HEC.out.keep (Lat.drew we)).peel hk16
  rw [← HKN.out] at hkn
  go_simp
  refine hkn.mono ?_
  rintro e wk ⟨oa, oc, rfl, _, hbk⟩
  have hF' : wk.cell? ⟨x, 4, none⟩ = some (.int .i64 qn) ∧ wk.cell? ⟨x, 5, none⟩ = some (.slice a ln cap) ∧ wk.cell? ⟨x, 0, none⟩ = some (.pointer (some ⟨p, 0, none⟩)) := ⟨hbk.cell_at hF.1, hbk.cell_at hF.2.1, hbk.cell_at hF.2.2⟩
  have hG' : wk.cell? ⟨X + 1, 0, none⟩ = some (.int .i64 0) ∧ wk.cell? ⟨X + 1, 1, none⟩ = some (.int .i64 0) ∧ wk.cell? ⟨X + 1, 2, none⟩ = some (.int .i64 0) := ⟨hbk.cell_at hG.1, hbk.cell_at hG.2.1, hbk.cell_at hG.2.2⟩
  have HBK := Lib.hid ((Lat.drew we).trans hbk)
  refine hK _ _ ⟨hF', fun _ => hG'⟩ ?_
  clear hK K hF hG hkn hbk
  have hF := hF'
  have hG := hG'
  clear hF' hG'
  refine gate_takeF (i := 14) (v := ?_) rfl (by kernel_rfl) (by kernel_rfl) (by kernel_rfl) (fun _ _ _ h => h) (by decide) ⟨hF, fun _ => hG⟩ (Or.inl ⟨by rfl, ?_⟩) ?_
  rotate_left
  · intro wq hSw; obtain ⟨s0, s1, s2⟩ := hSw; go_simp; rfl
  simp only [Act.put]
  refine gate_takeF (i := 15) (v := ?_) rfl (by kernel_rfl) (by kernel_rfl) (by kernel_rfl) (fun _ _ _ h => h) (by decide) ⟨hF, fun _ => hG⟩ (Or.inl ⟨by rfl, ?_⟩) ?_
  rotate_left
  · intro wq hSw; obtain ⟨s0, s1, s2⟩ := hSw; go_simp; rfl
  simp only [Act.put]
  have hbf := HBC.out.keep HBK.out
  have e0 := hG.1
  have e1 := hG.2.1
  have e2 := hG.2.2
  have g0 := hbf.g0
  have g1 := hbf.g1
  have g2 := hbf.g2
  have HBF := Lib.hid hbf
  have hqX : ∀ i, i ≠ X + 1 → ∀ j v u1 u2 u3, wk.cell? ⟨i, j, none⟩ = some v → (((wk.setCell ⟨X + 1, 0, none⟩ u1).setCell ⟨X + 1, 1, none⟩ u2).setCell ⟨X + 1, 2, none⟩ u3).cell? ⟨i, j, none⟩ = some v := fun i hi j v u1 u2 u3 hv => by
    rw [World.cell?_setCell_other _ _ _ _ (by intro e; injection e with e _ _; exact hi e.symm), World.cell?_setCell_other _ _ _ _ (by intro e; injection e with e _ _; exact hi e.symm), World.cell?_setCell_other _ _ _ _ (by intro e; injection e with e _ _; exact hi e.symm)]; exact hv
  have hxX : x ≠ X + 1 := by have := HH.out.lt x HH.out.gx; have := HX.out; omega
  have hF9 := fun u1 u2 u3 => And.intro (hqX x hxX _ _ u1 u2 u3 hF.1) (And.intro (hqX x hxX _ _ u1 u2 u3 hF.2.1) (hqX x hxX _ _ u1 u2 u3 hF.2.2))
  have HF9 := Lib.hid hF9
  have QQ := three_put hG.1 hG.2.1 hG.2.2 (.int .i64 qn) (.int .i64 (ln : Nat)) (.int .i64 (kn : Nat))
  have HQQ := Lib.hid QQ
  refine gate_one (i := 16) (by kernel_rfl) rfl (fun K hK => ?_)
  clear hF9 hqX QQ hbf
  go_simp
  refine hK _ _ (FG.past (by kernel_rfl) (HF9.out _ _ _)) ?_
  clear hK K hF hG e0 e1 e2 g0 g1 g2
  refine gate_takeF (i := 17) (v := ?_) rfl (by kernel_rfl) (by kernel_rfl) (by kernel_rfl) (fun _ _ _ h => h) (by decide) (FG.past (by kernel_rfl) (HF9.out _ _ _)) (Or.inl ⟨by rfl, ?_⟩) ?_
  rotate_left
  · intro wq hSw; go_simp; rfl
  simp only [Act.put]
  refine gate_done (by kernel_rfl) ?_ _
  simp only [List.getElem_toArray, List.getElem_cons_succ, List.getElem_cons_zero]
  go_wp2
  have hff : Fr (fun i => i = X + 1) wk (((wk.setCell ⟨X + 1, 0, none⟩ (.int .i64 qn)).setCell ⟨X + 1, 1, none⟩ (.int .i64 (ln : Nat))).setCell ⟨X + 1, 2, none⟩ (.int .i64 (kn : Nat))) := ((Fr.set (S := fun i => i = X + 1) wk ⟨X + 1, 0, none⟩ _ rfl).then_set ⟨X + 1, 1, none⟩ _ (.inl rfl)).then_set ⟨X + 1, 2, none⟩ _ (.inl rfl)
  have hfin : EarStep G x k m n qn K0 L ds w (((wk.setCell ⟨X + 1, 0, none⟩ (.int .i64 qn)).setCell ⟨X + 1, 1, none⟩ (.int .i64 (ln : Nat))).setCell ⟨X + 1, 2, none⟩ (.int .i64 (kn : Nat))) :=
    ⟨(HFC.out.next HBK.out).trans hff (fun i hi e => by have := HX.out; omega), _, ⟨_, _, _, _, (HEC.out.keep HBK.out).fr hff (fun i hi e => HNX.out i hi e)⟩, HGI.out⟩
  have Q0 := HQQ.out
  refine bodyPost_ret (v := .tuple #[.agg #[.int .i64 qn, .int .i64 (ln : Nat), .int .i64 (kn : Nat)], .nilIface]) (by simp [results, Tryz.results5, go_sem, Q0.1, Q0.2.1, Q0.2.2]) rfl ⟨?_, hfin⟩
  rfl

set_option maxHeartbeats 4000000 in
set_option maxRecDepth 100000 in
theorem ear_hear_new (G : Nat → Prop) (x k m n : Nat) (q : Int) (K0 : Kn) (L : List Wt) (ds : List Dr) (s : Int) (t : Bts) (w : World) (h : EarO G x k m n q K0 L ds w) (hE : hrE k m ds s t = 0) (hmem : s ∉ ds.map Dr.s) (qn : Int) (hqn : wrap64 (q + 1) = qn) :
    Calls Tryz.prog 5 #[.pointer (some ⟨x, 0, none⟩), .agg #[.int .i64 s, .string (S t)]] w fun e w' => e = .returned (.tuple #[.agg #[.int .i64 qn, .int .i64 (ds.length + 1 : Nat), .int .i64 ((knwL (lrnK k K0 (L ++ [(setZ k s.toNat, t)])) k).length : Nat)], .nilIface]) ∧ EarStep G x k m n qn (lrnK k K0 (L ++ [(setZ k s.toNat, t)])) (lrnL k K0 (L ++ [(setZ k s.toNat, t)])) (ds ++ [⟨s, S t⟩]) w w' := by
  obtain ⟨Gp, p, a, cap, h⟩ := h
  obtain ⟨hde, hl60⟩ := hrE_zero hE
  have hck := fun W => dchk_tells k m s (S t) W
  rw [hde, errv_zero rfl] at hck
  have hd2 := drpE_zero hde
  have hk16 : k ≤ 16 := by omega
  have HCK : Hid (∀ W, Calls Tryz.prog 16 #[.int .i64 k, .int .i64 m, .agg #[.int .i64 s, .string (S t)]] W fun e w' => e = .returned .nilIface ∧ Lat W w') := hck
  obtain ⟨ln, hln⟩ : ∃ ln, ln = ds.length := ⟨_, rfl⟩
  have d60 : decide ((60 : Int) ≤ (ln : Int)) = false := decide_eq_false (by omega)
  have HH := Lib.hid h; have HMEM := Lib.hid hmem; have HDE := Lib.hid hde; have HLN := Lib.hid hln; have HL60 := Lib.hid hl60
  have hte : tkE k m (ds.map Dr.s) s t = 0 := by
    unfold tkE
    rw [if_neg (fun e => e hde), if_neg hmem, if_neg (by rw [List.length_map]; omega)]
  have HTE := Lib.hid hte
  obtain ⟨kn, hkn⟩ : ∃ kn, kn = (knwL (lrnK k K0 (L ++ [(setZ k s.toNat, t)])) k).length := ⟨_, rfl⟩
  have HKN := Lib.hid hkn
  rw [← hln, ← hkn]
  clear h hck hE hde hd2 hln hkn hmem hl60 hte
  go_enter Tryz.func5, Tryz.ntmps5
  go_upto_region 1 with fail
  obtain ⟨X, hX⟩ : ∃ X, X = w.heap.size := ⟨_, rfl⟩
  obtain ⟨W0, hW0⟩ : ∃ W0, W0 = (w.alloc (.cells #[.int .i64 s, .string (S t)] 33)).alloc (.cells #[.int .i64 0, .int .i64 0, .int .i64 0] 29) := ⟨_, rfl⟩
  have hb0 := HL.new w s t
  rw [← hW0] at hb0
  rw [← hW0]
  rw [← hX] at hb0
  rw [← hX]
  have HX : Hid (X = w.heap.size) := hX
  clear hW0 hX
  have hF : W0.drew.cell? ⟨x, 1, none⟩ = some (.int .i64 k) ∧ W0.drew.cell? ⟨x, 2, none⟩ = some (.int .i64 m) ∧ W0.drew.cell? ⟨X, 0, none⟩ = some (.int .i64 s) ∧ W0.drew.cell? ⟨X, 1, none⟩ = some (.string (S t)) := ⟨hb0.lat.cell_at HH.out.c1, hb0.lat.cell_at HH.out.c2, hb0.c0, hb0.c1⟩
  have HB0 := Lib.hid (hb0.keep (Lat.drew W0))
  clear hb0
  refine wp_region_gate (fun w' => w'.cell? ⟨x, 1, none⟩ = some (.int .i64 k) ∧ w'.cell? ⟨x, 2, none⟩ = some (.int .i64 m) ∧ w'.cell? ⟨X, 0, none⟩ = some (.int .i64 s) ∧ w'.cell? ⟨X, 1, none⟩ = some (.string (S t))) (fun _ => True) 1000 (by kernel_rfl) ?_
  refine gate_takeF (i := 0) (v := ?_) rfl (by kernel_rfl) (by kernel_rfl) (by kernel_rfl) (fun _ _ _ h => h) (by decide) ⟨hF, fun _ => trivial⟩ (Or.inl ⟨by rfl, ?_⟩) ?_
  rotate_left
  · intro wq hSw; obtain ⟨s0, s1, s2, s3⟩ := hSw; go_simp; rfl
  simp only [Act.put]
  refine gate_takeF (i := 1) (v := ?_) rfl (by kernel_rfl) (by kernel_rfl) (by kernel_rfl) (fun _ _ _ h => h) (by decide) ⟨hF, fun _ => trivial⟩ (Or.inl ⟨by rfl, ?_⟩) ?_
  rotate_left
  · intro wq hSw; obtain ⟨s0, s1, s2, s3⟩ := hSw; go_simp; rfl
  simp only [Act.put]
  refine gate_takeF (i := 2) (v := ?_) rfl (by kernel_rfl) (by kernel_rfl) (by kernel_rfl) (fun _ _ _ h => h) (by decide) ⟨hF, fun _ => trivial⟩ (Or.inl ⟨by rfl, ?_⟩) ?_
  rotate_left
  · intro wq hSw; obtain ⟨s0, s1, s2, s3⟩ := hSw; go_simp; rfl
  simp only [Act.put]
  refine gate_takeF (i := 3) (v := ?_) rfl (by kernel_rfl) (by kernel_rfl) (by kernel_rfl) (fun _ _ _ h => h) (by decide) ⟨hF, fun _ => trivial⟩ (Or.inl ⟨by rfl, ?_⟩) ?_
  rotate_left
  · intro wq hSw; obtain ⟨s0, s1, s2, s3⟩ := hSw; go_simp; rfl
  simp only [Act.put]
  refine gate_takeF (i := 4) (v := ?_) rfl (by kernel_rfl) (by kernel_rfl) (by kernel_rfl) (fun _ _ _ h => h) (by decide) ⟨hF, fun _ => trivial⟩ (Or.inl ⟨by rfl, ?_⟩) ?_
  rotate_left
  · intro wq hSw; obtain ⟨s0, s1, s2, s3⟩ := hSw; go_simp; rfl
  simp only [Act.put]
  refine gate_takeF (i := 5) (v := ?_) rfl (by kernel_rfl) (by kernel_rfl) (by kernel_rfl) (fun _ _ _ h => h) (by decide) ⟨hF, fun _ => trivial⟩ (Or.inl ⟨by rfl, ?_⟩) ?_
  rotate_left
  · intro wq hSw; obtain ⟨s0, s1, s2, s3⟩ := hSw; go_simp; rfl
  simp only [Act.put]
  refine gate_takeF (i := 6) (v := ?_) rfl (by kernel_rfl) (by kernel_rfl) (by kernel_rfl) (fun _ _ _ h => h) (by decide) ⟨hF, fun _ => trivial⟩ (Or.inl ⟨by rfl, ?_⟩) ?_
  rotate_left
  · intro wq hSw; obtain ⟨s0, s1, s2, s3⟩ := hSw; go_simp; rfl
  simp only [Act.put]
  refine gate_takeF (i := 7) (v := ?_) rfl (by kernel_rfl) (by kernel_rfl) (by kernel_rfl) (fun _ _ _ h => h) (by decide) ⟨hF, fun _ => trivial⟩ (Or.inl ⟨by rfl, ?_⟩) ?_
  rotate_left
  · intro wq hSw; obtain ⟨s0, s1, s2, s3⟩ := hSw; go_simp; rfl
  simp only [Act.put]
  refine gate_takeF (i := 8) (v := ?_) rfl (by kernel_rfl) (by kernel_rfl) (by kernel_rfl) (fun _ _ _ h => h) (by decide) ⟨hF, fun _ => trivial⟩ (Or.inl ⟨by rfl, ?_⟩) ?_
  rotate_left
  · intro wq hSw; obtain ⟨s0, s1, s2, s3⟩ := hSw; go_simp; rfl
  simp only [Act.put]
  refine gate_one (i := 9) (by kernel_rfl) rfl (fun K hK => ?_)
  go_simp
  refine (HCK.out _).mono ?_
  rintro e w5 ⟨rfl, hb5⟩
  have hF' : w5.cell? ⟨x, 1, none⟩ = some (.int .i64 k) ∧ w5.cell? ⟨x, 2, none⟩ = some (.int .i64 m) ∧ w5.cell? ⟨X, 0, none⟩ = some (.int .i64 s) ∧ w5.cell? ⟨X, 1, none⟩ = some (.string (S t)) := ⟨hb5.cell_at hF.1, hb5.cell_at hF.2.1, hb5.cell_at hF.2.2.1, hb5.cell_at hF.2.2.2⟩
  refine hK _ _ ⟨hF', fun _ => trivial⟩ ?_
  clear hK K hF
  have hF := hF'
  clear hF'
  refine gate_takeF (i := 10) (v := ?_) rfl (by kernel_rfl) (by kernel_rfl) (by kernel_rfl) (fun _ _ _ h => h) (by decide) ⟨hF, fun _ => trivial⟩ (Or.inl ⟨by rfl, ?_⟩) ?_
  rotate_left
  · intro wq hSw; obtain ⟨s0, s1, s2, s3⟩ := hSw; go_simp; rfl
  simp only [Act.put]
  refine gate_done (by kernel_rfl) ?_ _
  have HB5 := Lib.hid (HB0.out.keep hb5)
  clear hb5 HB0 hF
  have c5 := HB5.out.lat.cell_at HH.out.c5
  rw [← HLN.out] at c5
  go_upto_region 6 with fail
  clear c5
  have hF : w5.drew.cell? ⟨X, 0, none⟩ = some (.int .i64 s) ∧ w5.drew.cell? ⟨X, 1, none⟩ = some (.string (S t)) := ⟨HB5.out.c0, HB5.out.c1⟩
  have HB6 := Lib.hid (HB5.out.keep (Lat.drew w5))
  refine wp_region_gate (fun w' => w'.cell? ⟨X, 0, none⟩ = some (.int .i64 s) ∧ w'.cell? ⟨X, 1, none⟩ = some (.string (S t))) (fun _ => True) 1000 (by kernel_rfl) ?_
  refine gate_takeF (i := 0) (v := ?_) rfl (by kernel_rfl) (by kernel_rfl) (by kernel_rfl) (fun _ _ _ h => h) (by decide) ⟨hF, fun _ => trivial⟩ (Or.inl ⟨by rfl, ?_⟩) ?_
  rotate_left
  · intro wq hSw; obtain ⟨s0, s1⟩ := hSw; go_simp; rfl
  simp only [Act.put]
  refine gate_takeF (i := 2) (v := ?_) rfl (by kernel_rfl) (by kernel_rfl) (by kernel_rfl) (fun _ _ _ h => h) (by decide) ⟨hF, fun _ => trivial⟩ (Or.inl ⟨by rfl, ?_⟩) ?_
  rotate_left
  · intro wq hSw; obtain ⟨s0, s1⟩ := hSw; go_simp; rfl
  simp only [Act.put]
  refine gate_takeF (i := 3) (v := ?_) rfl (by kernel_rfl) (by kernel_rfl) (by kernel_rfl) (fun _ _ _ h => h) (by decide) ⟨hF, fun _ => trivial⟩ (Or.inl ⟨by rfl, ?_⟩) ?_
  rotate_left
  · intro wq hSw; obtain ⟨s0, s1⟩ := hSw; go_simp; rfl
  simp only [Act.put]
  refine gate_one (i := 1) (by kernel_rfl) rfl (fun K hK => ?_)
  have hsd := ear_seeds G x k m n q K0 L ds w5.drew ⟨Gp, p, a, cap, HH.out.keep HB6.out.lat⟩
  rw [← HLN.out] at hsd
  go_simp
  refine hsd.mono ?_
  rintro e w6 ⟨ya, yc, rfl, hyi, hb6⟩
  have hF' : w6.cell? ⟨X, 0, none⟩ = some (.int .i64 s) ∧ w6.cell? ⟨X, 1, none⟩ = some (.string (S t)) := ⟨hb6.cell_at hF.1, hb6.cell_at hF.2⟩
  refine hK _ _ ⟨hF', fun _ => trivial⟩ ?_
  clear hK K hF hsd
  have hF := hF'
  clear hF'
  refine gate_one (i := 4) (by kernel_rfl) rfl (fun K hK => ?_)
  go_simp
  refine (containsI_no ya ln yc _ _ w6 hyi HMEM.out).mono ?_
  rintro e w7 ⟨rfl, rfl⟩
  refine hK _ _ ⟨hF, fun _ => trivial⟩ ?_
  clear hK K
  refine gate_takeF (i := 5) (v := ?_) rfl (by kernel_rfl) (by kernel_rfl) (by kernel_rfl) (fun _ _ _ h => h) (by decide) ⟨hF, fun _ => trivial⟩ (Or.inl ⟨by rfl, ?_⟩) ?_
  rotate_left
  · intro wq hSw; obtain ⟨s0, s1⟩ := hSw; go_simp; rfl
  simp only [Act.put]
  refine gate_done (by kernel_rfl) ?_ _
  have HB7 := Lib.hid (HB6.out.keep hb6)
  clear hb6 hyi HB6 hF HB5
  go_upto_region 7 with fail
  have hF : w6.drew.cell? ⟨x, 0, none⟩ = some (.pointer (some ⟨p, 0, none⟩)) ∧ w6.drew.cell? ⟨X, 0, none⟩ = some (.int .i64 s) ∧ w6.drew.cell? ⟨X, 1, none⟩ = some (.string (S t)) := ⟨HB7.out.lat.cell_at HH.out.c0, HB7.out.c0, HB7.out.c1⟩
  have HB8 := Lib.hid (HB7.out.keep (Lat.drew w6))
  refine wp_region_gate (fun w' => w'.cell? ⟨x, 0, none⟩ = some (.pointer (some ⟨p, 0, none⟩)) ∧ w'.cell? ⟨X, 0, none⟩ = some (.int .i64 s) ∧ w'.cell? ⟨X, 1, none⟩ = some (.string (S t))) (fun _ => True) 1000 (by kernel_rfl) ?_
  refine gate_takeF (i := 0) (v := ?_) rfl (by kernel_rfl) (by kernel_rfl) (by kernel_rfl) (fun _ _ _ h => h) (by decide) ⟨hF, fun _ => trivial⟩ (Or.inl ⟨by rfl, ?_⟩) ?_
  rotate_left
  · intro wq hSw; obtain ⟨s0, s1, s2⟩ := hSw; go_simp; rfl
  simp only [Act.put]
  refine gate_takeF (i := 1) (v := ?_) rfl (by kernel_rfl) (by kernel_rfl) (by kernel_rfl) (fun _ _ _ h => h) (by decide) ⟨hF, fun _ => trivial⟩ (Or.inl ⟨by rfl, ?_⟩) ?_
  rotate_left
  · intro wq hSw; obtain ⟨s0, s1, s2⟩ := hSw; go_simp; rfl
  simp only [Act.put]
  refine gate_takeF (i := 2) (v := ?_) rfl (by kernel_rfl) (by kernel_rfl) (by kernel_rfl) (fun _ _ _ h => h) (by decide) ⟨hF, fun _ => trivial⟩ (Or.inl ⟨by rfl, ?_⟩) ?_
  rotate_left
  · intro wq hSw; obtain ⟨s0, s1, s2⟩ := hSw; go_simp; rfl
  simp only [Act.put]
  refine gate_takeF (i := 3) (v := ?_) rfl (by kernel_rfl) (by kernel_rfl) (by kernel_rfl) (fun _ _ _ h => h) (by decide) ⟨hF, fun _ => trivial⟩ (Or.inl ⟨by rfl, ?_⟩) ?_
  rotate_left
  · intro wq hSw; obtain ⟨s0, s1, s2⟩ := hSw; go_simp; rfl
  simp only [Act.put]
  refine gate_takeF (i := 4) (v := ?_) rfl (by kernel_rfl) (by kernel_rfl) (by kernel_rfl) (fun _ _ _ h => h) (by decide) ⟨hF, fun _ => trivial⟩ (Or.inl ⟨by rfl, ?_⟩) ?_
  rotate_left
  · intro wq hSw; obtain ⟨s0, s1, s2⟩ := hSw; go_simp; rfl
  simp only [Act.put]
  refine gate_one (i := 5) (by kernel_rfl) rfl (fun K hK => ?_)
  have h8 := HH.out.keep HB8.out.lat
  have htk := take_ok Gp p k m K0 (ds.map Dr.s) L s t w6.drew h8.peel HTE.out
  have H8 := Lib.hid h8
  clear h8
  go_simp
  refine htk.mono ?_
  rintro e w8 ⟨ra, rc, rfl, _, hst⟩
  have hpX : ∀ i, w.heap.size ≤ i → ¬ Gp i := fun i hi e => by have := HH.out.lt i (HH.out.sub i e); omega
  have hF' : w8.cell? ⟨x, 0, none⟩ = some (.pointer (some ⟨p, 0, none⟩)) ∧ w8.cell? ⟨X, 0, none⟩ = some (.int .i64 s) ∧ w8.cell? ⟨X, 1, none⟩ = some (.string (S t)) := ⟨hst.fr.cell_at hF.1 HH.out.npx, hst.fr.cell_at hF.2.1 (hpX X (by have := HX.out; omega)), hst.fr.cell_at hF.2.2 (hpX X (by have := HX.out; omega))⟩
  refine hK _ _ ⟨hF', fun _ => trivial⟩ ?_
  clear hK K hF htk
  have hF := hF'
  clear hF'
  refine gate_takeF (i := 6) (v := ?_) rfl (by kernel_rfl) (by kernel_rfl) (by kernel_rfl) (fun _ _ _ h => h) (by decide) ⟨hF, fun _ => trivial⟩ (Or.inl ⟨by rfl, ?_⟩) ?_
  rotate_left
  · intro wq hSw; obtain ⟨s0, s1, s2⟩ := hSw; go_simp; rfl
  simp only [Act.put]
  refine gate_takeF (i := 7) (v := ?_) rfl (by kernel_rfl) (by kernel_rfl) (by kernel_rfl) (fun _ _ _ h => h) (by decide) ⟨hF, fun _ => trivial⟩ (Or.inl ⟨by rfl, ?_⟩) ?_
  rotate_left
  · intro wq hSw; obtain ⟨s0, s1, s2⟩ := hSw; go_simp; rfl
  simp only [Act.put]
  refine gate_takeF (i := 8) (v := ?_) rfl (by kernel_rfl) (by kernel_rfl) (by kernel_rfl) (fun _ _ _ h => h) (by decide) ⟨hF, fun _ => trivial⟩ (Or.inl ⟨by rfl, ?_⟩) ?_
  rotate_left
  · intro wq hSw; obtain ⟨s0, s1, s2⟩ := hSw; go_simp; rfl
  simp only [Act.put]
  refine gate_takeF (i := 9) (v := ?_) rfl (by kernel_rfl) (by kernel_rfl) (by kernel_rfl) (fun _ _ _ h => h) (by decide) ⟨hF, fun _ => trivial⟩ (Or.inl ⟨by rfl, ?_⟩) ?_
  rotate_left
  · intro wq hSw; obtain ⟨s0, s1, s2⟩ := hSw; go_simp; rfl
  simp only [Act.put]
  refine gate_takeF (i := 10) (v := ?_) rfl (by kernel_rfl) (by kernel_rfl) (by kernel_rfl) (fun _ _ _ h => h) (by decide) ⟨hF, fun _ => trivial⟩ (Or.inl ⟨by rfl, ?_⟩) ?_
  rotate_left
  · intro wq hSw; obtain ⟨s0, s1, s2⟩ := hSw; go_simp; rfl
  simp only [Act.put]
  refine gate_done (by kernel_rfl) ?_ _
  have HST := Lib.hid hst
  have HPX := Lib.hid hpX
  have hb9 := HB8.out.toHB.fr hst.fr (fun i e => HH.out.lt i (HH.out.sub i e))
  have HB9 := Lib.hid hb9
  have HB8L := Lib.hid HB8.out.lat
  have HB8X := Lib.hid HB8.out.lt
  clear hst hpX hb9 hF HB8 HB7
  go_upto_region 10 with fail
  have hF : w8.drew.cell? ⟨X, 0, none⟩ = some (.int .i64 s) ∧ w8.drew.cell? ⟨X, 1, none⟩ = some (.string (S t)) := ⟨HB9.out.c0, HB9.out.c1⟩
  have hG : w8.drew.cell? ⟨x, 5, none⟩ = some (.slice a ln cap) := by
    have := HST.out.fr.cell_at H8.out.c5 HH.out.npx
    rw [← HLN.out] at this; exact this
  refine wp_region_gate (fun w' => w'.cell? ⟨X, 0, none⟩ = some (.int .i64 s) ∧ w'.cell? ⟨X, 1, none⟩ = some (.string (S t))) (fun w' => w'.cell? ⟨x, 5, none⟩ = some (.slice a ln cap)) 7 (by kernel_rfl) ?_
  refine gate_takeF (i := 0) (v := ?_) rfl (by kernel_rfl) (by kernel_rfl) (by kernel_rfl) (fun _ _ _ h => h) (by decide) ⟨hF, fun _ => hG⟩ (Or.inl ⟨by rfl, ?_⟩) ?_
  rotate_left
  · intro wq hSw; obtain ⟨s0, s1⟩ := hSw; go_simp; rfl
  simp only [Act.put]
  refine gate_takeF (i := 1) (v := ?_) rfl (by kernel_rfl) (by kernel_rfl) (by kernel_rfl) (fun _ _ _ h => h) (by decide) ⟨hF, fun _ => hG⟩ (Or.inl ⟨by rfl, ?_⟩) ?_
  rotate_left
  · intro wq hSw; obtain ⟨s0, s1⟩ := hSw; go_simp; rfl
  simp only [Act.put]
  refine gate_takeF (i := 2) (v := ?_) rfl (by kernel_rfl) (by kernel_rfl) (by kernel_rfl) (fun _ _ _ h => h) (by decide) ⟨hF, fun _ => hG⟩ (Or.inl ⟨by rfl, ?_⟩) ?_
  rotate_left
  · intro wq hSw; obtain ⟨s0, s1⟩ := hSw; go_simp; rfl
  simp only [Act.put]
  refine gate_takeF (i := 3) (v := ?_) rfl (by kernel_rfl) (by kernel_rfl) (by kernel_rfl) (fun _ _ _ h => h) (by decide) ⟨hF, fun _ => hG⟩ (Or.inl ⟨by rfl, ?_⟩) ?_
  rotate_left
  · intro wq hSw; obtain ⟨s0, s1⟩ := hSw; go_simp; rfl
  simp only [Act.put]
  refine gate_takeG (i := 4) (v := ?_) rfl (by kernel_rfl) (by kernel_rfl) (by kernel_rfl) (fun _ _ _ h => h) (by decide) (by kernel_rfl) (by kernel_rfl) ⟨hF, fun _ => hG⟩ (Or.inl ⟨by rfl, ?_⟩) ?_
  rotate_left
  · intro wq hSw; obtain ⟨⟨s0, s1⟩, s2⟩ := hSw; go_simp; rfl
  simp only [Act.put]
  refine gate_takeF (i := 5) (v := ?_) rfl (by kernel_rfl) (by kernel_rfl) (by kernel_rfl) (fun _ _ _ h => h) (by decide) ⟨hF, fun _ => hG⟩ (Or.inl ⟨by rfl, ?_⟩) ?_
  rotate_left
  · intro wq hSw; obtain ⟨s0, s1⟩ := hSw; go_simp; rfl
  simp only [Act.put]
  refine gate_one (i := 6) (by kernel_rfl) rfl (fun K hK => ?_)
  go_simp
  refine hK _ _ ⟨⟨(Lat.alloc _ _).cell_at hF.1, (Lat.alloc _ _).cell_at hF.2⟩, fun _ => (Lat.alloc _ _).cell_at hG⟩ ?_
  clear hK K
  have ho8 : OwnR w8.drew 0 33 2 (.slice a ln cap) (ds.map Dr.row) := by
    have := (H8.out.row.fr HST.out.fr (fun i hi => (H8.out.own i hi).2.2)).keep (Lat.drew w8)
    rw [← HLN.out] at this; exact this
  have HO8 := Lib.hid ho8
  have HRL : Hid ((ds.map Dr.row).length = ln) := by show _ = _; rw [List.length_map, HLN.out]
  clear ho8
  refine gate_one (i := 7) (by kernel_rfl) rfl (fun K hK => ?_)
  refine appR_step w8.drew 0 rfl (.tmp 54) (.tmp 56) 53 rfl 33 _ 2 24 Tryz.underlying53 info_DropE rfl (by decide) (by decide) _ _ _ rfl HO8.out rfl rfl (fun u hu => by simp at hu; rcases hu with rfl | rfl <;> rfl) (by rw [HRL.out]; have := HH.out.most; have := HLN.out; omega) (Nat.zero_le _) ?_
  rw [HRL.out]
  intro g' cap' w9 hown9 hb9 hs9
  have hs9 : AppStep w8.drew w9 (.slice a ln cap) (.slice (some ⟨g', 0, none⟩) (ln + 1) cap') := hs9
  have hnx : (Value.slice a ln cap).ownBlock ≠ some x := fun e => by rw [HLN.out] at e; exact (HH.out.own x e).2.1 rfl
  have hnX : ∀ i, w.heap.size ≤ i → (Value.slice a ln cap).ownBlock ≠ some i := fun i hi e => by
    rw [HLN.out] at e
    have := HH.out.lt i (HH.out.own i e).1
    omega
  have hXw : w.heap.size ≤ X := Nat.le_of_eq HX.out.symm
  have hF9 : w9.cell? ⟨X, 0, none⟩ = some (.int .i64 s) ∧ w9.cell? ⟨X, 1, none⟩ = some (.string (S t)) := ⟨hs9.cell hF.1 (hnX X hXw), hs9.cell hF.2 (hnX X hXw)⟩
  have hG9 : w9.cell? ⟨x, 5, none⟩ = some (.slice a ln cap) := hs9.cell hG hnx
  have hxl8 := World.block_lt_of_cell? _ _ hG
  have hf9 : w9.frozen? ⟨x, 5, none⟩ = false := by
    rw [World.frozen?_of_block (w := w8.drew) (a := ⟨x, 5, none⟩) (hs9.block x hxl8 (fun e => hnx e.symm))]
    exact HST.out.fr.free_at (H8.out.lt x H8.out.gx) H8.out.f5 HH.out.npx
  obtain ⟨Gp2, hp2, hGp2⟩ := HST.out.obj
  have he10 := (H8.out).heard (d := ⟨s, S t⟩) (g := g') (cap' := cap') (w4 := w9) HST.out.fr hp2 hGp2 (Lat.drew w8) (by rw [← HLN.out]; exact hs9) hb9 (by rw [← HLN.out]; exact hown9) HDE.out
  rw [← HLN.out] at he10
  have hfr10 : Fr G w (w9.setCell ⟨x, 5, none⟩ (.slice (some ⟨g', 0, none⟩) (ln + 1) cap')) := ((((Fr.lat HB8L.out : Fr G w w6.drew).trans HST.out.fr (fun i _ e => HH.out.sub i e)).next (Lat.drew w8)).trans (Fr.app hs9 ⟨hb9.os, hb9.tape, hb9.output⟩) (fun i _ e => by
    rw [HLN.out] at e
    exact (HH.out.own i e).1)).then_set ⟨x, 5, none⟩ _ (.inl HH.out.gx)
  have hb10 := ((HB9.out.keep (Lat.drew w8)).fr (Fr.app hs9 ⟨hb9.os, hb9.tape, hb9.output⟩) (fun i e => by
    rcases Nat.lt_or_ge i w.heap.size with h1 | h1
    · exact h1
    · exact absurd e (hnX i h1))).fr (Fr.set (S := fun i => i = x) w9 ⟨x, 5, none⟩ (.slice (some ⟨g', 0, none⟩) (ln + 1) cap') rfl) (fun i e => by rw [e]; exact HH.out.lt x HH.out.gx)
  have HE10 := Lib.hid he10; have HFR10 := Lib.hid hfr10; have HB10 := Lib.hid hb10
  refine hK _ _ (FG.past (by kernel_rfl) hF9) ?_
  clear hK K hF hG hown9 hb9 hs9 hnx hnX he10 hfr10 hxl8 hp2 hGp2 hb10
  refine gate_takeF (i := 8) (v := ?_) rfl (by kernel_rfl) (by kernel_rfl) (by kernel_rfl) (fun _ _ _ h => h) (by decide) (FG.past (by kernel_rfl) hF9) (Or.inl ⟨by rfl, ?_⟩) ?_
  rotate_left
  · intro wq hSw; go_simp; rfl
  simp only [Act.put]
  refine gate_takeF (i := 9) (v := ?_) rfl (by kernel_rfl) (by kernel_rfl) (by kernel_rfl) (fun _ _ _ h => h) (by decide) (FG.past (by kernel_rfl) hF9) (Or.inl ⟨by rfl, ?_⟩) ?_
  rotate_left
  · intro wq hSw; go_simp; rfl
  simp only [Act.put]
  refine gate_one (i := 10) (by kernel_rfl) rfl (fun K hK => ?_)
  clear hF9
  go_simp
  refine hK _ _ (FG.past (by kernel_rfl) ⟨HB10.out.c0, HB10.out.c1⟩) ?_
  clear hK K
  refine gate_done (by kernel_rfl) ?_ _
  clear hG9 hf9 HB9
  have HE := HE10
  have HBB := HB10
  have HFR := HFR10
  have HLL : Hid ((ds ++ [(⟨s, S t⟩ : Dr)]).length = ln + 1) := by show _ = _; rw [List.length_append, HLN.out]; rfl
  have hX6 := HB8X.out
  have HNX : Hid (∀ i, (i < (w9.setCell ⟨x, 5, none⟩ (.slice (some ⟨g', 0, none⟩) (ln + 1) cap')).heap.size ∧ (G i ∨ w6.drew.heap.size ≤ i)) → i ≠ X + 1) := fun i hi e => by
    rcases hi.2 with h1 | h1
    · have := HH.out.lt i h1; have := HX.out; omega
    · omega
  have HGI : Hid (∀ i, (i < (w9.setCell ⟨x, 5, none⟩ (.slice (some ⟨g', 0, none⟩) (ln + 1) cap')).heap.size ∧ (G i ∨ w6.drew.heap.size ≤ i)) → G i ∨ w.heap.size ≤ i) := fun i hi => hi.2.imp id (fun h1 => by have := HB8L.out.size; omega)
  clear HE10 HB10 HFR10 hX6
  have c4 := HE.out.c4
  have f4 := HE.out.f4
  go_upto_region 12 with fail
  clear c4 f4
  have hcnt := HE.out.count qn
  have hbb := HBB.out.fr (Fr.set (S := fun i => i = x) _ ⟨x, 4, none⟩ (.int .i64 qn) rfl) (fun i e => by rw [e]; exact HH.out.lt x HH.out.gx)
  have hfrc := HFR.out.then_set ⟨x, 4, none⟩ (.int .i64 qn) (.inl HH.out.gx)
  generalize hwe : World.setCell _ ⟨x, 4, none⟩ (.int .i64 qn) = we at hcnt hbb hfrc ⊢
  have hc4 := hcnt.c4
  have hc5 := hcnt.c5
  rw [HLL.out] at hc5
  have hF : we.drew.cell? ⟨x, 4, none⟩ = some (.int .i64 qn) ∧ we.drew.cell? ⟨x, 5, none⟩ = some (.slice (some ⟨g', 0, none⟩) (ln + 1) cap') ∧ we.drew.cell? ⟨x, 0, none⟩ = some (.pointer (some ⟨p, 0, none⟩)) := ⟨hc4, hc5, hcnt.c0⟩
  have hG : we.drew.cell? ⟨X + 1, 0, none⟩ = some (.int .i64 0) ∧ we.drew.cell? ⟨X + 1, 1, none⟩ = some (.int .i64 0) ∧ we.drew.cell? ⟨X + 1, 2, none⟩ = some (.int .i64 0) := ⟨hbb.r0, hbb.r1, hbb.r2⟩
  have HEC := Lib.hid hcnt; have HBC := Lib.hid hbb; have HFC := Lib.hid hfrc
  clear hwe hcnt hbb hfrc hc4 hc5 HE HBB HFR
  refine wp_region_gate (fun w' => w'.cell? ⟨x, 4, none⟩ = some (.int .i64 qn) ∧ w'.cell? ⟨x, 5, none⟩ = some (.slice (some ⟨g', 0, none⟩) (ln + 1) cap') ∧ w'.cell? ⟨x, 0, none⟩ = some (.pointer (some ⟨p, 0, none⟩))) (fun w' => w'.cell? ⟨X + 1, 0, none⟩ = some (.int .i64 0) ∧ w'.cell? ⟨X + 1, 1, none⟩ = some (.int .i64 0) ∧ w'.cell? ⟨X + 1, 2, none⟩ = some (.int .i64 0)) 16 (by kernel_rfl) ?_
  refine gate_takeF (i := 0) (v := ?_) rfl (by kernel_rfl) (by kernel_rfl) (by kernel_rfl) (fun _ _ _ h => h) (by decide) ⟨hF, fun _ => hG⟩ (Or.inl ⟨by rfl, ?_⟩) ?_
  rotate_left
  · intro wq hSw; obtain ⟨s0, s1, s2⟩ := hSw; go_simp; rfl
  simp only [Act.put]
  refine gate_takeF (i := 1) (v := ?_) rfl (by kernel_rfl) (by kernel_rfl) (by kernel_rfl) (fun _ _ _ h => h) (by decide) ⟨hF, fun _ => hG⟩ (Or.inl ⟨by rfl, ?_⟩) ?_
  rotate_left
  · intro wq hSw; obtain ⟨s0, s1, s2⟩ := hSw; go_simp; rfl
  simp only [Act.put]
  refine gate_takeF (i := 2) (v := ?_) rfl (by kernel_rfl) (by kernel_rfl) (by kernel_rfl) (fun _ _ _ h => h) (by decide) ⟨hF, fun _ => hG⟩ (Or.inl ⟨by rfl, ?_⟩) ?_
  rotate_left
  · intro wq hSw; obtain ⟨s0, s1, s2⟩ := hSw; go_simp; rfl
  simp only [Act.put]
  refine gate_takeF (i := 3) (v := ?_) rfl (by kernel_rfl) (by kernel_rfl) (by kernel_rfl) (fun _ _ _ h => h) (by decide) ⟨hF, fun _ => hG⟩ (Or.inl ⟨by rfl, ?_⟩) ?_
  rotate_left
  · intro wq hSw; obtain ⟨s0, s1, s2⟩ := hSw; go_simp; rfl
  simp only [Act.put]
  refine gate_takeF (i := 4) (v := ?_) rfl (by kernel_rfl) (by kernel_rfl) (by kernel_rfl) (fun _ _ _ h => h) (by decide) ⟨hF, fun _ => hG⟩ (Or.inl ⟨by rfl, ?_⟩) ?_
  rotate_left
  · intro wq hSw; obtain ⟨s0, s1, s2⟩ := hSw; go_simp; rfl
  simp only [Act.put]
  refine gate_takeF (i := 5) (v := ?_) rfl (by kernel_rfl) (by kernel_rfl) (by kernel_rfl) (fun _ _ _ h => h) (by decide) ⟨hF, fun _ => hG⟩ (Or.inl ⟨by rfl, ?_⟩) ?_
  rotate_left
  · intro wq hSw; obtain ⟨s0, s1, s2⟩ := hSw; go_simp; rfl
  simp only [Act.put]
  refine gate_takeF (i := 6) (v := ?_) rfl (by kernel_rfl) (by kernel_rfl) (by kernel_rfl) (fun _ _ _ h => h) (by decide) ⟨hF, fun _ => hG⟩ (Or.inl ⟨by rfl, ?_⟩) ?_
  rotate_left
  · intro wq hSw; obtain ⟨s0, s1, s2⟩ := hSw; go_simp; rfl
  simp only [Act.put]
  refine gate_takeF (i := 7) (v := ?_) rfl (by kernel_rfl) (by kernel_rfl) (by kernel_rfl) (fun _ _ _ h => h) (by decide) ⟨hF, fun _ => hG⟩ (Or.inl ⟨by rfl, ?_⟩) ?_
  rotate_left
  · intro wq hSw; obtain ⟨s0, s1, s2⟩ := hSw; go_simp; rfl
  simp only [Act.put]
  refine gate_takeF (i := 8) (v := ?_) rfl (by kernel_rfl) (by kernel_rfl) (by kernel_rfl) (fun _ _ _ h => h) (by decide) ⟨hF, fun _ => hG⟩ (Or.inl ⟨by rfl, ?_⟩) ?_
  rotate_left
  · intro wq hSw; obtain ⟨s0, s1, s2⟩ := hSw; go_simp; rfl
  simp only [Act.put]
  refine gate_takeF (i := 9) (v := ?_) rfl (by kernel_rfl) (by kernel_rfl) (by kernel_rfl) (fun _ _ _ h => h) (by decide) ⟨hF, fun _ => hG⟩ (Or.inl ⟨by rfl, ?_⟩) ?_
  rotate_left
  · intro wq hSw; obtain ⟨s0, s1, s2⟩ := hSw; go_simp; rfl
  simp only [Act.put]
  refine gate_takeF (i := 10) (v := ?_) rfl (by kernel_rfl) (by kernel_rfl) (by kernel_rfl) (fun _ _ _ h => h) (by decide) ⟨hF, fun _ => hG⟩ (Or.inl ⟨by rfl, ?_⟩) ?_
  rotate_left
  · intro wq hSw; obtain ⟨s0, s1, s2⟩ := hSw; go_simp; rfl
  simp only [Act.put]
  refine gate_takeF (i := 11) (v := ?_) rfl (by kernel_rfl) (by kernel_rfl) (by kernel_rfl) (fun _ _ _ h => h) (by decide) ⟨hF, fun _ => hG⟩ (Or.inl ⟨by rfl, ?_⟩) ?_
  rotate_left
  · intro wq hSw; obtain ⟨s0, s1, s2⟩ := hSw; go_simp; rfl
  simp only [Act.put]
  refine gate_takeF (i := 12) (v := ?_) rfl (by kernel_rfl) (by kernel_rfl) (by kernel_rfl) (fun _ _ _ h => h) (by decide) ⟨hF, fun _ => hG⟩ (Or.inl ⟨by rfl, ?_⟩) ?_
  rotate_left
  · intro wq hSw; obtain ⟨s0, s1, s2⟩ := hSw; go_simp; rfl
  simp only [Act.put]
  refine gate_one (i := 13) (by kernel_rfl) rfl (fun K hK => ?_)
  have hkn := peel_knows _ p k m _ _ _ we.drew (HEC.out.keep (Lat.drew we)).peel hk16
  rw [← HKN.out] at hkn
  go_simp
  refine hkn.mono ?_
  rintro e wk ⟨oa, oc, rfl, _, hbk⟩
  have hF' : wk.cell? ⟨x, 4, none⟩ = some (.int .i64 qn) ∧ wk.cell? ⟨x, 5, none⟩ = some (.slice (some ⟨g', 0, none⟩) (ln + 1) cap') ∧ wk.cell? ⟨x, 0, none⟩ = some (.pointer (some ⟨p, 0, none⟩)) := ⟨hbk.cell_at hF.1, hbk.cell_at hF.2.1, hbk.cell_at hF.2.2⟩
  have hG' : wk.cell? ⟨X + 1, 0, none⟩ = some (.int .i64 0) ∧ wk.cell? ⟨X + 1, 1, none⟩ = some (.int .i64 0) ∧ wk.cell? ⟨X + 1, 2, none⟩ = some (.int .i64 0) := ⟨hbk.cell_at hG.1, hbk.cell_at hG.2.1, hbk.cell_at hG.2.2⟩
  have HBK := Lib.hid ((Lat.drew we).trans hbk)
  refine hK _ _ ⟨hF', fun _ => hG'⟩ ?_
  clear hK K hF hG hkn hbk
  have hF := hF'
  have hG := hG'
  clear hF' hG'
  refine gate_takeF (i := 14) (v := ?_) rfl (by kernel_rfl) (by kernel_rfl) (by kernel_rfl) (fun _ _ _ h => h) (by decide) ⟨hF, fun _ => hG⟩ (Or.inl ⟨by rfl, ?_⟩) ?_
  rotate_left
  · intro wq hSw; obtain ⟨s0, s1, s2⟩ := hSw; go_simp; rfl
  simp only [Act.put]
  refine gate_takeF (i := 15) (v := ?_) rfl (by kernel_rfl) (by kernel_rfl) (by kernel_rfl) (fun _ _ _ h => h) (by decide) ⟨hF, fun _ => hG⟩ (Or.inl ⟨by rfl, ?_⟩) ?_
  rotate_left
  · intro wq hSw; obtain ⟨s0, s1, s2⟩ := hSw; go_simp; rfl
  simp only [Act.put]
  have hbf := HBC.out.keep HBK.out
  have e0 := hG.1
  have e1 := hG.2.1
  have e2 := hG.2.2
  have g0 := hbf.g0
  have g1 := hbf.g1
  have g2 := hbf.g2
  have HBF := Lib.hid hbf
  have hqX : ∀ i, i ≠ X + 1 → ∀ j v u1 u2 u3, wk.cell? ⟨i, j, none⟩ = some v → (((wk.setCell ⟨X + 1, 0, none⟩ u1).setCell ⟨X + 1, 1, none⟩ u2).setCell ⟨X + 1, 2, none⟩ u3).cell? ⟨i, j, none⟩ = some v := fun i hi j v u1 u2 u3 hv => by
    rw [World.cell?_setCell_other _ _ _ _ (by intro e; injection e with e _ _; exact hi e.symm), World.cell?_setCell_other _ _ _ _ (by intro e; injection e with e _ _; exact hi e.symm), World.cell?_setCell_other _ _ _ _ (by intro e; injection e with e _ _; exact hi e.symm)]; exact hv
  have hxX : x ≠ X + 1 := by have := HH.out.lt x HH.out.gx; have := HX.out; omega
  have hF9 := fun u1 u2 u3 => And.intro (hqX x hxX _ _ u1 u2 u3 hF.1) (And.intro (hqX x hxX _ _ u1 u2 u3 hF.2.1) (hqX x hxX _ _ u1 u2 u3 hF.2.2))
  have HF9 := Lib.hid hF9
  have QQ := three_put hG.1 hG.2.1 hG.2.2 (.int .i64 qn) (.int .i64 ((ln : Int) + 1)) (.int .i64 (kn : Nat))
  have HQQ := Lib.hid QQ
  refine gate_one (i := 16) (by kernel_rfl) rfl (fun K hK => ?_)
  clear hF9 hqX QQ hbf
  go_simp
  refine hK _ _ (FG.past (by kernel_rfl) (HF9.out _ _ _)) ?_
  clear hK K hF hG e0 e1 e2 g0 g1 g2
  refine gate_takeF (i := 17) (v := ?_) rfl (by kernel_rfl) (by kernel_rfl) (by kernel_rfl) (fun _ _ _ h => h) (by decide) (FG.past (by kernel_rfl) (HF9.out _ _ _)) (Or.inl ⟨by rfl, ?_⟩) ?_
  rotate_left
  · intro wq hSw; go_simp; rfl
  simp only [Act.put]
  refine gate_done (by kernel_rfl) ?_ _
  simp only [List.getElem_toArray, List.getElem_cons_succ, List.getElem_cons_zero]
  go_wp2
  have hff : Fr (fun i => i = X + 1) wk (((wk.setCell ⟨X + 1, 0, none⟩ (.int .i64 qn)).setCell ⟨X + 1, 1, none⟩ (.int .i64 ((ln : Int) + 1))).setCell ⟨X + 1, 2, none⟩ (.int .i64 (kn : Nat))) := ((Fr.set (S := fun i => i = X + 1) wk ⟨X + 1, 0, none⟩ _ rfl).then_set ⟨X + 1, 1, none⟩ _ (.inl rfl)).then_set ⟨X + 1, 2, none⟩ _ (.inl rfl)
  have hfin : EarStep G x k m n qn (lrnK k K0 (L ++ [(setZ k s.toNat, t)])) (lrnL k K0 (L ++ [(setZ k s.toNat, t)])) (ds ++ [⟨s, S t⟩]) w (((wk.setCell ⟨X + 1, 0, none⟩ (.int .i64 qn)).setCell ⟨X + 1, 1, none⟩ (.int .i64 ((ln : Int) + 1))).setCell ⟨X + 1, 2, none⟩ (.int .i64 (kn : Nat))) :=
    ⟨(HFC.out.next HBK.out).trans hff (fun i hi e => by have := HX.out; omega), _, ⟨_, _, _, _, (HEC.out.keep HBK.out).fr hff (fun i hi e => HNX.out i hi e)⟩, HGI.out⟩
  have Q0 := HQQ.out
  refine bodyPost_ret (v := .tuple #[.agg #[.int .i64 qn, .int .i64 ((ln : Int) + 1), .int .i64 (kn : Nat)], .nilIface]) (by simp [results, Tryz.results5, go_sem, Q0.1, Q0.2.1, Q0.2.2]) rfl ⟨?_, hfin⟩
  rfl
end Go.Proofs.YtnndklhcckahbaaGreatDoor
