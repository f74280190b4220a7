/- alone.Decode and alone.Encode, one answer whatever is asked. -/
import Derived.Test.YtooepflfofgnnaaDoorAloneEnc
import Derived.Deep.DeepCutAuto
import Derived.Deep.CutBlock
namespace Go.Proofs.YtooepflfofgnnaaDoor
open Go.ChangeShapes Go.WideShapes Go.ChangeAt Go.RowKit

/-- what Told answers -/
def tolR (wd hg s : Int) (rs : List Int) : List Int := if dcE wd hg s rs = 0 then tel rs wd.toNat s rs.length else []
set_option maxHeartbeats 2000000 in
set_option maxRecDepth 100000 in
theorem decode_bad (wd hg s : Int) (a : Option Addr) (n cap : Nat) (rs : List Int) (w : World) (h : IntsAt w a n cap rs) (he : dcE wd hg s rs ≠ 0) :
    Calls Tryd.prog 112 #[.int .i64 wd, .int .i64 hg, .int .i64 s, .slice a n cap] w fun e w' => e = .returned (.tuple #[picV 0 0 none 0 0, eno (dcE wd hg s rs)]) ∧ Lat w w' := by
  obtain ⟨W0, hW0⟩ : ∃ W, W = w.alloc (.cells #[.int .i64 0, .int .i64 0, .slice none 0 0] 132) := ⟨_, rfl⟩
  have hat : IntsAt W0 a n cap rs := by rw [hW0]; exact h.keep (Lat.alloc _ _)
  have hl0 : Lat w W0 := by rw [hW0]; exact Lat.alloc _ _
  have hc : Cells3 W0 w.heap.size 0 (.int .i64 0) (.int .i64 0) (.slice none 0 0) := by rw [hW0]; exact cells3_new rfl rfl rfl rfl
  have hf : ∀ k, W0.frozen? ⟨w.heap.size, k, none⟩ = false := fun k => by rw [hW0]; simp
  have hrc := rests_any a n cap rs (wd * hg) W0 hat
  obtain ⟨E, hE⟩ : ∃ E, E = dcE wd hg s rs := ⟨_, rfl⟩
  rw [← hE] at he ⊢
  have HC := Lib.hid hc
  have HF := Lib.hid hf
  have Q := Lib.hid (three_set hc.c0 hc.c1 hc.c2 (.int .i64 0) (.int .i64 0) (.slice none 0 0))
  have HL3 := Lib.hid (lat_three hl0 (Nat.le_refl _) (.int .i64 0) (.int .i64 0) (.slice none 0 0))
  have hb : (sideB wd = false ∨ sideB hg = false ∨ stepB s = false) → E = 1 := fun q => by rw [hE]; unfold dcE; rw [if_pos q]
  have hd : (sideB wd = false ∧ E = 1) ∨ (sideB wd = true ∧ sideB hg = false ∧ E = 1) ∨ (sideB wd = true ∧ sideB hg = true ∧ stepB s = false ∧ E = 1) ∨ (sideB wd = true ∧ sideB hg = true ∧ stepB s = true) := by
    cases h1 : sideB wd with
    | false => exact .inl ⟨rfl, hb (.inl h1)⟩
    | true =>
      cases h2 : sideB hg with
      | false => exact .inr (.inl ⟨rfl, rfl, hb (.inr (.inl h2))⟩)
      | true =>
        cases h3 : stepB s with
        | false => exact .inr (.inr (.inl ⟨rfl, rfl, rfl, hb (.inr (.inr h3))⟩))
        | true => exact .inr (.inr (.inr ⟨rfl, rfl, rfl⟩))
  clear h hat hl0 hc hf hb
  rcases hd with ⟨d1, e1⟩ | ⟨d1, d2, e1⟩ | ⟨d1, d2, d3, e1⟩ | ⟨d1, d2, d3⟩
  iterate 3
    · rw [e1]
      clear hrc he hE e1
      go_enter Tryd.func112, Tryd.ntmps112
      go_upto_region 1 with fail
      rw [← hW0]
      clear hW0
      have c0 := HC.out.c0
      have c1 := HC.out.c1
      have c2 := HC.out.c2
      have f0 := HF.out 0
      have f1 := HF.out 1
      have f2 := HF.out 2
      go_wp2_with (first | (go_at_call 91; refine (side_any _ _).mono ?_; rintro e w' ⟨rfl, rfl⟩) | (go_at_call 92; refine (step_any _ _).mono ?_; rintro e w' ⟨rfl, rfl⟩))
      exact bodyPost_ret (v := .tuple #[picV 0 0 none 0 0, eno 1]) (by simp [results, Tryd.results112, go_sem, Q.out.1, Q.out.2.1, Q.out.2.2]) rfl ⟨rfl, HL3.out⟩
  have e1 : E = rstE rs (wd * hg) := by rw [hE]; unfold dcE; rw [if_neg (by simp [d1, d2, d3])]
  rw [← e1, errv_pos he] at hrc
  have m1 : wd * hg ≤ 6 * 6 := by
    have a1 := d1
    have a2 := d2
    simp only [sideB, decide_eq_true_eq] at a1 a2
    exact Int.mul_le_mul a1.2 a2.2 (by omega) (by omega)
  have m0 : 0 ≤ wd * hg := by
    have a1 := d1
    have a2 := d2
    simp only [sideB, decide_eq_true_eq] at a1 a2
    exact Int.mul_nonneg (by omega) (by omega)
  have HRC := Lib.hid hrc
  clear hrc he hE e1
  go_enter Tryd.func112, Tryd.ntmps112
  go_upto_region 1 with fail
  rw [← hW0]
  clear hW0
  have c0 := HC.out.c0
  have c1 := HC.out.c1
  have c2 := HC.out.c2
  have f0 := HF.out 0
  have f1 := HF.out 1
  have f2 := HF.out 2
  go_wp2_with (first | (go_at_call 91; refine (side_any _ _).mono ?_; rintro e w' ⟨rfl, rfl⟩) | (go_at_call 92; refine (step_any _ _).mono ?_; rintro e w' ⟨rfl, rfl⟩))
  refine HRC.out.mono ?_
  rintro e w' ⟨rfl, rfl⟩
  go_wp2
  exact bodyPost_ret (v := .tuple #[picV 0 0 none 0 0, eno E]) (by simp [results, Tryd.results112, go_sem, Q.out.1, Q.out.2.1, Q.out.2.2]) rfl ⟨rfl, HL3.out⟩
def tolD (wd hg s : Int) (rs : List Int) : Int := if dcE wd hg s rs = 0 then wd else 0
def tolG (wd hg s : Int) (rs : List Int) : Int := if dcE wd hg s rs = 0 then hg else 0
theorem decode_same (wd hg s : Int) (a : Option Addr) (n cap : Nat) (rs : List Int) (w : World) (h : IntsAt w a n cap rs) :
    Calls Tryd.prog 112 #[.int .i64 wd, .int .i64 hg, .int .i64 s, .slice a n cap] w fun e w' => ∃ b m c, e = .returned (.tuple #[picV (tolD wd hg s rs) (tolG wd hg s rs) b m c, errv (dcE wd hg s rs)]) ∧ IntsAt w' b m c (tolR wd hg s rs) ∧ Lat w w' := by
  unfold tolD tolG tolR
  by_cases he : dcE wd hg s rs = 0
  · rw [if_pos he, if_pos he, if_pos he, he, errv_zero rfl]
    refine (decode_ok wd hg s a n cap rs w h he).mono ?_
    rintro e w' ⟨b, c, rfl, hat, hb⟩
    exact ⟨b, n, c, rfl, by rw [h.len]; exact hat, hb⟩
  · rw [if_neg he, if_neg he, if_neg he, errv_pos he]
    refine (decode_bad wd hg s a n cap rs w h he).mono ?_
    rintro e w' ⟨rfl, hb⟩
    exact ⟨none, 0, 0, rfl, IntsAt.nil _, hb⟩
/-- the rests, none where something is wrong -/
def encR (wd hg : Int) (zs : List Int) (s : Int) : List Int := if encE wd hg zs s = 0 then (cod zs wd.toNat s zs.length).1 else []
end Go.Proofs.YtooepflfofgnnaaDoor
