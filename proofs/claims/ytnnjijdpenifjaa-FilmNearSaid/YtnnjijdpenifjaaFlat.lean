/- The contracts of picture.Flat. -/
import Derived.Test.YtnnjijdpenifjaaAloneEnc
import Derived.Test.YtnnjijdpenifjaaRepeat
import Derived.Test.YtnnjijdpenifjaaOpenPic
namespace Go.Proofs.Ytnnjijdpenifjaa
open Go.ChangeShapes Go.WideShapes Go.ChangeAt Go.RowKit

def flE (wd hg c : Int) : Nat := if sideB wd = false ∨ sideB hg = false ∨ pixB c = false then 1 else 0
theorem flE_zero {wd hg c : Int} (h : flE wd hg c = 0) : 1 ≤ wd ∧ wd ≤ 6 ∧ 1 ≤ hg ∧ hg ≤ 6 ∧ 0 ≤ c ∧ c ≤ 255 := by
  unfold flE at h
  split at h
  · omega
  · rename_i h1
    have a1 : sideB wd = true := by cases hq : sideB wd <;> simp_all
    have a2 : sideB hg = true := by cases hq : sideB hg <;> simp_all
    have a3 : pixB c = true := by cases hq : pixB c <;> simp_all
    simp only [sideB, pixB, decide_eq_true_eq] at a1 a2 a3
    omega
theorem flE_one {wd hg c : Int} (h : flE wd hg c ≠ 0) : wd < 1 ∨ 6 < wd ∨ hg < 1 ∨ 6 < hg ∨ c < 0 ∨ 255 < c := by
  apply Classical.byContradiction
  intro hc
  apply h
  unfold flE
  have a1 : sideB wd = true := decide_eq_true (by omega)
  have a2 : sideB hg = true := decide_eq_true (by omega)
  have a3 : pixB c = true := decide_eq_true (by omega)
  rw [if_neg (by simp [a1, a2, a3])]
set_option maxHeartbeats 1000000 in
theorem flat_bad (wd hg c : Int) (w : World) (h : flE wd hg c ≠ 0) :
    Calls Try.prog 13 #[.int .i64 wd, .int .i64 hg, .int .i64 c] w fun e w' => e = .returned (.tuple #[picV 0 0 none 0 0, eno 1]) ∧ Lat w w' := by
  have hd : (sideB wd = false) ∨ (sideB wd = true ∧ sideB hg = false) ∨ (sideB wd = true ∧ sideB hg = true ∧ pixB c = false) := by
    cases h1 : sideB wd with
    | false => exact .inl rfl
    | true =>
      cases h2 : sideB hg with
      | false => exact .inr (.inl ⟨rfl, rfl⟩)
      | true =>
        cases h3 : pixB c with
        | false => exact .inr (.inr ⟨rfl, rfl, rfl⟩)
        | true => exact absurd (show flE wd hg c = 0 by unfold flE; rw [if_neg (by simp [h1, h2, h3])]) h
  clear h
  rcases hd with h1 | ⟨h1, h2⟩ | ⟨h1, h2, h3⟩
  all_goals
    go_enter Try.func13, Try.ntmps13
    go_wp2_with (first | (go_at_call 30; refine (side_any _ _).mono ?_; rintro e w' ⟨rfl, rfl⟩) | (go_at_call 31; refine (pixel_any _ _).mono ?_; rintro e w' ⟨rfl, rfl⟩))
    exact bodyPost_ret (v := .tuple #[picV 0 0 none 0 0, eno 1]) (by simp [results, Try.results13, go_sem]) rfl ⟨rfl, Lat.alloc _ _⟩
set_option maxHeartbeats 1000000 in
theorem flat_okF (wd hg c : Int) (n : Nat) (w : World) (h : flE wd hg c = 0) (hn : (n : Int) = wd * hg) :
    Calls Try.prog 13 #[.int .i64 wd, .int .i64 hg, .int .i64 c] w fun e w' => ∃ b cp, e = .returned (.tuple #[picV wd hg b n cp, .nilIface]) ∧ IntsAt w' b n cp (List.replicate n c) ∧ (∀ g, g < w.heap.size → ∀ b' o, b = some ⟨b', o, none⟩ → n ≠ 0 → b' ≠ g) ∧ Lat w w' := by
  obtain ⟨w1, w6, g1, g6, c1, c2⟩ := flE_zero h
  have a1 : sideB wd = true := decide_eq_true ⟨w1, w6⟩
  have a2 : sideB hg = true := decide_eq_true ⟨g1, g6⟩
  have a3 : pixB c = true := decide_eq_true ⟨c1, c2⟩
  have p1 : wd * hg ≤ 6 * 6 := Int.mul_le_mul w6 g6 (by omega) (by omega)
  have p0 : 0 ≤ wd * hg := Int.mul_nonneg (by omega) (by omega)
  have hn36 : n ≤ 36 := by omega
  have em : wd * hg = (n : Int) := hn.symm
  clear h hn
  rw [em] at p1 p0
  go_enter Try.func13, Try.ntmps13
  go_wp2_with (first | (go_at_call 30; refine (side_any _ _).mono ?_; rintro e w' ⟨rfl, rfl⟩) | (go_at_call 31; refine (pixel_any _ _).mono ?_; rintro e w' ⟨rfl, rfl⟩))
  refine (repeat_any c n (w.heap.size + 1) 0 1 _ (by simp) (by omega)).mono ?_
  rintro e w2 ⟨g, rfl, hown, hb⟩
  have hb1 : Lat (w.alloc (.cells #[.int .i64 0, .int .i64 0, .slice none 0 0] 24)) w2 := Lat.trans (Lat.alloc _ _) hb
  have hb0 : Lat w w2 := Lat.trans (Lat.alloc _ _) hb1
  obtain ⟨⟨c0, c1', c2'⟩, f0, f1, f2⟩ := pw_cells hb1
  have q := three_set c0 c1' c2' (.int .i64 wd) (.int .i64 hg) (.slice (some ⟨g, 0, none⟩) n n)
  have hlat := lat_three hb0 (Nat.le_refl _) (.int .i64 wd) (.int .i64 hg) (.slice (some ⟨g, 0, none⟩) n n)
  have hgl := (Own.lt hown g rfl).1
  obtain ⟨a', cap', e1, hat⟩ := OwnInts.sliceN hown (fun z hz => by rw [List.eq_of_mem_replicate hz]; omega) List.length_replicate
  injection e1 with e1 _ e3
  subst e1
  subst e3
  have hat3 := ints_three (g := w.heap.size) hat (fun b o e _ => by injection e with e; injection e with e _ _; simp at hgl; omega) (.int .i64 wd) (.int .i64 hg) (.slice (some ⟨g, 0, none⟩) n n)
  have FR := Lib.hid (show ∀ g', g' < w.heap.size → ∀ b' o, (some ⟨g, 0, none⟩ : Option Addr) = some ⟨b', o, none⟩ → n ≠ 0 → b' ≠ g' from fun g' hg' b' o e _ => by injection e with e; injection e with e _ _; simp at hgl; omega)
  have Q := Lib.hid q
  have HLAT := Lib.hid hlat
  have HAT := Lib.hid hat3
  clear q hlat hat3 hat hb0 hb1 hb hown hgl
  go_wp2
  exact bodyPost_ret (v := .tuple #[picV wd hg (some ⟨g, 0, none⟩) n n, .nilIface]) (by simp [results, Try.results13, go_sem, Q.out.1, Q.out.2.1, Q.out.2.2]) rfl ⟨_, _, rfl, HAT.out, FR.out, HLAT.out⟩
theorem flat_ok (wd hg c : Int) (n : Nat) (w : World) (h : flE wd hg c = 0) (hn : (n : Int) = wd * hg) :
    Calls Try.prog 13 #[.int .i64 wd, .int .i64 hg, .int .i64 c] w fun e w' => ∃ b cp, e = .returned (.tuple #[picV wd hg b n cp, .nilIface]) ∧ IntsAt w' b n cp (List.replicate n c) ∧ Lat w w' :=
  (flat_okF wd hg c n w h hn).mono fun _ _ ⟨b, cp, h1, h2, _, h3⟩ => ⟨b, cp, h1, h2, h3⟩
end Go.Proofs.Ytnnjijdpenifjaa
