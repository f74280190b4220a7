/- The contracts of wheel.Row, wheel.When. -/
import Derived.Test.YtbccpcpocbefgaaDoorWheel
import Derived.Test.YtbccpcpocbefgaaDoorOwnC
namespace Go.Proofs.YtbccpcpocbefgaaDoor
open Go.ChangeShapes Go.WideShapes Go.ChangeAt Go.RowKit

def whls (k x t j : Nat) : List Int := (List.range j).map fun i => (whl k x (t + i) : Int)
theorem whls_succ (k x t j : Nat) : whls k x t (j + 1) = whls k x t j ++ [(whl k x (t + j) : Int)] := by unfold whls; rw [List.range_succ, List.map_append]; rfl
theorem whls_length (k x t j : Nat) : (whls k x t j).length = j := by simp [whls]
theorem whl_le (k x t : Nat) (h0 : 1 ≤ k) (h1 : k ≤ 16) (h3 : x ≤ 16) (ht : t ≤ 1000) : whl k x t ≤ 2000 := by
  have h1 := whl_rx k x t
  have h2 : t % (k + x) < k + x := Nat.mod_lt _ (by omega)
  unfold whl
  split <;> omega

theorem row_bad (k x t n : Int) (w : World) (h : k < 1 ∨ 16 < k ∨ x < 0 ∨ 16 < x ∨ t < 0 ∨ 1000 < t ∨ n < 0 ∨ 60 < n ∨ 1000 < t + n) :
    Calls Tryd.prog 20 #[.int .i64 k, .int .i64 x, .int .i64 t, .int .i64 n] w fun e w' => e = .returned (.tuple #[.slice none 0 0, eno 1]) ∧ w = w' := by
  by_cases h1 : k < 1 ∨ 16 < k ∨ x < 0 ∨ 16 < x
  · have H1 := Lib.hid h1
    clear h h1
    go_enter Tryd.func20, Tryd.ntmps20
    go_wp2_with (go_at_call 43; refine (wcheck_no _ _ _ H1.out).mono ?_; rintro e w' ⟨rfl, rfl⟩)
    go_ret2
    exact ⟨rfl, rfl⟩
  have k1 : 1 ≤ k := by omega
  have k2 : k ≤ 16 := by omega
  have x1 : 0 ≤ x := by omega
  have x2 : x ≤ 16 := by omega
  by_cases h2 : t < 0 ∨ 1000 < t
  · have H2 := Lib.hid h2
    clear h h1 h2
    go_enter Tryd.func20, Tryd.ntmps20
    go_wp2_with (first | (go_at_call 43; refine (wcheck_yes _ _ _ k1 k2 x1 x2).mono ?_; rintro e w' ⟨rfl, rfl⟩) | (go_at_call 44; refine (wtime_no _ _ H2.out).mono ?_; rintro e w' ⟨rfl, rfl⟩))
    go_ret2
    exact ⟨rfl, rfl⟩
  have t1 : 0 ≤ t := by omega
  have t2 : t ≤ 1000 := by omega
  have hd : decide (n < 0) = true ∨ (decide (n < 0) = false ∧ decide (60 < n) = true) ∨ (decide (n < 0) = false ∧ decide (60 < n) = false ∧ 0 ≤ n ∧ n ≤ 60 ∧ decide (1000 < t + n) = true) := by
    by_cases q : n < 0
    · exact .inl (decide_eq_true q)
    · by_cases q2 : 60 < n
      · exact .inr (.inl ⟨decide_eq_false q, decide_eq_true q2⟩)
      · exact .inr (.inr ⟨decide_eq_false q, decide_eq_false q2, by omega, by omega, decide_eq_true (by omega)⟩)
  clear h h1 h2
  rcases hd with q1 | ⟨q1, q2⟩ | ⟨q1, q2, q3, q4, q5⟩
  all_goals
    go_enter Tryd.func20, Tryd.ntmps20
    go_wp2_with (first | (go_at_call 43; refine (wcheck_yes _ _ _ k1 k2 x1 x2).mono ?_; rintro e w' ⟨rfl, rfl⟩) | (go_at_call 44; refine (wtime_yes _ _ t1 t2).mono ?_; rintro e w' ⟨rfl, rfl⟩))
    go_ret2
    exact ⟨rfl, rfl⟩

set_option maxRecDepth 100000 in
theorem row_ok (k x t n : Nat) (w : World) (h0 : 1 ≤ k) (h1 : k ≤ 16) (h3 : x ≤ 16) (ht : t + n ≤ 1000) (hn : n ≤ 60) :
    Calls Tryd.prog 20 #[.int .i64 k, .int .i64 x, .int .i64 t, .int .i64 n] w fun e w' => ∃ a cap, e = .returned (.tuple #[.slice a n cap, .nilIface]) ∧ IntsAt w' a n cap (whls k x t n) ∧ Lat w w' := by
  have d1 : decide ((n : Int) < 0) = false := decide_eq_false (by omega)
  have d2 : decide (60 < (n : Int)) = false := decide_eq_false (by omega)
  have d3 : decide (1000 < (t : Int) + (n : Int)) = false := decide_eq_false (by omega)
  go_enter Tryd.func20, Tryd.ntmps20
  go_wp2_with (first | (go_at_call 43; refine (wcheck_yes _ _ _ (by omega) (by omega) (by omega) (by omega)).mono ?_; rintro e w' ⟨rfl, rfl⟩) | (go_at_call 44; refine (wtime_yes _ _ (by omega) (by omega)).mono ?_; rintro e w' ⟨rfl, rfl⟩))
  go_loopw [10, 11] (fun v i wr => ∃ j : Nat, j ≤ n ∧ i = .int .i64 ((t : Int) + (j : Int)) ∧ Hid (OwnInts wr w.heap.size v (whls k x t j) ∧ Lat w wr)) (fun _ i _ => t + n - (intOf i).toNat)
  case atStart => exact ⟨0, Nat.zero_le _, by go_num, Own.nil _ _ _, Lat.refl _⟩
  case round =>
    obtain ⟨j, hj, rfl, hrel⟩ := hrel
    by_cases hlt : j < n
    · have dt : decide ((t : Int) + (j : Int) < (t : Int) + (n : Int)) = true := decide_eq_true (by omega)
      have e1 : (t : Int) + (j : Int) = ((t + j : Nat) : Int) := by omega
      have hc := wat_ok k x (t + j)
      have HC := Lib.hid hc
      have hlen : (whls k x t j).length < 1000000000000 := by rw [whls_length]; omega
      have HLEN := Lib.hid hlen
      have HST := Lib.hid (whls_succ k x t j)
      clear e1 hc hlen
      go_wp2_with fail
      refine (HC.out _ h0 h1 h3 (by omega)).mono ?_
      rintro e w1 ⟨rfl, hb1⟩
      have hr1 := Own.keep hrel.out.1 hb1
      have hr2 := Lat.trans hrel.out.2 hb1
      have HR := Lib.hid (And.intro hr1 hr2)
      clear hr1 hr2
      go_wp2_with (at_builtin; refine app_int w1 w _ rfl _ _ rfl _ _ _ rfl HR.out.1 rfl HLEN.out rfl HR.out.2 ?_; intro v' w2 hown' hb' _)
      go_roundw
      case rel => exact ⟨j + 1, by omega, by go_num, by rw [HST.out]; exact hown', hb'⟩
      case measure => simp [intOf]; omega
    · obtain rfl : j = n := by omega
      have dt : decide ((t : Int) + (j : Int) < (t : Int) + (j : Int)) = false := decide_eq_false (by omega)
      have hs := OwnInts.slice hrel.out.1 (fun z hz => by
        obtain ⟨i, hi, rfl⟩ := List.mem_map.1 hz
        have := List.mem_range.1 hi
        have := whl_le k x (t + i) h0 h1 h3 (by omega)
        omega)
      rw [whls_length] at hs
      obtain ⟨a, cap, rfl, hat⟩ := hs
      have HAT := Lib.hid hat
      clear hat
      go_wp2
      go_ret2
      exact ⟨a, cap, rfl, HAT.out, hrel.out.2⟩
end Go.Proofs.YtbccpcpocbefgaaDoor
