/- The walk of DegreeRises: it returns true, whatever the numbers. -/
import Derived.Test.YtllnipmkoibagaaDegreePlain
namespace Go.Proofs.Ytllnipmkoibagaa
open Go.ChangeShapes Go.WideShapes Go.ChangeAt Go.RowKit

theorem degR_fact (w : World) : Calls Try.prog 22 #[.int .i64 4, .int .i64 500] w fun e w' => e = .returned (.tuple #[.int .i64 2, .nilIface]) ∧ w = w' :=
  (dof_ok 4 500 w (by omega) (by omega) (by omega)).mono fun e w' h => ⟨by rw [h.1]; rfl, h.2⟩

set_option maxHeartbeats 2000000 in
set_option maxRecDepth 100000 in
theorem walk_degreeRises (k n m : Int) (w : World) (_ : (Lit.int .i64 k).wf = true) (_ : (Lit.int .i64 n).wf = true) (_ : (Lit.int .i64 m).wf = true) :
    Calls Try.prog 8 #[.int .i64 k, .int .i64 n, .int .i64 m] w fun e w' => e = .returned (.bool true) ∧ Lat w w' := by
  go_enter Try.func8, Try.ntmps8
  go_wp2_with fail
  refine (degR_fact _).mono ?_
  rintro e w1 ⟨rfl, rfl⟩
  go_wp2_with fail
  by_cases hn : k < 1 ∨ 16 < k ∨ n < 0 ∨ 999 < n
  · refine (dof_bad k n _ hn).mono ?_
    rintro e w1 ⟨rfl, rfl⟩
    clear hn
    go_wp2
    go_ret
    exact ⟨rfl, Lat.refl _⟩
  obtain ⟨k, rfl⟩ := Int.eq_ofNat_of_zero_le (show 0 ≤ k by omega)
  obtain ⟨n, rfl⟩ := Int.eq_ofNat_of_zero_le (show 0 ≤ n by omega)
  have hk1 : 1 ≤ k := by omega
  have hk2 : k ≤ 16 := by omega
  have hn2 : n ≤ 999 := by omega
  clear hn
  refine (dof_ok k n _ hk1 hk2 hn2).mono ?_
  rintro e w1 ⟨rfl, rfl⟩
  go_wp2_with fail
  have hbd := degF_bd k n hk1 hn2
  have e1 : decide ((degF k n : Int) < 1) = false := decide_eq_false (by omega)
  have e2 : decide (k < degF k n) = false := decide_eq_false (by omega)
  have hcases : (m < 0 ∨ 999 < m) ∨ ∃ M : Nat, m = M ∧ M ≤ 999 := by
    rcases Int.lt_or_le m 0 with h | h
    · exact .inl (.inl h)
    · rcases Int.lt_or_le 999 m with h2 | h2
      · exact .inl (.inr h2)
      · exact .inr ⟨m.toNat, by omega, by omega⟩
  rcases hcases with hbad | ⟨M, rfl, hM⟩
  focus
    refine (dof_bad k m _ (.inr (.inr hbad))).mono ?_
    rintro e w1 ⟨rfl, rfl⟩
    clear hbad
  rotate_left
  focus
    refine (dof_ok k M _ hk1 hk2 hM).mono ?_
    rintro e w1 ⟨rfl, rfl⟩
    have hc3 : (decide (n ≤ M) = true ∧ decide (degF k M < degF k n) = false ∧ decide (M ≤ n) = false) ∨ (decide (n ≤ M) = true ∧ decide (degF k M < degF k n) = false ∧ decide (M ≤ n) = true ∧ decide (degF k n < degF k M) = false) ∨
        (decide (n ≤ M) = false ∧ decide (degF k n < degF k M) = false ∧ decide (M ≤ n) = true) := by
      rcases Nat.lt_trichotomy n M with h | h | h
      · exact .inl ⟨decide_eq_true (by omega), decide_eq_false (by have := degF_mono k n M (by omega); omega), decide_eq_false (by omega)⟩
      · subst h; exact .inr (.inl ⟨decide_eq_true (by omega), decide_eq_false (by omega), decide_eq_true (by omega), decide_eq_false (by omega)⟩)
      · exact .inr (.inr ⟨decide_eq_false (by omega), decide_eq_false (by have := degF_mono k M n (by omega); omega), decide_eq_true (by omega)⟩)
    rcases hc3 with ⟨e3, e4, e5⟩ | ⟨e3, e4, e5, e6⟩ | ⟨e3, e4, e5⟩
  all_goals
    go_wp2_with (go_at_call 23; refine (times_ok k _ hk1 hk2).mono ?_; rintro e w2 ⟨g, rfl, hat, hb⟩)
    go_loop [14, 15] (fun s i => ∃ j : Nat, j ≤ k ∧ i = .int .i64 j ∧ s = .int .i64 (tsum k 1000 j)) (fun _ i => k - (intOf i).toNat)
    case atStart => exact ⟨0, Nat.zero_le _, rfl, rfl⟩
    case round =>
      obtain ⟨j, hj, rfl, rfl⟩ := hrel
      have hts := tsum_le k 1000 j
      have hts' : tsum k 1000 j ≤ 16000 := by omega
      clear hts
      by_cases hlt : j < k
      · obtain ⟨b1, o1, hg, hc1⟩ := hat.row.at_ (by omega)
        injection hg with hg
        injection hg with hg1 hg2 _
        subst hg1
        subst hg2
        have c1 := hc1 j hlt
        rw [tmsL_get k j hlt, Nat.zero_add] at c1
        have htm := tmsF_le k 1000 j
        have d1 : decide ((tmsF k 1000 j : Int) < 0) = false := decide_eq_false (by omega)
        clear hc1
        go_wp2
        go_round
        case rel => exact ⟨j + 1, by omega, by go_num, by rw [tsum_step]; go_num⟩
        case measure => simp [intOf]; omega
      · obtain rfl : j = k := by omega
        have hall := tsum_all j hk1 1000 (by omega)
        rcases Nat.lt_or_ge j 2 with h2 | h2
        · have d2 : decide ((j : Int) < 2) = true := decide_eq_true (by omega)
          go_wp2
          go_quiet (fail)
          go_wp2
          go_ret
          exact ⟨rfl, Lat.trans hb (Lat.drewN _ _)⟩
        · have d2 : decide ((j : Int) < 2) = false := decide_eq_false (by omega)
          obtain ⟨b1, o1, hg, hc1⟩ := hat.row.at_ (by omega)
          injection hg with hg
          injection hg with hg1 hg2 _
          subst hg1
          subst hg2
          have c0 := hc1 0 (by omega)
          rw [tmsL_get j 0 (by omega), Nat.zero_add] at c0
          have c1 := hc1 1 (by omega)
          rw [tmsL_get j 1 (by omega), Nat.zero_add] at c1
          have t0 := tmsF_le j 1000 0
          have t1 := tmsF_le j 1000 1
          have hh := tmsF_half j hk2 h2
          have d3 : decide (500 ≤ (tmsF j 1000 0 : Int) + (tmsF j 1000 1 : Int)) = true := decide_eq_true (by omega)
          clear hc1
          go_wp2
          go_quiet (fail)
          go_wp2
          go_ret
          exact ⟨rfl, Lat.trans hb (Lat.drewN _ _)⟩
end Go.Proofs.Ytllnipmkoibagaa
