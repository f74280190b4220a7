/- The walk of DegreeOne: it returns true, whatever the number. -/
import Derived.Test.YtllnipmkoibagaaDegreePlain
namespace Go.Proofs.Ytllnipmkoibagaa
open Go.ChangeShapes Go.WideShapes Go.ChangeAt Go.RowKit

theorem degF_one (n : Nat) (h : n ≤ 999) : degF 1 n = 1 := by unfold degF; rw [if_pos (by omega)]
theorem degF_two (n : Nat) : degF 2 n = if n < 500 then 1 else 2 := by
  unfold degF
  by_cases h : n < 500
  · rw [if_pos h, if_pos (by omega)]
  · rw [if_neg h, if_neg (by omega)]; rfl

theorem times_two (w : World) : Calls Try.prog 23 #[.int .i64 2] w fun e w' => ∃ g, e = .returned (.tuple #[.slice (some ⟨g, 0, none⟩) 2 2, .nilIface]) ∧ w'.cell? ⟨g, 0, none⟩ = some (.int .i64 500) ∧ Lat w w' :=
  (times_ok 2 w (by omega) (by omega)).mono fun e w' ⟨g, h, hat, hb⟩ => ⟨g, h, by
    obtain ⟨b1, o1, hg, hc1⟩ := hat.row.at_ (by omega)
    injection hg with hg
    injection hg with hg1 hg2 _
    subst hg1
    subst hg2
    have c0 := hc1 0 (by omega)
    rw [tmsL_get 2 0 (by omega), Nat.zero_add, tmsF_two] at c0
    exact c0, hb⟩

set_option maxHeartbeats 2000000 in
set_option maxRecDepth 100000 in
theorem walk_degreeOne (n : Int) (w : World) (_ : (Lit.int .i64 n).wf = true) :
    Calls Try.prog 9 #[.int .i64 n] w fun e w' => e = .returned (.bool true) ∧ Lat w w' := by
  go_enter Try.func9, Try.ntmps9
  go_wp2_with fail
  by_cases hn : n < 0 ∨ 999 < n
  · refine (dof_bad 1 n _ (.inr (.inr hn))).mono ?_
    rintro e w1 ⟨rfl, rfl⟩
    go_wp2_with fail
    refine (dof_bad 2 n _ (.inr (.inr hn))).mono ?_
    rintro e w1 ⟨rfl, rfl⟩
    have hd : decide (n < 0) = true ∨ (decide (n < 0) = false ∧ decide (999 < n) = true) := by
      by_cases h : n < 0
      · exact .inl (decide_eq_true h)
      · exact .inr ⟨decide_eq_false h, decide_eq_true (by omega)⟩
    clear hn
    rcases hd with h1 | ⟨h1, h2⟩
    all_goals
      go_wp2
      go_ret
      exact ⟨rfl, Lat.refl _⟩
  obtain ⟨n, rfl⟩ := Int.eq_ofNat_of_zero_le (show 0 ≤ n by omega)
  have hn2 : n ≤ 999 := by omega
  clear hn
  refine (dof_ok 1 n _ (by omega) (by omega) hn2).mono ?_
  rw [degF_one n hn2]
  rintro e w1 ⟨rfl, rfl⟩
  go_wp2_with fail
  refine (dof_ok 2 n _ (by omega) (by omega) hn2).mono ?_
  rw [degF_two n]
  rcases Nat.lt_or_ge n 500 with h | h
  · rw [if_pos h]
    have d1 : decide ((n : Int) < 500) = true := decide_eq_true (by omega)
    rintro e w1 ⟨rfl, rfl⟩
    go_wp2_with (go_at_call 23; refine (times_two _).mono ?_; rintro e w2 ⟨g, rfl, c0, hb⟩)
    go_ret
    exact ⟨rfl, hb⟩
  · rw [if_neg (by omega)]
    have d1 : decide ((n : Int) < 500) = false := decide_eq_false (by omega)
    rintro e w1 ⟨rfl, rfl⟩
    go_wp2_with (go_at_call 23; refine (times_two _).mono ?_; rintro e w2 ⟨g, rfl, c0, hb⟩)
    go_ret
    exact ⟨rfl, hb⟩
end Go.Proofs.Ytllnipmkoibagaa
