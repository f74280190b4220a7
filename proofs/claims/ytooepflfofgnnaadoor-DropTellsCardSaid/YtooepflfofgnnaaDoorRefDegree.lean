/- The contract of dropref1.Degree. -/
import Derived.Test.YtooepflfofgnnaaDoorDegreePlain
namespace Go.Proofs.YtooepflfofgnnaaDoor
open Go.ChangeShapes Go.WideShapes Go.ChangeAt Go.RowKit

theorem degF_top (k n : Nat) (h0 : ¬ n * k < 1000) (h2 : 2 ≤ k) (h3 : ∀ x, 2 ≤ x → x < k → ¬ dgc k n x) : degF k n = k := by
  unfold degF; rw [if_neg h0]; exact degFrom_eq k n (k - 2) 2 k h2 (by omega) h3 (.inr (by omega))

set_option maxHeartbeats 400000 in
set_option maxRecDepth 100000 in
theorem refDegree (k n : Nat) (w : World) (hk : 1 ≤ k) (hk2 : k ≤ 16) (hn : n ≤ 999) :
    Calls Tryd.prog 43 #[.int .i64 k, .int .i64 n] w fun e w' => e = .returned (.int .i64 (degF k n)) ∧ w = w' := by
  have hp : n * k ≤ 999 * 16 := Nat.mul_le_mul hn hk2
  have hp' : (n : Int) * (k : Int) ≤ 15984 := by rw [← Int.natCast_mul]; omega
  have hp0 : 0 ≤ (n : Int) * (k : Int) := by rw [← Int.natCast_mul]; omega
  by_cases h1 : n * k < 1000
  · have e1 : degF k n = 1 := by unfold degF; rw [if_pos h1]
    have E := Lib.hid e1; clear e1
    have h1' : (n : Int) * (k : Int) < 1000 := by rw [← Int.natCast_mul]; omega
    clear hp h1
    go_enter Tryd.func43, Tryd.ntmps43
    go_wp2
    go_ret
    exact ⟨by rw [E.out]; rfl, rfl⟩
  · have h1' : 1000 ≤ (n : Int) * (k : Int) := by rw [← Int.natCast_mul]; omega
    have h1b : decide ((n : Int) * (k : Int) < 1000) = false := decide_eq_false (by omega)
    have HN := Lib.hid h1
    have hk3 : 2 ≤ k := by
      rcases Nat.lt_or_ge k 2 with h2 | h2
      · have : k = 1 := by omega
        subst this; omega
      · exact h2
    clear hp h1
    go_enter Tryd.func43, Tryd.ntmps43
    go_wp2
    go_loop [5] (fun d => ∃ j : Nat, 2 ≤ j ∧ j ≤ k ∧ d = .int .i64 j ∧ Hid (∀ x, 2 ≤ x → x < j → ¬ dgc k n x)) (fun d => k - (intOf d).toNat)
    case atStart => exact ⟨2, Nat.le_refl _, hk3, rfl, fun x h1 h2 => by omega⟩
    case round =>
      obtain ⟨j, hj, hjk, rfl, hrel⟩ := hrel
      by_cases hlt : j < k
      · obtain ⟨A, hA⟩ : ∃ A, A = n * k * j := ⟨_, rfl⟩
        obtain ⟨B, hB⟩ : ∃ B, B = k * (j - 1) := ⟨_, rfl⟩
        have a1 : A ≤ 999 * 16 * 16 := by rw [hA]; exact Nat.mul_le_mul (Nat.mul_le_mul hn hk2) (by omega)
        have b1 : B ≤ 16 * 16 := by rw [hB]; exact Nat.mul_le_mul hk2 (by omega)
        have eA : (n : Int) * (k : Int) * (j : Int) = (A : Int) := by rw [hA]; simp
        have eB : (k : Int) * ((j : Int) - 1) = (B : Int) := by rw [hB, show ((j : Int) - 1) = ((j - 1 : Nat) : Int) from by omega]; simp
        have bA : 0 ≤ (n : Int) * (k : Int) * (j : Int) ∧ (n : Int) * (k : Int) * (j : Int) ≤ 255744 := by rw [eA]; omega
        have bB : 0 ≤ (k : Int) * ((j : Int) - 1) ∧ (k : Int) * ((j : Int) - 1) ≤ 256 := by rw [eB]; omega
        have hdg : dgc k n j ↔ (n : Int) * (k : Int) * (j : Int) < 1000 * ((j : Int) + (k : Int) * ((j : Int) - 1)) := by
          unfold dgc; rw [eA, eB, ← hA, ← hB]; omega
        have HD := Lib.hid hdg
        clear eA eB hdg hA hB a1 b1
        by_cases hc : (n : Int) * (k : Int) * (j : Int) < 1000 * ((j : Int) + (k : Int) * ((j : Int) - 1))
        · have he : degF k n = j := degF_eq k n j HN.out hj hjk hrel.out (HD.out.2 hc)
          have E := Lib.hid he; clear he
          go_wp2
          go_ret
          exact ⟨congrArg (fun x : Nat => Ending.returned (.int .i64 (x : Int))) E.out.symm, rfl⟩
        · have hc' : 1000 * ((j : Int) + (k : Int) * ((j : Int) - 1)) ≤ (n : Int) * (k : Int) * (j : Int) := by omega
          have HC := Lib.hid hc
          clear hc
          go_wp2
          go_round
          case rel => exact ⟨j + 1, by omega, by omega, by go_num, fun x h1 h2 => by
            by_cases hx : x = j
            · subst hx; intro h; exact HC.out (HD.out.1 h)
            · exact hrel.out x h1 (by omega)⟩
          case measure => simp [intOf]; omega
      · obtain rfl : j = k := by omega
        have he : degF j n = j := degF_top j n HN.out hk3 hrel.out
        have E := Lib.hid he; clear he
        go_wp2
        go_ret
        exact ⟨congrArg (fun x : Nat => Ending.returned (.int .i64 (x : Int))) E.out.symm, rfl⟩
end Go.Proofs.YtooepflfofgnnaaDoor
