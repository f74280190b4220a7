/- The contracts of package degree. -/
import Derived.Test.YtcpookgbneoilaaDoorOwnC
namespace Go.Proofs.YtcpookgbneoilaaDoor
open Go.ChangeShapes Go.WideShapes Go.ChangeAt Go.RowKit

/-- a number n is of degree d or less -/
def dgc (k n d : Nat) : Prop := n * k * d < 1000 * (d + k * (d - 1))
instance (k n d : Nat) : Decidable (dgc k n d) := inferInstanceAs (Decidable (_ < _))
def degFrom (k n : Nat) : Nat → Nat → Nat
  | 0, d => d
  | f + 1, d => if dgc k n d then d else degFrom k n f (d + 1)
def degF (k n : Nat) : Nat := if n * k < 1000 then 1 else degFrom k n (k - 2) 2

theorem dgc_top (k n : Nat) (hk : 1 ≤ k) (hn : n ≤ 999) : dgc k n k := by
  unfold dgc
  have h1 : k + k * (k - 1) = k * k := by
    obtain ⟨j, rfl⟩ : ∃ j, k = j + 1 := ⟨k - 1, by omega⟩
    simp only [Nat.add_sub_cancel]
    rw [Nat.mul_add (j + 1) j 1, Nat.mul_one]; omega
  rw [h1, Nat.mul_assoc]
  have : 0 < k * k := Nat.mul_pos hk hk
  exact Nat.mul_lt_mul_of_pos_right (by omega) this
theorem degFrom_eq (k n : Nat) : ∀ f d0 d, d0 ≤ d → d ≤ d0 + f → (∀ x, d0 ≤ x → x < d → ¬ dgc k n x) → (dgc k n d ∨ d = d0 + f) → degFrom k n f d0 = d
  | 0, d0, d, h1, h2, _, _ => by unfold degFrom; omega
  | f + 1, d0, d, h1, h2, h3, h4 => by
    unfold degFrom
    by_cases hd : d0 = d
    · subst hd
      rcases h4 with h | h
      · rw [if_pos h]
      · omega
    · rw [if_neg (h3 d0 (Nat.le_refl _) (by omega))]
      exact degFrom_eq k n f (d0 + 1) d (by omega) (by omega) (fun x hx hx2 => h3 x (by omega) hx2) (h4.imp id (fun h => by omega))
theorem degF_eq (k n d : Nat) (h0 : ¬ n * k < 1000) (h1 : 2 ≤ d) (h2 : d ≤ k) (h3 : ∀ x, 2 ≤ x → x < d → ¬ dgc k n x) (h4 : dgc k n d) : degF k n = d := by
  unfold degF; rw [if_neg h0]; exact degFrom_eq k n (k - 2) 2 d h1 (by omega) h3 (.inl h4)
theorem degF_bd (k n : Nat) (hk : 1 ≤ k) (hn : n ≤ 999) : 1 ≤ degF k n ∧ degF k n ≤ k := by
  unfold degF; split
  · omega
  · rename_i h
    have hk2 : 2 ≤ k := by
      rcases Nat.lt_or_ge k 2 with h2 | h2
      · have : k = 1 := by omega
        subst this; omega
      · exact h2
    have : ∀ f d, d ≤ degFrom k n f d ∧ degFrom k n f d ≤ d + f := by
      intro f
      induction f with
      | zero => intro d; unfold degFrom; omega
      | succ f ih =>
        intro d
        unfold degFrom; have := ih (d + 1); split <;> omega
    have := this (k - 2) 2
    omega

theorem dblocks_yes (k : Int) (w : World) (h0 : 1 ≤ k) (h1 : k ≤ 16) :
    Calls Tryd.prog 27 #[.int .i64 k] w fun e w' => e = .returned (.bool true) ∧ w = w' := by
  have hd : decide (k ≤ 16) = true := by simp; omega
  go_enter Tryd.func27, Tryd.ntmps27
  go_wp2
  go_ret
  exact ⟨rfl, rfl⟩
theorem dblocks_no (k : Int) (w : World) (h : k < 1 ∨ 16 < k) :
    Calls Tryd.prog 27 #[.int .i64 k] w fun e w' => e = .returned (.bool false) ∧ w = w' := by
  by_cases h0 : 1 ≤ k
  · have hd : decide (k ≤ 16) = false := by simp; omega
    clear h
    go_enter Tryd.func27, Tryd.ntmps27
    go_wp2
    go_ret
    exact ⟨rfl, rfl⟩
  · clear h
    go_enter Tryd.func27, Tryd.ntmps27
    go_wp2
    go_ret
    exact ⟨rfl, rfl⟩

theorem for_any (k n : Nat) (w : World) (hk : 1 ≤ k) (hk2 : k ≤ 16) (hn : n ≤ 999) :
    Calls Tryd.prog 53 #[.int .i64 k, .int .i64 n] w fun e w' => e = .returned (.int .i64 (degF k n)) ∧ w = w' := by
  have hp : n * k ≤ 999 * 16 := Nat.mul_le_mul hn hk2
  have hp' : (n : Int) * (k : Int) ≤ 15984 := by rw [← Int.natCast_mul]; omega
  have hp0 : 0 ≤ (n : Int) * (k : Int) := by rw [← Int.natCast_mul]; omega
  by_cases h1 : n * k < 1000
  · have e1 : degF k n = 1 := by unfold degF; rw [if_pos h1]
    have E := Lib.hid e1; clear e1
    have h1' : (n : Int) * (k : Int) < 1000 := by rw [← Int.natCast_mul]; omega
    clear hp h1
    go_enter Tryd.func53, Tryd.ntmps53
    go_wp2
    go_ret
    exact ⟨by rw [E.out]; rfl, rfl⟩
  · have h1' : 1000 ≤ (n : Int) * (k : Int) := by rw [← Int.natCast_mul]; omega
    have h1b : decide ((n : Int) * (k : Int) < 1000) = false := by simp; omega
    have HN := Lib.hid h1
    clear hp h1
    go_enter Tryd.func53, Tryd.ntmps53
    go_wp2
    go_loop [5] (fun d => ∃ j : Nat, 2 ≤ j ∧ j ≤ k ∧ d = .int .i64 j ∧ Hid (∀ x, 2 ≤ x → x < j → ¬ dgc k n x)) (fun d => k - (intOf d).toNat)
    case atStart =>
      have hk2 : 2 ≤ k := by
        rcases Nat.lt_or_ge k 2 with h2 | h2
        · have : k = 1 := by omega
          subst this; omega
        · exact h2
      exact ⟨2, Nat.le_refl _, hk2, rfl, fun x h1 h2 => by omega⟩
    case round =>
      obtain ⟨j, hj, hjk, rfl, hrel⟩ := hrel
      obtain ⟨A, hA⟩ : ∃ A, A = n * k * j := ⟨_, rfl⟩
      obtain ⟨B, hB⟩ : ∃ B, B = k * (j - 1) := ⟨_, rfl⟩
      have a1 : A ≤ 999 * 16 * 16 := by rw [hA]; exact Nat.mul_le_mul (Nat.mul_le_mul hn hk2) (by omega)
      have b1 : B ≤ 16 * 16 := by rw [hB]; exact Nat.mul_le_mul hk2 (by omega)
      have eA : (n : Int) * (k : Int) * (j : Int) = (A : Int) := by rw [hA]; simp
      have eB : (k : Int) * ((j : Int) - 1) = (B : Int) := by rw [hB, show ((j : Int) - 1) = ((j - 1 : Nat) : Int) from by omega]; simp
      have bA : 0 ≤ (n : Int) * (k : Int) * (j : Int) ∧ (n : Int) * (k : Int) * (j : Int) ≤ 255744 := by rw [eA]; omega
      have bB : 0 ≤ (k : Int) * ((j : Int) - 1) ∧ (k : Int) * ((j : Int) - 1) ≤ 256 := by rw [eB]; omega
      have hdg : dgc k n j ↔ ¬ 1000 * ((j : Int) + (k : Int) * ((j : Int) - 1)) ≤ (n : Int) * (k : Int) * (j : Int) := by
        unfold dgc; rw [eA, eB, ← hA, ← hB]; omega
      have HD := Lib.hid hdg
      clear eA eB hdg hA hB a1 b1
      by_cases hc : 1000 * ((j : Int) + (k : Int) * ((j : Int) - 1)) ≤ (n : Int) * (k : Int) * (j : Int)
      · have hlt : j < k := by
          rcases Nat.lt_or_ge j k with h | h
          · exact h
          · have : j = k := by omega
            subst this
            exact absurd hc (HD.out.1 (dgc_top j n hk hn))
        go_wp2
        go_round
        case rel => exact ⟨j + 1, by omega, by omega, by go_num, fun x h1 h2 => by
          by_cases hx : x = j
          · subst hx; intro h; exact HD.out.1 h hc
          · exact hrel.out x h1 (by omega)⟩
        case measure => simp [intOf]; omega
      · have he : degF k n = j := degF_eq k n j HN.out hj hjk hrel.out (HD.out.2 hc)
        have E := Lib.hid he; clear he
        go_wp2
        go_ret
        exact ⟨congrArg (fun x : Nat => Ending.returned (.int .i64 (x : Int))) E.out.symm, rfl⟩

theorem for_eq (k n d : Nat) (w : World) (hk : 1 ≤ k) (hk2 : k ≤ 16) (hn : n ≤ 999) (hd : degF k n = d + 1) :
    Calls Tryd.prog 53 #[.int .i64 k, .int .i64 n] w fun e w' => e = .returned (.int .i64 ((d : Int) + 1)) ∧ w = w' :=
  (for_any k n w hk hk2 hn).mono fun e w' h => ⟨by rw [h.1, hd]; rfl, h.2⟩

/-- how many of the first m numbers are of degree j + 1 -/
def tmsF (k : Nat) : Nat → Nat → Nat
  | 0, _ => 0
  | m + 1, j => tmsF k m j + if j + 1 = degF k m then 1 else 0
theorem tmsF_le (k : Nat) : ∀ m j, tmsF k m j ≤ m
  | 0, _ => Nat.le_refl _
  | m + 1, j => by have := tmsF_le k m j; unfold tmsF; split <;> omega
def tmsL (k : Nat) : List Int := (List.range k).map fun j => (tmsF k 1000 j : Int)
theorem tmsL_get (k j : Nat) (h : j < k) : (tmsL k).getD j 0 = (tmsF k 1000 j : Int) := by simp [tmsL, List.getD, h]
theorem tmsL_length (k : Nat) : (tmsL k).length = k := by simp [tmsL]

end Go.Proofs.YtcpookgbneoilaaDoor
