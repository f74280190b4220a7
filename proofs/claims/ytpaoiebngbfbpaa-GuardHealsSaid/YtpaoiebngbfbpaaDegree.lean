/- The contracts of package degree. -/
import Derived.Test.YtpaoiebngbfbpaaOwnC
namespace Go.Proofs.Ytpaoiebngbfbpaa
open Go.ChangeShapes Go.WideShapes Go.ChangeAt Go.RowKit

/-- a number n is of degree d or less -/
def dgc (k n d : Nat) : Prop := n * k * d < 1000 * (d + k * (d - 1))
instance (k n d : Nat) : Decidable (dgc k n d) := inferInstanceAs (Decidable (_ < _))
def degFrom (k n : Nat) : Nat → Nat → Nat
  | 0, d => d
  | f + 1, d => if dgc k n d then d else degFrom k n f (d + 1)
def degF (k n : Nat) : Nat := if n * k < 1000 then 1 else degFrom k n (k - 2) 2

theorem dgc_top (k n : Nat) (hk : 1 ≤ k) (hn : n ≤ 999) : dgc k n k := by
  unfold dgc
  have h1 : k + k * (k - 1) = k * k := by
    obtain ⟨j, rfl⟩ : ∃ j, k = j + 1 := ⟨k - 1, by omega⟩
    simp only [Nat.add_sub_cancel]
    rw [Nat.mul_add (j + 1) j 1, Nat.mul_one]; omega
  rw [h1, Nat.mul_assoc]
  have : 0 < k * k := Nat.mul_pos hk hk
  exact Nat.mul_lt_mul_of_pos_right (by omega) this
theorem degFrom_eq (k n : Nat) : ∀ f d0 d, d0 ≤ d → d ≤ d0 + f → (∀ x, d0 ≤ x → x < d → ¬ dgc k n x) → (dgc k n d ∨ d = d0 + f) → degFrom k n f d0 = d
  | 0, d0, d, h1, h2, _, _ => by unfold degFrom; omega
  | f + 1, d0, d, h1, h2, h3, h4 => by
    unfold degFrom
    by_cases hd : d0 = d
    · subst hd
      rcases h4 with h | h
      · rw [if_pos h]
      · omega
    · rw [if_neg (h3 d0 (Nat.le_refl _) (by omega))]
      exact degFrom_eq k n f (d0 + 1) d (by omega) (by omega) (fun x hx hx2 => h3 x (by omega) hx2) (h4.imp id (fun h => by omega))
theorem degF_eq (k n d : Nat) (h0 : ¬ n * k < 1000) (h1 : 2 ≤ d) (h2 : d ≤ k) (h3 : ∀ x, 2 ≤ x → x < d → ¬ dgc k n x) (h4 : dgc k n d) : degF k n = d := by
  unfold degF; rw [if_neg h0]; exact degFrom_eq k n (k - 2) 2 d h1 (by omega) h3 (.inl h4)
theorem degF_bd (k n : Nat) (hk : 1 ≤ k) (hn : n ≤ 999) : 1 ≤ degF k n ∧ degF k n ≤ k := by
  unfold degF; split
  · omega
  · rename_i h
    have hk2 : 2 ≤ k := by
      rcases Nat.lt_or_ge k 2 with h2 | h2
      · have : k = 1 := by omega
        subst this; omega
      · exact h2
    have : ∀ f d, d ≤ degFrom k n f d ∧ degFrom k n f d ≤ d + f := by
      intro f
      induction f with
      | zero => intro d; unfold degFrom; omega
      | succ f ih =>
        intro d
        unfold degFrom; have := ih (d + 1); split <;> omega
    have := this (k - 2) 2
    omega

theorem dblocks_yes (k : Int) (w : World) (h0 : 1 ≤ k) (h1 : k ≤ 16) :
    Calls Try.prog 8 #[.int .i64 k] w fun e w' => e = .returned (.bool true) ∧ w = w' := by
  have hd : decide (k ≤ 16) = true := by simp; omega
  go_enter Try.func8, Try.ntmps8
  go_wp2
  go_ret
  exact ⟨rfl, rfl⟩
theorem dblocks_no (k : Int) (w : World) (h : k < 1 ∨ 16 < k) :
    Calls Try.prog 8 #[.int .i64 k] w fun e w' => e = .returned (.bool false) ∧ w = w' := by
  by_cases h0 : 1 ≤ k
  · have hd : decide (k ≤ 16) = false := by simp; omega
    clear h
    go_enter Try.func8, Try.ntmps8
    go_wp2
    go_ret
    exact ⟨rfl, rfl⟩
  · clear h
    go_enter Try.func8, Try.ntmps8
    go_wp2
    go_ret
    exact ⟨rfl, rfl⟩

/-- how many of the first m numbers are of degree j + 1 -/
def tmsF (k : Nat) : Nat → Nat → Nat
  | 0, _ => 0
  | m + 1, j => tmsF k m j + if j + 1 = degF k m then 1 else 0
theorem tmsF_le (k : Nat) : ∀ m j, tmsF k m j ≤ m
  | 0, _ => Nat.le_refl _
  | m + 1, j => by have := tmsF_le k m j; unfold tmsF; split <;> omega
def tmsL (k : Nat) : List Int := (List.range k).map fun j => (tmsF k 1000 j : Int)
theorem tmsL_get (k j : Nat) (h : j < k) : (tmsL k).getD j 0 = (tmsF k 1000 j : Int) := by simp [tmsL, List.getD, h]
theorem tmsL_length (k : Nat) : (tmsL k).length = k := by simp [tmsL]

end Go.Proofs.Ytpaoiebngbfbpaa
