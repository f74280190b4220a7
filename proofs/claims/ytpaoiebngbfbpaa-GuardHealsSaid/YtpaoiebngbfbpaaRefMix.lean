/- The contracts of dropref1.In, Blocks, Xor, Sum. -/
import Derived.Test.YtpaoiebngbfbpaaMix
import Derived.Test.YtpaoiebngbfbpaaZero
namespace Go.Proofs.Ytpaoiebngbfbpaa
open Go.ChangeShapes Go.WideShapes Go.ChangeAt Go.RowKit

/-- halves, and powers of two -/
def hv (x : Nat) : Nat → Nat
  | 0 => x
  | k + 1 => hv x k / 2
def pw : Nat → Nat
  | 0 => 1
  | k + 1 => 2 * pw k
def nx (x y : Nat) : Nat → Nat
  | 0 => 0
  | k + 1 => nx x y k + if hv x k % 2 ≠ hv y k % 2 then pw k else 0
theorem hv_succ (x k : Nat) : hv x (k + 1) = hv x k / 2 := rfl
theorem pw_succ (k : Nat) : pw (k + 1) = 2 * pw k := rfl
theorem nx_succ (x y k : Nat) : nx x y (k + 1) = nx x y k + if hv x k % 2 ≠ hv y k % 2 then pw k else 0 := rfl
theorem xor_half (a b : Nat) : a ^^^ b = (if a % 2 ≠ b % 2 then 1 else 0) + 2 * ((a / 2) ^^^ (b / 2)) := by
  have h1 : (a ^^^ b) % 2 = 1 ↔ ¬ (a % 2 = 1 ↔ b % 2 = 1) := Nat.xor_mod_two_eq_one
  have h2 : (a ^^^ b) / 2 = a / 2 ^^^ b / 2 := Nat.xor_div_two
  rw [← h2]
  by_cases h : a % 2 = b % 2
  · rw [if_neg (by simpa using h)]
    have : ¬ (a ^^^ b) % 2 = 1 := fun e => h1.1 e (by rw [h])
    omega
  · rw [if_pos h]
    have : (a ^^^ b) % 2 = 1 := h1.2 (by omega)
    omega
theorem nx_inv (x y : Nat) : ∀ k, nx x y k + pw k * (hv x k ^^^ hv y k) = x ^^^ y
  | 0 => by simp [nx, pw, hv]
  | k + 1 => by
    have ih := nx_inv x y k
    rw [xor_half (hv x k) (hv y k)] at ih
    rw [nx_succ, pw_succ, hv_succ, hv_succ, ← ih, Nat.mul_add]
    split
    · rw [Nat.mul_one, ← Nat.mul_assoc, Nat.mul_comm (pw k) 2]; omega
    · rw [Nat.mul_zero, ← Nat.mul_assoc, Nat.mul_comm (pw k) 2]; omega
theorem hv_eight (x : Nat) (h : x < 256) : hv x 8 = 0 := by
  show x / 2 / 2 / 2 / 2 / 2 / 2 / 2 / 2 = 0
  omega
theorem nx_eight (x y : Nat) (hx : x < 256) (hy : y < 256) : nx x y 8 = x ^^^ y := by
  have h := nx_inv x y 8
  rw [hv_eight x hx, hv_eight y hy] at h
  simpa using h
theorem nx_le (x y : Nat) (hx : x < 256) (hy : y < 256) (k : Nat) : nx x y k < 256 := by
  have h := nx_inv x y k
  have h2 : x ^^^ y < 256 := Nat.xor_lt_two_pow (n := 8) hx hy
  omega
theorem hv_le (x : Nat) : ∀ k, hv x k ≤ x
  | 0 => Nat.le_refl _
  | k + 1 => by have := hv_le x k; unfold hv; omega
theorem pw_le : ∀ k, k ≤ 8 → pw k ≤ 256 := by decide

theorem xorL_take_succ (a b : List UInt8) (k : Nat) (ha : k < a.length) (hb : k < b.length) : (xorL a b).take (k + 1) = (xorL a b).take k ++ [a[k] ^^^ b[k]] := by
  have hl : k < (xorL a b).length := by simp [xorL]; omega
  rw [List.take_succ_eq_append_getElem hl]
  simp [xorL]

end Go.Proofs.Ytpaoiebngbfbpaa
