/- Plain laws on short numbers: the bits of numbers, and the numbers of bits. No program in sight. -/
import Derived.Test.YtooepflfofgnnaaDoorPicPlain
namespace Go.Proofs.YtooepflfofgnnaaDoor

def fld (n : Int) : Int := if n < 0 then -2 * n - 1 else 2 * n
def unf (n : Int) : Int := if n % 2 = 1 then -((n + 1) / 2) else n / 2
theorem fld_nonneg (n : Int) : 0 ≤ fld n := by unfold fld; split <;> omega
theorem fld_le (n : Int) (h1 : -255 ≤ n) (h2 : n ≤ 255) : fld n ≤ 510 := by unfold fld; split <;> omega
theorem unf_fld (n : Int) : unf (fld n) = n := by unfold unf fld; split <;> split <;> omega
theorem fld_unf (n : Int) (h : 0 ≤ n) : fld (unf n) = n := by unfold unf fld; split <;> split <;> omega
/-- the b low bits of n, the high one first -/
def lowb (n : Nat) : Nat → List Int
  | 0 => []
  | b + 1 => ((n / 2 ^ b % 2 : Nat) : Int) :: lowb n b
theorem lowb_length (n : Nat) : ∀ b, (lowb n b).length = b
  | 0 => rfl
  | b + 1 => by rw [lowb, List.length_cons, lowb_length n b]
/-- one number's bits -/
def ric1 (n : Nat) (low : Nat) : List Int := List.replicate (n / 2 ^ low) 1 ++ (0 :: lowb n low)
theorem ric1_length (n low : Nat) : (ric1 n low).length = n / 2 ^ low + 1 + low := by
  unfold ric1; rw [List.length_append, List.length_replicate, List.length_cons, lowb_length]; omega
/-- the first k numbers' bits -/
def ric (l : List Int) (low : Nat) : Nat → List Int
  | 0 => []
  | k + 1 => ric l low k ++ ric1 (fld (l.getD k 0)).toNat low
theorem ric_zero_length (n low : Nat) : ∀ k, ric (List.replicate n 0) low k = List.replicate (k * (low + 1)) 0
  | 0 => by simp [ric]
  | k + 1 => by
    have ih := ric_zero_length n low k
    have e1 : (List.replicate n (0 : Int)).getD k 0 = 0 := by
      rw [List.getD_eq_getElem?_getD, List.getElem?_replicate]; split <;> rfl
    have e2 : (fld 0).toNat = 0 := rfl
    have e3 : ∀ b, lowb 0 b = List.replicate b 0 := by
      intro b
      induction b with
      | zero => rfl
      | succ b ih => rw [lowb, ih, Nat.zero_div]; rfl
    rw [ric, ih, e1, e2, ric1, Nat.zero_div, e3]
    rw [List.replicate_zero, List.nil_append, ← List.replicate_succ, List.replicate_append_replicate, Nat.add_mul, Nat.one_mul]
end Go.Proofs.YtooepflfofgnnaaDoor
