/- Plain laws on degrees: they rise; the times add up to a thousand; half of all are of two or fewer. -/
import Derived.Test.YtcpookgbneoilaaDoorDegree
namespace Go.Proofs.YtcpookgbneoilaaDoor

theorem degFrom_ge (k n : Nat) : ∀ f d, d ≤ degFrom k n f d
  | 0, d => Nat.le_refl _
  | f + 1, d => by unfold degFrom; have := degFrom_ge k n f (d + 1); split <;> omega
theorem dgc_mono (k n m d : Nat) (h : n ≤ m) (hm : dgc k m d) : dgc k n d := by
  unfold dgc at *
  have : n * k * d ≤ m * k * d := Nat.mul_le_mul_right _ (Nat.mul_le_mul_right _ h)
  omega
theorem degFrom_mono (k n m : Nat) (h : n ≤ m) : ∀ f d, degFrom k n f d ≤ degFrom k m f d
  | 0, d => Nat.le_refl _
  | f + 1, d => by
    unfold degFrom
    by_cases hm : dgc k m d
    · rw [if_pos hm, if_pos (dgc_mono k n m d h hm)]; exact Nat.le_refl _
    · rw [if_neg hm]
      by_cases hn : dgc k n d
      · rw [if_pos hn]; have := degFrom_ge k m f (d + 1); omega
      · rw [if_neg hn]; exact degFrom_mono k n m h f (d + 1)
theorem degF_mono (k n m : Nat) (h : n ≤ m) : degF k n ≤ degF k m := by
  have hk : n * k ≤ m * k := Nat.mul_le_mul_right _ h
  unfold degF
  by_cases h1 : m * k < 1000
  · rw [if_pos h1, if_pos (by omega)]; exact Nat.le_refl _
  · rw [if_neg h1]
    by_cases h2 : n * k < 1000
    · rw [if_pos h2]; have := degFrom_ge k m (k - 2) 2; omega
    · rw [if_neg h2]; exact degFrom_mono k n m h _ _

/-- the sum of the first i times -/
def tsum (k m : Nat) : Nat → Nat
  | 0 => 0
  | i + 1 => tsum k m i + tmsF k m i
theorem tsum_step (k m i : Nat) : tsum k m (i + 1) = tsum k m i + tmsF k m i := rfl
theorem tsum_zero (k : Nat) : ∀ i, tsum k 0 i = 0
  | 0 => rfl
  | i + 1 => by unfold tsum; rw [tsum_zero k i]; rfl
theorem tsum_succ (k m : Nat) (hm : 1 ≤ degF k m) : ∀ i, tsum k (m + 1) i = tsum k m i + if degF k m ≤ i then 1 else 0
  | 0 => by unfold tsum; rw [if_neg (by omega)]
  | i + 1 => by
    unfold tsum
    rw [tsum_succ k m hm i, tmsF]
    by_cases h1 : degF k m ≤ i
    · rw [if_pos h1, if_neg (by omega), if_pos (by omega)]; omega
    · by_cases h2 : i + 1 = degF k m
      · rw [if_neg h1, if_pos h2, if_pos (by omega)]; omega
      · rw [if_neg h1, if_neg h2, if_neg (by omega)]; omega
theorem tsum_all (k : Nat) (hk : 1 ≤ k) : ∀ m, m ≤ 1000 → tsum k m k = m
  | 0, _ => tsum_zero k k
  | m + 1, h => by
    have hb := degF_bd k m hk (by omega)
    rw [tsum_succ k m hb.1, tsum_all k hk m (by omega), if_pos hb.2]
theorem tsum_le (k m i : Nat) : tsum k m i ≤ i * m := by
  induction i with
  | zero => simp [tsum]
  | succ i ih => unfold tsum; have := tmsF_le k m i; rw [Nat.succ_mul]; omega
theorem tmsF_half : ∀ k, k ≤ 16 → 2 ≤ k → 500 ≤ tmsF k 1000 0 + tmsF k 1000 1 := by decide +kernel
theorem tmsF_two : tmsF 2 1000 0 = 500 := by decide +kernel
end Go.Proofs.YtcpookgbneoilaaDoor
