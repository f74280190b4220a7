/- The low bit of a number below 2^16, by the kernel. No program in sight. -/
import Derived.Test.YtcpookgbneoilaaDoorTab
namespace Go.Proofs.YtcpookgbneoilaaDoor

def lowB (n : Nat) : Bool := Nat.beq (Nat.land n (18446744073709551616 - n)) (Nat.pow 2 (lowI n))
def lowAll : Nat → Nat → Bool
  | 0, _ => true
  | m + 1, s => lowB s && lowAll m (s + 1)
theorem lowAll_at : ∀ m s, lowAll m s = true → ∀ n, s ≤ n → n < s + m → lowB n = true
  | 0, s, _, n, h1, h2 => by omega
  | m + 1, s, h, n, h1, h2 => by
    unfold lowAll at h
    rw [Bool.and_eq_true] at h
    by_cases e : n = s
    · subst e; exact h.1
    · exact lowAll_at m (s + 1) h.2 n (by omega) (by omega)
theorem lowAll0 : lowAll 4095 1 = true := by decide +kernel
theorem lowAll1 : lowAll 4096 4096 = true := by decide +kernel
theorem lowAll2 : lowAll 4096 8192 = true := by decide +kernel
theorem lowAll3 : lowAll 4096 12288 = true := by decide +kernel
theorem lowAll4 : lowAll 4096 16384 = true := by decide +kernel
theorem lowAll5 : lowAll 4096 20480 = true := by decide +kernel
theorem lowAll6 : lowAll 4096 24576 = true := by decide +kernel
theorem lowAll7 : lowAll 4096 28672 = true := by decide +kernel
theorem lowAll8 : lowAll 4096 32768 = true := by decide +kernel
theorem lowAll9 : lowAll 4096 36864 = true := by decide +kernel
theorem lowAll10 : lowAll 4096 40960 = true := by decide +kernel
theorem lowAll11 : lowAll 4096 45056 = true := by decide +kernel
theorem lowAll12 : lowAll 4096 49152 = true := by decide +kernel
theorem lowAll13 : lowAll 4096 53248 = true := by decide +kernel
theorem lowAll14 : lowAll 4096 57344 = true := by decide +kernel
theorem lowAll15 : lowAll 4096 61440 = true := by decide +kernel
theorem low_and (n : Nat) (h0 : n ≠ 0) (hn : n < 65536) : n &&& (18446744073709551616 - n) = 2 ^ lowI n := by
  have key : lowB n = true := by
    by_cases c0 : n < 4096
    · exact lowAll_at _ _ lowAll0 n (by omega) (by omega)
    by_cases c1 : n < 8192
    · exact lowAll_at _ _ lowAll1 n (by omega) (by omega)
    by_cases c2 : n < 12288
    · exact lowAll_at _ _ lowAll2 n (by omega) (by omega)
    by_cases c3 : n < 16384
    · exact lowAll_at _ _ lowAll3 n (by omega) (by omega)
    by_cases c4 : n < 20480
    · exact lowAll_at _ _ lowAll4 n (by omega) (by omega)
    by_cases c5 : n < 24576
    · exact lowAll_at _ _ lowAll5 n (by omega) (by omega)
    by_cases c6 : n < 28672
    · exact lowAll_at _ _ lowAll6 n (by omega) (by omega)
    by_cases c7 : n < 32768
    · exact lowAll_at _ _ lowAll7 n (by omega) (by omega)
    by_cases c8 : n < 36864
    · exact lowAll_at _ _ lowAll8 n (by omega) (by omega)
    by_cases c9 : n < 40960
    · exact lowAll_at _ _ lowAll9 n (by omega) (by omega)
    by_cases c10 : n < 45056
    · exact lowAll_at _ _ lowAll10 n (by omega) (by omega)
    by_cases c11 : n < 49152
    · exact lowAll_at _ _ lowAll11 n (by omega) (by omega)
    by_cases c12 : n < 53248
    · exact lowAll_at _ _ lowAll12 n (by omega) (by omega)
    by_cases c13 : n < 57344
    · exact lowAll_at _ _ lowAll13 n (by omega) (by omega)
    by_cases c14 : n < 61440
    · exact lowAll_at _ _ lowAll14 n (by omega) (by omega)
    by_cases c15 : n < 65536
    · exact lowAll_at _ _ lowAll15 n (by omega) (by omega)
    omega
  exact Nat.eq_of_beq_eq_true key
end Go.Proofs.YtcpookgbneoilaaDoor
