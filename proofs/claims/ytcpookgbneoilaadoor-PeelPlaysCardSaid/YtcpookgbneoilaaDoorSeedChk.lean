/- The drawing of numbers ends for every seed: checked by the kernel, number by number. Nothing of the program is met here. -/
namespace Go.Proofs.YtcpookgbneoilaaDoor
def nxtN (n : Nat) : Nat := n * 16807 % 2147483647
def dgcB (k n d : Nat) : Bool := Nat.blt (n * k * d) (1000 * (d + k * (d - 1)))
def degFromB (k n : Nat) : Nat → Nat → Nat
  | 0, d => d
  | f + 1, d => bif dgcB k n d then d else degFromB k n f (d + 1)
def degFB (k n : Nat) : Nat := bif Nat.blt (n * k) 1000 then 1 else degFromB k n (k - 2) 2
def memB (i : Nat) : List Nat → Bool
  | [] => false
  | x :: l => bif Nat.beq x i then true else memB i l
/-- so many more are found in so many steps -/
def runB (k : Nat) : Nat → Nat → Nat → List Nat → Bool
  | 0, d, _, _ => Nat.beq d 0
  | f + 1, d, n, out => bif Nat.beq d 0 then true else bif memB (nxtN n % k) out then runB k f d (nxtN n) out else runB k f (d - 1) (nxtN n) (nxtN n % k :: out)
def okB (k seed : Nat) : Bool := runB k 150 (degFB k (nxtN seed % 1000)) (nxtN seed) []
def okAllB (k : Nat) : Nat → Nat → Bool
  | 0, _ => true
  | m + 1, s => bif okB k s then okAllB k m (s + 1) else false
set_option maxRecDepth 1000000
theorem okAll1 : okAllB 1 9999 2 = true := by decide +kernel
theorem okAll2 : okAllB 2 9998 3 = true := by decide +kernel
theorem okAll3 : okAllB 3 9997 4 = true := by decide +kernel
theorem okAll4 : okAllB 4 9996 5 = true := by decide +kernel
theorem okAll5 : okAllB 5 9995 6 = true := by decide +kernel
theorem okAll6 : okAllB 6 9994 7 = true := by decide +kernel
theorem okAll7 : okAllB 7 9993 8 = true := by decide +kernel
theorem okAll8 : okAllB 8 9992 9 = true := by decide +kernel
theorem okAll9 : okAllB 9 9991 10 = true := by decide +kernel
theorem okAll10 : okAllB 10 9990 11 = true := by decide +kernel
theorem okAll11 : okAllB 11 9989 12 = true := by decide +kernel
theorem okAll12 : okAllB 12 9988 13 = true := by decide +kernel
theorem okAll13 : okAllB 13 9987 14 = true := by decide +kernel
theorem okAll14 : okAllB 14 9986 15 = true := by decide +kernel
theorem okAll15 : okAllB 15 9985 16 = true := by decide +kernel
theorem okAll16 : okAllB 16 9984 17 = true := by decide +kernel
end Go.Proofs.YtcpookgbneoilaaDoor
