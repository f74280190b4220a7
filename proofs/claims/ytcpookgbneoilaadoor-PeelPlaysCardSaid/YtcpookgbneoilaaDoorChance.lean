/- The contracts of package chance. -/
import Derived.Test.YtcpookgbneoilaaDoorOwnC
namespace Go.Proofs.YtcpookgbneoilaaDoor
open Go.ChangeShapes Go.WideShapes Go.ChangeAt Go.RowKit

/-- the next number -/
def nxt (n : Int) : Int := n * 16807 % 2147483647
theorem nxt_bd (n : Int) : 0 ≤ nxt n ∧ nxt n < 2147483647 := by unfold nxt; omega
theorem nxt_eq (n : Int) : n * 16807 % 2147483647 = nxt n := rfl
/-- the number k behind n -/
def itn (n : Int) : Nat → Int
  | 0 => n
  | k + 1 => nxt (itn n k)
def rowL (n : Int) (k : Nat) : List Int := (List.range k).map fun i => itn n (i + 1)
theorem rowL_succ (n : Int) (k : Nat) : rowL n (k + 1) = rowL n k ++ [nxt (itn n k)] := by
  unfold rowL; rw [List.range_succ, List.map_append]; rfl

theorem go_any (n : Int) (w : World) (h0 : 0 ≤ n) (h1 : n ≤ 2147483647) :
    Calls Tryd.prog 52 #[.int .i64 n] w fun e w' => e = .returned (.int .i64 (nxt n)) ∧ w = w' := by
  go_enter Tryd.func52, Tryd.ntmps52
  go_wp2
  go_ret
  exact ⟨rfl, rfl⟩

theorem itn_bd (n : Int) (k : Nat) (h0 : 1 ≤ n) (h1 : n ≤ 2147483646) : 0 ≤ itn n k ∧ itn n k ≤ 2147483646 := by
  cases k with
  | zero => exact ⟨by unfold itn; omega, by unfold itn; omega⟩
  | succ k => have := nxt_bd (itn n k); exact ⟨this.1, by unfold itn; omega⟩
theorem rowL_length (n : Int) (k : Nat) : (rowL n k).length = k := by simp [rowL]
theorem rowL_wf (n : Int) (k : Nat) : ∀ z ∈ rowL n k, -9223372036854775808 ≤ z ∧ z ≤ 9223372036854775807 := by
  intro z hz
  unfold rowL at hz
  obtain ⟨i, _, rfl⟩ := List.mem_map.1 hz
  have := nxt_bd (itn n i)
  show _ ≤ nxt (itn n i) ∧ nxt (itn n i) ≤ _
  omega

end Go.Proofs.YtcpookgbneoilaaDoor
