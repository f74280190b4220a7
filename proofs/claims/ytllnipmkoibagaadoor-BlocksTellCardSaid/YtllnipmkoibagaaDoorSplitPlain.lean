/- Plain laws on bytes cut into blocks. No program in sight. -/
import Derived.Test.YtllnipmkoibagaaDoorBytePlain
namespace Go.Proofs.YtllnipmkoibagaaDoor

/-- how many blocks -/
def many (n s : Nat) : Nat := max 1 ((n + s - 1) / s)
theorem many_le (n s : Nat) (h : 1 ≤ s) : n ≤ many n s * s := by
  unfold many
  have h1 := Nat.div_add_mod (n + s - 1) s
  have h2 := Nat.mod_lt (n + s - 1) (show 0 < s by omega)
  have h3 : (n + s - 1) / s * s ≤ max 1 ((n + s - 1) / s) * s := Nat.mul_le_mul_right _ (by omega)
  rw [Nat.mul_comm] at h1
  omega
theorem many_lt (n s : Nat) (h : 1 ≤ s) : many n s * s < n + s ∨ n = 0 := by
  unfold many
  by_cases hn : n = 0
  · exact .inr hn
  · left
    have h1 := Nat.div_add_mod (n + s - 1) s
    have h2 : 1 ≤ (n + s - 1) / s := (Nat.le_div_iff_mul_le (by omega)).2 (by omega)
    rw [Nat.max_eq_right h2]
    rw [Nat.mul_comm] at h1
    omega
theorem many_pos (n s : Nat) : 1 ≤ many n s := by unfold many; omega
/-- the bytes with noughts behind -/
def padL (D : List UInt8) (s : Nat) : List UInt8 := D ++ noughts (many D.length s * s - D.length)
theorem padL_length (D : List UInt8) (s : Nat) (h : 1 ≤ s) : (padL D s).length = many D.length s * s := by
  have := many_le D.length s h
  unfold padL; rw [List.length_append]
  have e : (noughts (many D.length s * s - D.length)).length = many D.length s * s - D.length := by simp [noughts]
  omega
theorem padL_take (D : List UInt8) (s : Nat) : (padL D s).take D.length = D := by unfold padL; exact List.take_left
/-- block i of bytes -/
def cutAt (E : List UInt8) (s i : Nat) : List UInt8 := (E.drop (i * s)).take s
/-- the first k blocks -/
def cuts (E : List UInt8) (s k : Nat) : List ByteArray := (List.range k).map fun i => S (cutAt E s i)
theorem cuts_length (E : List UInt8) (s k : Nat) : (cuts E s k).length = k := by simp [cuts]
theorem cuts_succ (E : List UInt8) (s k : Nat) : cuts E s (k + 1) = cuts E s k ++ [S (cutAt E s k)] := by unfold cuts; rw [List.range_succ, List.map_append]; rfl
theorem cuts_getD (E : List UInt8) (s k j : Nat) (h : j < k) : (cuts E s k).getD j ByteArray.empty = S (cutAt E s j) := by
  rw [List.getD_eq_getElem?_getD, List.getElem?_eq_getElem (by rw [cuts_length]; exact h)]; simp [cuts]
theorem cutAt_length (E : List UInt8) (s k i : Nat) (h : E.length = k * s) (hi : i < k) : (cutAt E s i).length = s := by
  unfold cutAt
  rw [List.length_take, List.length_drop, h]
  have : i * s + s ≤ k * s := by rw [← Nat.succ_mul]; exact Nat.mul_le_mul_right _ hi
  omega
/-- the blocks joined -/
theorem cuts_join (E : List UInt8) (s : Nat) : ∀ k, k * s ≤ E.length → ((cuts E s k).map fun b => b.data.toList).flatten = E.take (k * s)
  | 0, _ => by simp [cuts]
  | k + 1, h => by
    rw [Nat.succ_mul] at h
    rw [cuts_succ, List.map_append, List.flatten_append, cuts_join E s k (by omega)]
    show E.take (k * s) ++ ([cutAt E s k]).flatten = _
    rw [List.flatten_singleton, Nat.succ_mul, List.take_add]
    rfl
/-- what is wrong -/
def spE (n : Nat) (s : Int) : Nat := if 120 < n then 4 else if s < 1 ∨ 8 < s then 1 else if 16 < many n s.toNat then 4 else 0
end Go.Proofs.YtllnipmkoibagaaDoor
