/- Lists of bytes, one over the other, and noughts. No program in sight. -/
import Derived.Test.YtcpookgbneoilaaGreatDoorBase
import Derived.Laws.Concat
namespace Go.Proofs.YtcpookgbneoilaaGreatDoor

/-- One list of bytes over another one. -/
def xorL (a b : List UInt8) : List UInt8 := List.zipWith (fun x y => x ^^^ y) a b
/-- A string, by its list of bytes. -/
abbrev S (l : List UInt8) : ByteArray := ⟨l.toArray⟩
theorem S_of (b : ByteArray) : ∃ l, b = S l := ⟨b.data.toList, by cases b; rfl⟩
theorem S_size (l : List UInt8) : (S l).size = l.length := rfl
theorem xorL_length (a b : List UInt8) (h : a.length = b.length) : (xorL a b).length = a.length := by simp [xorL, h]
theorem xorL_comm (a b : List UInt8) : xorL a b = xorL b a := by
  unfold xorL; rw [List.zipWith_comm]; congr 1; funext x y; exact UInt8.xor_comm y x
theorem xorL_assoc : ∀ a b c : List UInt8, xorL (xorL a b) c = xorL a (xorL b c)
  | [], _, _ => by simp [xorL]
  | _ :: _, [], _ => by simp [xorL]
  | _ :: _, _ :: _, [] => by simp [xorL]
  | x :: a, y :: b, z :: c => by
    have := xorL_assoc a b c
    simp only [xorL, List.zipWith_cons_cons, List.cons.injEq] at this ⊢
    exact ⟨UInt8.xor_assoc x y z, this⟩
/-- n noughts -/
def noughts (n : Nat) : List UInt8 := List.replicate n 0
theorem xorL_self : ∀ a : List UInt8, xorL a a = noughts a.length
  | [] => rfl
  | x :: a => by
    have := xorL_self a
    simp only [xorL, noughts, List.zipWith_cons_cons, List.length_cons, List.replicate_succ, List.cons.injEq] at this ⊢
    exact ⟨UInt8.xor_self, this⟩
theorem xorL_noughts : ∀ a : List UInt8, xorL a (noughts a.length) = a
  | [] => rfl
  | x :: a => by
    have := xorL_noughts a
    simp only [xorL, noughts, List.length_cons, List.replicate_succ, List.zipWith_cons_cons, List.cons.injEq] at this ⊢
    exact ⟨UInt8.xor_zero, this⟩
theorem xorL_back (a b : List UInt8) (h : a.length = b.length) : xorL (xorL a b) b = a := by
  rw [xorL_assoc, xorL_self, ← h, xorL_noughts]
theorem S_append (a b : List UInt8) : S a ++ S b = S (a ++ b) := ByteArray.mk_append_mk a b
theorem noughts_succ (k : Nat) : S (noughts k) ++ { data := #[0] } = S (noughts (k + 1)) := by
  rw [show ({ data := #[0] } : ByteArray) = S [0] from rfl, S_append, noughts, noughts, List.replicate_succ']
end Go.Proofs.YtcpookgbneoilaaGreatDoor
