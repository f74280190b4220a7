/- Strings of noughts (dropref1.Zero), and mix.Xor over lists of bytes. -/
import Derived.Test.YtllnipmkoibagaaBytes
import Derived.Laws.Concat
namespace Go.Proofs.Ytllnipmkoibagaa
open Go.ChangeShapes Go.WideShapes Go.ChangeAt Go.RowKit

/-- A string, by its list of bytes. -/
abbrev S (l : List UInt8) : ByteArray := ⟨l.toArray⟩
theorem S_of (b : ByteArray) : ∃ l, b = S l := ⟨b.data.toList, by cases b; rfl⟩
theorem S_size (l : List UInt8) : (S l).size = l.length := rfl

theorem xorS_ok (a b r : List UInt8) (w : World) (h1 : a.length ≤ 120) (h3 : a.length = b.length) (hr : xorL a b = r) :
    Calls Try.prog 15 #[.string (S a), .string (S b)] w fun e w' => e = .returned (.tuple #[.string (S r), .nilIface]) ∧ Lat w w' := by
  subst hr; exact xor_ok (S a) (S b) w h1 h3
theorem xorS_full (a b : List UInt8) (w : World) (h : 120 < a.length ∨ 120 < b.length) :
    Calls Try.prog 15 #[.string (S a), .string (S b)] w fun e w' => e = .returned (.tuple #[.string .empty, eno 4]) ∧ Lat w w' := xor_full (S a) (S b) w h
theorem xorS_shape (a b : List UInt8) (w : World) (h1 : a.length ≤ 120) (h2 : b.length ≤ 120) (h3 : a.length ≠ b.length) :
    Calls Try.prog 15 #[.string (S a), .string (S b)] w fun e w' => e = .returned (.tuple #[.string .empty, eno 3]) ∧ Lat w w' := xor_shape (S a) (S b) w h1 h2 h3

theorem xorL_length (a b : List UInt8) (h : a.length = b.length) : (xorL a b).length = a.length := by simp [xorL, h]
theorem xorL_comm (a b : List UInt8) : xorL a b = xorL b a := by
  unfold xorL; rw [List.zipWith_comm]; congr 1; funext x y; exact UInt8.xor_comm y x
theorem xorL_assoc : ∀ a b c : List UInt8, xorL (xorL a b) c = xorL a (xorL b c)
  | [], _, _ => by simp [xorL]
  | _ :: _, [], _ => by simp [xorL]
  | _ :: _, _ :: _, [] => by simp [xorL]
  | x :: a, y :: b, z :: c => by
    have := xorL_assoc a b c
    simp only [xorL, List.zipWith_cons_cons, List.cons.injEq] at this ⊢
    exact ⟨UInt8.xor_assoc x y z, this⟩
/-- n noughts -/
def noughts (n : Nat) : List UInt8 := List.replicate n 0
theorem xorL_self : ∀ a : List UInt8, xorL a a = noughts a.length
  | [] => rfl
  | x :: a => by
    have := xorL_self a
    simp only [xorL, noughts, List.zipWith_cons_cons, List.length_cons, List.replicate_succ, List.cons.injEq] at this ⊢
    exact ⟨UInt8.xor_self, this⟩
theorem xorL_noughts : ∀ a : List UInt8, xorL a (noughts a.length) = a
  | [] => rfl
  | x :: a => by
    have := xorL_noughts a
    simp only [xorL, noughts, List.length_cons, List.replicate_succ, List.zipWith_cons_cons, List.cons.injEq] at this ⊢
    exact ⟨UInt8.xor_zero, this⟩
theorem xorL_back (a b : List UInt8) (h : a.length = b.length) : xorL (xorL a b) b = a := by
  rw [xorL_assoc, xorL_self, ← h, xorL_noughts]

theorem S_append (a b : List UInt8) : S a ++ S b = S (a ++ b) := ByteArray.mk_append_mk a b
theorem noughts_succ (k : Nat) : S (noughts k) ++ { data := #[0] } = S (noughts (k + 1)) := by
  rw [show ({ data := #[0] } : ByteArray) = S [0] from rfl, S_append, noughts, noughts, List.replicate_succ']

theorem zero_any (n : Nat) (w : World) (hn : n ≤ 100000) :
    Calls Try.prog 16 #[.int .i64 n] w fun e w' => e = .returned (.string (S (noughts n))) ∧ Lat w w' := by
  go_enter Try.func16, Try.ntmps16
  go_wp2
  go_loop [3, 4] (fun s i => ∃ k : Nat, k ≤ n ∧ i = .int .i64 k ∧ s = .string (S (noughts k))) (fun _ i => n - (intOf i).toNat)
  case atStart => exact ⟨0, Nat.zero_le _, rfl, rfl⟩
  case round =>
    obtain ⟨k, hk, rfl, rfl⟩ := hrel
    have hl : (noughts k).length ≤ 100000 := by simp [noughts]; omega
    by_cases hlt : k < n
    · go_wp2
      go_round
      case rel => exact ⟨k + 1, by omega, by go_num, congrArg Value.string (noughts_succ k)⟩
      case measure => simp [intOf]; omega
    · obtain rfl : k = n := by omega
      go_wp2
      go_ret
      exact ⟨rfl, Below.refl _ _⟩
end Go.Proofs.Ytllnipmkoibagaa
