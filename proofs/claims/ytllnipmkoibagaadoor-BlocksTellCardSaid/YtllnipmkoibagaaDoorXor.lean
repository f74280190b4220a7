/- The contracts of mix.Xor. -/
import Derived.Test.YtllnipmkoibagaaDoorBytes
namespace Go.Proofs.YtllnipmkoibagaaDoor
open Go.ChangeShapes Go.WideShapes Go.ChangeAt Go.RowKit

theorem xor_full (a b : ByteArray) (w : World) (h : 120 < a.size ∨ 120 < b.size) :
    Calls Tryd.prog 26 #[.string a, .string b] w fun e w' => e = .returned (.tuple #[.string .empty, eno 4]) ∧ Lat w w' := by
  by_cases h1 : (120 : Int) < (a.size : Int)
  · go_enter Tryd.func26, Tryd.ntmps26
    go_wp2
    go_ret2
    exact ⟨rfl, Below.refl _ _⟩
  · have h2 : (120 : Int) < (b.size : Int) := by omega
    go_enter Tryd.func26, Tryd.ntmps26
    go_wp2
    go_ret2
    exact ⟨rfl, Below.refl _ _⟩
theorem xor_shape (a b : ByteArray) (w : World) (h1 : a.size ≤ 120) (h2 : b.size ≤ 120) (h3 : a.size ≠ b.size) :
    Calls Tryd.prog 26 #[.string a, .string b] w fun e w' => e = .returned (.tuple #[.string .empty, eno 3]) ∧ Lat w w' := by
  have h4 : ((a.size : Int) == (b.size : Int)) = false := by simp; omega
  have h5 : ((a.size : Int) != (b.size : Int)) = true := by simp; omega
  go_enter Tryd.func26, Tryd.ntmps26
  go_wp2
  go_ret2
  exact ⟨rfl, Below.refl _ _⟩
theorem xor_ok (a b : ByteArray) (w : World) (h1 : a.size ≤ 120) (h3 : a.size = b.size) :
    Calls Tryd.prog 26 #[.string a, .string b] w fun e w' => e = .returned (.tuple #[.string ⟨(xorL a.data.toList b.data.toList).toArray⟩, .nilIface]) ∧ Lat w w' := by
  have h2 : b.size ≤ 120 := by omega
  have h4 : ((a.size : Int) != (b.size : Int)) = false := by simp; omega
  have H3 := Lib.hid h3; clear h3
  go_enter Tryd.func26, Tryd.ntmps26
  go_wp2_with (go_at_call 58; refine (over_any a b _ H3.out (by unfold maxLen; omega)).mono ?_; rintro e w' ⟨rfl, hb⟩)
  go_ret2
  exact ⟨rfl, hb⟩
theorem xorS_ok (a b r : List UInt8) (w : World) (h1 : a.length ≤ 120) (h3 : a.length = b.length) (hr : xorL a b = r) :
    Calls Tryd.prog 26 #[.string (S a), .string (S b)] w fun e w' => e = .returned (.tuple #[.string (S r), .nilIface]) ∧ Lat w w' := by
  subst hr; exact xor_ok (S a) (S b) w h1 h3
theorem xorS_full (a b : List UInt8) (w : World) (h : 120 < a.length ∨ 120 < b.length) :
    Calls Tryd.prog 26 #[.string (S a), .string (S b)] w fun e w' => e = .returned (.tuple #[.string .empty, eno 4]) ∧ Lat w w' := xor_full (S a) (S b) w h
theorem xorS_shape (a b : List UInt8) (w : World) (h1 : a.length ≤ 120) (h2 : b.length ≤ 120) (h3 : a.length ≠ b.length) :
    Calls Tryd.prog 26 #[.string (S a), .string (S b)] w fun e w' => e = .returned (.tuple #[.string .empty, eno 3]) ∧ Lat w w' := xor_shape (S a) (S b) w h1 h2 h3
end Go.Proofs.YtllnipmkoibagaaDoor
