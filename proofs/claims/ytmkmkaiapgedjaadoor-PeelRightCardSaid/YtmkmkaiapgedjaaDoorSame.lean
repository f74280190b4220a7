/- The contracts of dropsame.Error, Ints, Strings, where they answer yes. -/
import Derived.Test.YtmkmkaiapgedjaaDoorAs
namespace Go.Proofs.YtmkmkaiapgedjaaDoor
open Go.ChangeShapes Go.WideShapes Go.ChangeAt Go.RowKit

theorem sameErr_nil (w : World) : Calls Tryd.prog 12 #[.nilIface, .int .i64 0] w fun e w' => e = .returned (.bool true) ∧ Lat w w' := by
  go_enter Tryd.func12, Tryd.ntmps12
  go_wp2_with (go_at_call 40; refine (told_nil _).mono ?_; rintro e w' ⟨rfl, hb⟩)
  go_ret
  exact ⟨rfl, hb⟩
theorem sameErr_eno (n : Int) (w : World) (hg : Hnd w) : Calls Tryd.prog 12 #[eno n, .int .i64 n] w fun e w' => e = .returned (.bool true) ∧ Lat w w' := by
  have H := Lib.hid hg
  clear hg
  go_enter Tryd.func12, Tryd.ntmps12
  go_wp2_with (go_at_call 40; refine (told_eno n _ H.out).mono ?_; rintro e w' ⟨rfl, hb⟩)
  go_ret
  exact ⟨rfl, hb⟩
theorem sameErr_any (n : Nat) (w : World) (hg : Hnd w) : Calls Tryd.prog 12 #[errv n, .int .i64 n] w fun e w' => e = .returned (.bool true) ∧ Lat w w' := by
  by_cases h : n = 0
  · subst h; exact sameErr_nil w
  · rw [errv_pos h]; exact sameErr_eno n w hg
end Go.Proofs.YtmkmkaiapgedjaaDoor
