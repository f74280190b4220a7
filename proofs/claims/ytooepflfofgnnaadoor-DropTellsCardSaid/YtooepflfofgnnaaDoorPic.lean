/- The contracts of package picture: Side, pixel, Check, Alike, Apart, Unlike. -/
import Derived.Test.YtooepflfofgnnaaDoorFuncI
import Derived.Test.YtooepflfofgnnaaDoorPicPlain
namespace Go.Proofs.YtooepflfofgnnaaDoor
open Go.ChangeShapes Go.WideShapes Go.ChangeAt Go.RowKit

theorem bool_ret {a b : Bool} (h : a = b) : Ending.returned (.bool a) = .returned (.bool b) := by rw [h]
theorem side_any (n : Int) (w : World) :
    Calls Tryd.prog 91 #[.int .i64 n] w fun e w' => e = .returned (.bool (sideB n)) ∧ w = w' := by
  go_enter Tryd.func91, Tryd.ntmps91
  go_wp2
  all_goals
    go_ret
    exact ⟨bool_ret (by simp [sideB] <;> omega), rfl⟩
theorem pixel_any (n : Int) (w : World) :
    Calls Tryd.prog 146 #[.int .i64 n] w fun e w' => e = .returned (.bool (pixB n)) ∧ w = w' := by
  go_enter Tryd.func146, Tryd.ntmps146
  go_wp2
  all_goals
    go_ret
    exact ⟨bool_ret (by simp [pixB] <;> omega), rfl⟩
theorem pixTest (zs : List Int) : TestI 145 (fun z => !pixB z) zs := by
  intro z _ w
  go_enter Tryd.func145, Tryd.ntmps145
  go_wp2_with (go_at_call 146; refine (pixel_any z _).mono ?_; rintro e w' ⟨rfl, rfl⟩)
  go_ret
  exact ⟨rfl, rfl⟩

/-- A picture, as a value. -/
abbrev picV (wd hg : Int) (a : Option Addr) (n cap : Nat) : Value := .agg #[.int .i64 wd, .int .i64 hg, .slice a n cap]
theorem any_eno {n m : Nat} (h : n = m) (h0 : m ≠ 0) : eno m = errv n := by subst h; exact (errv_pos h0).symm
theorem any_nil {n : Nat} (h : n = 0) : (.nilIface : Value) = errv n := (errv_zero h).symm
theorem pchk_any (wd hg : Int) (a : Option Addr) (n cap : Nat) (zs : List Int) (w : World) (h : IntsAt w a n cap zs) :
    Calls Tryd.prog 130 #[picV wd hg a n cap] w fun e w' => e = .returned (errv (chkPic wd hg zs)) ∧ Lat w w' := by
  obtain ⟨C, hC⟩ : ∃ C, C = chkPic wd hg zs := ⟨_, rfl⟩
  rw [← hC]
  have hl := h.len
  have HC := Lib.hid hC
  have HL := Lib.hid hl
  have H := Lib.hid (h.keep (Lat.alloc w (.cells #[.int .i64 wd, .int .i64 hg, .slice a n cap] 132)))
  clear hC h hl
  cases hs : sideB wd with
  | false =>
    have e1 : C = 1 := by rw [HC.out]; unfold chkPic; rw [if_pos (.inl hs)]
    rw [e1]
    clear e1
    go_enter Tryd.func130, Tryd.ntmps130
    go_wp2_with (go_at_call 91; refine (side_any _ _).mono ?_; rintro e w' ⟨rfl, rfl⟩)
    go_ret
    exact ⟨rfl, Lat.alloc _ _⟩
  | true =>
  cases hs2 : sideB hg with
  | false =>
    have e1 : C = 1 := by rw [HC.out]; unfold chkPic; rw [if_pos (.inr hs2)]
    rw [e1]
    clear e1
    go_enter Tryd.func130, Tryd.ntmps130
    go_wp2_with (go_at_call 91; refine (side_any _ _).mono ?_; rintro e w' ⟨rfl, rfl⟩)
    go_ret
    exact ⟨rfl, Lat.alloc _ _⟩
  | true =>
  have b1 : 1 ≤ wd ∧ wd ≤ 6 := by simpa [sideB] using hs
  have b2 : 1 ≤ hg ∧ hg ≤ 6 := by simpa [sideB] using hs2
  obtain ⟨m, hm⟩ : ∃ m, m = wd * hg := ⟨_, rfl⟩
  have m1 : wd * hg ≤ 36 := Int.mul_le_mul b1.2 b2.2 (by omega) (by omega)
  have m2 : 0 ≤ wd * hg := Int.mul_nonneg (by omega) (by omega)
  have hne : ¬ (sideB wd = false ∨ sideB hg = false) := by simp [hs, hs2]
  have HN := Lib.hid hne
  clear hne b1 b2 hm
  by_cases hl : (n : Int) = wd * hg
  case neg =>
    have e1 : C = 3 := by rw [HC.out]; unfold chkPic; rw [if_neg HN.out, if_pos (by rw [HL.out]; exact hl)]
    have d1 : ((n : Int) != wd * hg) = true := by rw [bne_iff_ne]; exact hl
    rw [e1]
    clear e1 hl
    go_enter Tryd.func130, Tryd.ntmps130
    go_wp2_with (go_at_call 91; refine (side_any _ _).mono ?_; rintro e w' ⟨rfl, rfl⟩)
    go_ret
    exact ⟨rfl, Lat.alloc _ _⟩
  have d1 : ((n : Int) != wd * hg) = false := by rw [bne_eq_false_iff_eq]; exact hl
  have e0 : C = if zs.any (fun z => !pixB z) = true then 1 else 0 := by rw [HC.out]; unfold chkPic; rw [if_neg HN.out, if_neg (by rw [HL.out]; exact fun h => h hl)]
  clear hl
  cases ha : zs.any (fun z => !pixB z) with
  | true =>
    have e1 : C = 1 := by rw [e0, if_pos ha]
    rw [e1]
    have HA := Lib.hid ha
    clear e1 e0 ha
    go_enter Tryd.func130, Tryd.ntmps130
    go_wp2_with (first | (go_at_call 91; refine (side_any _ _).mono ?_; rintro e w' ⟨rfl, rfl⟩) | (go_at_call 144; refine (containsFuncI _ (enters_of Tryd.func145 (by kernel_rfl) rfl) _ a n cap zs _ H.out (pixTest zs)).mono ?_; rw [HA.out]; rintro e w' ⟨rfl, rfl⟩))
    go_ret
    exact ⟨rfl, Lat.alloc _ _⟩
  | false =>
    have e1 : C = 0 := by rw [e0, if_neg (by rw [ha]; simp)]
    rw [e1]
    have HA := Lib.hid ha
    clear e1 e0 ha
    go_enter Tryd.func130, Tryd.ntmps130
    go_wp2_with (first | (go_at_call 91; refine (side_any _ _).mono ?_; rintro e w' ⟨rfl, rfl⟩) | (go_at_call 144; refine (containsFuncI _ (enters_of Tryd.func145 (by kernel_rfl) rfl) _ a n cap zs _ H.out (pixTest zs)).mono ?_; rw [HA.out]; rintro e w' ⟨rfl, rfl⟩))
    go_ret
    exact ⟨rfl, Lat.alloc _ _⟩
end Go.Proofs.YtooepflfofgnnaaDoor
