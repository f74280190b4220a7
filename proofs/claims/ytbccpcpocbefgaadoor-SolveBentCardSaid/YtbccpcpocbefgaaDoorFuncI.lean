/- slices.IndexFunc, slices.ContainsFunc at ints, for a test that captures nothing. -/
import Derived.Test.YtbccpcpocbefgaaDoorOwnC
import Derived.Shelf.Abstract
namespace Go.Proofs.YtbccpcpocbefgaaDoor
open Go.ChangeShapes Go.WideShapes Go.ChangeAt Go.RowKit

theorem mem_getD (zs : List Int) (k : Nat) (h : k < zs.length) : zs.getD k 0 ∈ zs := by
  rw [List.getD_eq_getElem?_getD, List.getElem?_eq_getElem h]; exact List.getElem_mem h
/-- The function F answers p of each of zs. -/
def TestI (F : Nat) (p : Int → Bool) (zs : List Int) : Prop := ∀ z ∈ zs, ∀ w : World, Calls Tryd.prog F #[.int .i64 z] w fun e w' => e = .returned (.bool (p z)) ∧ w = w'
/-- An index from 0 on just if one of them answers yes. -/
def IdxI (p : Int → Bool) (zs : List Int) (w : World) (e : Ending) (w' : World) : Prop := ∃ r : Int, e = .returned (.int .i64 r) ∧ decide (0 ≤ r) = zs.any p ∧ w = w'

set_option maxHeartbeats 400000 in
theorem indexFuncI (F : Nat) (eF : ∀ args w, (callFunc F args).run Tryd.prog w = .ok (.enter F args) w) (p : Int → Bool) (a : Option Addr) (n cap : Nat) (zs : List Int) (w : World) (h : IntsAt w a n cap zs) (hF : TestI F p zs) :
    Calls Tryd.prog 66 #[.slice a n cap, .func (.func F) #[] #[]] w (IdxI p zs w) := by
  have hcap2 := h.row.cap
  have hle2 := h.row.le
  unfold maxLen at hcap2
  have H := Lib.hid h
  have HF := Lib.hid hF
  clear h hF
  go_enter Tryd.func66, Tryd.ntmps66
  go_wp2
  go_loop [8] (fun i => ∃ k : Nat, k ≤ n ∧ i = .int .i64 k ∧ Hid (∀ j, j < k → p (zs.getD j 0) = false)) (fun i => n - (intOf i).toNat)
  case atStart => exact ⟨0, Nat.zero_le _, rfl, fun j hj => absurd hj (Nat.not_lt_zero _)⟩
  case round =>
    obtain ⟨k, hk, rfl, hrel⟩ := hrel
    by_cases hlt : k < n
    · obtain ⟨b, o, rfl, hc⟩ := H.out.row.at_ (by omega)
      have c1 := hc k hlt
      have hm := mem_getD zs k (by rw [H.out.len]; exact hlt)
      have hcall := HF.out _ hm
      obtain ⟨z, hz⟩ : ∃ z, z = zs.getD k 0 := ⟨_, rfl⟩
      rw [← hz] at c1 hm hcall
      have HZ := Lib.hid hz
      have HM := Lib.hid hm
      clear hc hz hm
      cases hq : p z with
      | true =>
        have HQ := Lib.hid hq
        simp only [hq] at hcall
        clear hq
        go_wp2_with (go_at_fn F; refine (hcall _).mono ?_; rintro e w' ⟨rfl, rfl⟩)
        go_ret
        exact ⟨k, rfl, by rw [List.any_eq_true.2 ⟨z, HM.out, HQ.out⟩]; exact decide_eq_true (by omega), rfl⟩
      | false =>
        have HQ := Lib.hid hq
        simp only [hq] at hcall
        clear hq
        go_wp2_with (go_at_fn F; refine (hcall _).mono ?_; rintro e w' ⟨rfl, rfl⟩)
        go_round
        case rel => exact ⟨k + 1, by omega, by go_num, fun j hj => by
          by_cases e : j = k
          · subst e; rw [← HZ.out]; exact HQ.out
          · exact hrel.out j (by omega)⟩
        case measure => simp [intOf]; omega
    · obtain rfl : k = n := by omega
      go_wp2
      go_ret
      refine ⟨-1, rfl, ?_, rfl⟩
      have : zs.any p = false := by
        rw [List.any_eq_false]
        intro x hx
        obtain ⟨j, hj, e⟩ := List.getElem_of_mem hx
        have := hrel.out j (by rw [← H.out.len]; exact hj)
        rw [List.getD_eq_getElem?_getD, List.getElem?_eq_getElem hj, Option.getD_some, e] at this
        rw [this]; simp
      rw [this]; rfl
theorem containsFuncI (F : Nat) (eF : ∀ args w, (callFunc F args).run Tryd.prog w = .ok (.enter F args) w) (p : Int → Bool) (a : Option Addr) (n cap : Nat) (zs : List Int) (w : World) (h : IntsAt w a n cap zs) (hF : TestI F p zs) :
    Calls Tryd.prog 49 #[.slice a n cap, .func (.func F) #[] #[]] w fun e w' => e = .returned (.bool (zs.any p)) ∧ w = w' := by
  have H := Lib.hid h
  have HF := Lib.hid hF
  clear h hF
  obtain ⟨Y, hY⟩ : ∃ Y, Y = zs.any p := ⟨_, rfl⟩
  rw [← hY]
  have HY := Lib.hid hY
  clear hY
  go_enter Tryd.func49, Tryd.ntmps49
  go_wp2_with fail
  refine (indexFuncI F eF p a n cap zs _ H.out HF.out).mono ?_
  rintro e w' ⟨r, rfl, hr, rfl⟩
  rw [← HY.out] at hr
  have HR := Lib.hid hr
  clear hr
  go_wp2
  go_ret
  exact ⟨congrArg (fun b => Ending.returned (.bool b)) HR.out, rfl⟩
end Go.Proofs.YtbccpcpocbefgaaDoor
