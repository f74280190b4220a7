/- solve.Ready: what is wrong with seeds. -/
import Derived.Test.YtbccpcpocbefgaaDoorFuncI
import Derived.Test.YtbccpcpocbefgaaDoorDegree
namespace Go.Proofs.YtbccpcpocbefgaaDoor
open Go.ChangeShapes Go.WideShapes Go.ChangeAt Go.RowKit

/-- no seed -/
def noSeed (z : Int) : Bool := !decide (1 ≤ z ∧ z ≤ 10000)
def rdyE (k : Int) (zs : List Int) : Nat := if 60 < zs.length then 4 else if k < 1 ∨ 16 < k then 1 else if zs.any noSeed = true then 1 else 0
theorem rdyE_zero {k : Int} {zs : List Int} (h : rdyE k zs = 0) : zs.length ≤ 60 ∧ 1 ≤ k ∧ k ≤ 16 ∧ ∀ z ∈ zs, 1 ≤ z ∧ z ≤ 10000 := by
  unfold rdyE at h
  by_cases h1 : 60 < zs.length
  · rw [if_pos h1] at h; cases h
  rw [if_neg h1] at h
  by_cases h2 : k < 1 ∨ 16 < k
  · rw [if_pos h2] at h; cases h
  rw [if_neg h2] at h
  by_cases h3 : zs.any noSeed = true
  · rw [if_pos h3] at h; cases h
  refine ⟨by omega, by omega, by omega, fun z hz => ?_⟩
  by_cases h4 : 1 ≤ z ∧ z ≤ 10000
  · exact h4
  · exact absurd (List.any_eq_true.2 ⟨z, hz, by unfold noSeed; rw [decide_eq_false h4]; rfl⟩) h3
theorem seedR_yes (z : Int) (w : World) (h1 : 1 ≤ z) (h2 : z ≤ 10000) :
    Calls Tryd.prog 46 #[.int .i64 z] w fun e w' => e = .returned (.bool true) ∧ w = w' := by
  have hd : decide (z ≤ 10000) = true := decide_eq_true h2
  go_enter Tryd.func46, Tryd.ntmps46
  go_wp2
  go_ret
  exact ⟨rfl, rfl⟩
theorem seedR_no (z : Int) (w : World) (h : z < 1 ∨ 10000 < z) :
    Calls Tryd.prog 46 #[.int .i64 z] w fun e w' => e = .returned (.bool false) ∧ w = w' := by
  rcases h with h | h
  · have hd : decide (1 ≤ z) = false := decide_eq_false (by omega)
    go_enter Tryd.func46, Tryd.ntmps46
    go_wp2
    go_ret
    exact ⟨rfl, rfl⟩
  · have hd : decide (1 ≤ z) = true := decide_eq_true (by omega)
    have hd2 : decide (z ≤ 10000) = false := decide_eq_false (by omega)
    go_enter Tryd.func46, Tryd.ntmps46
    go_wp2
    go_ret
    exact ⟨rfl, rfl⟩
theorem ready_clos (z : Int) (w : World) : Calls Tryd.prog 50 #[.int .i64 z] w fun e w' => e = .returned (.bool (noSeed z)) ∧ w = w' := by
  by_cases h : 1 ≤ z ∧ z ≤ 10000
  · have hn : noSeed z = false := by unfold noSeed; rw [decide_eq_true h]; rfl
    rw [hn]
    go_enter Tryd.func50, Tryd.ntmps50
    go_wp2_with (go_at_call 46; refine (seedR_yes z _ h.1 h.2).mono ?_; rintro e w' ⟨rfl, rfl⟩)
    go_ret
    exact ⟨rfl, rfl⟩
  · have hn : noSeed z = true := by unfold noSeed; rw [decide_eq_false h]; rfl
    rw [hn]
    have h2 : z < 1 ∨ 10000 < z := by omega
    clear h
    go_enter Tryd.func50, Tryd.ntmps50
    go_wp2_with (go_at_call 46; refine (seedR_no z _ h2).mono ?_; rintro e w' ⟨rfl, rfl⟩)
    go_ret
    exact ⟨rfl, rfl⟩
set_option maxRecDepth 100000 in
theorem ready_any (k : Int) (a : Option Addr) (n cap : Nat) (zs : List Int) (w : World) (h : IntsAt w a n cap zs) :
    Calls Tryd.prog 25 #[.int .i64 k, .slice a n cap] w fun e w' => e = .returned (errv (rdyE k zs)) ∧ w = w' := by
  have hl := h.len
  have hcm := h.row.cap
  have hle := h.row.le
  unfold maxLen at hcm
  have hE : rdyE k zs = if 60 < n then 4 else if k < 1 ∨ 16 < k then 1 else if zs.any noSeed = true then 1 else 0 := by unfold rdyE; rw [hl]
  have hcf := containsFuncI 50 (enters_of Tryd.func50 (by kernel_rfl) rfl) noSeed a n cap zs w h (fun z _ W => ready_clos z W)
  rw [hE]
  have HC := Lib.hid hcf
  clear h hl hE hcf
  by_cases h1 : 60 < n
  · rw [if_pos h1, errv_pos (by omega)]
    have d1 : decide ((60 : Int) < (n : Int)) = true := decide_eq_true (by omega)
    go_enter Tryd.func25, Tryd.ntmps25
    go_wp2
    go_ret
    exact ⟨rfl, rfl⟩
  rw [if_neg h1]
  have d1 : decide ((60 : Int) < (n : Int)) = false := decide_eq_false (by omega)
  by_cases h2 : k < 1 ∨ 16 < k
  · rw [if_pos h2, errv_pos (by omega)]
    go_enter Tryd.func25, Tryd.ntmps25
    go_wp2_with (go_at_call 39; refine (dblocks_no k _ h2).mono ?_; rintro e w' ⟨rfl, rfl⟩)
    go_ret
    exact ⟨rfl, rfl⟩
  rw [if_neg h2]
  have k1 : 1 ≤ k := by omega
  have k2 : k ≤ 16 := by omega
  clear h2
  obtain ⟨t, ht⟩ : ∃ t, t = zs.any noSeed := ⟨_, rfl⟩
  rw [← ht] at HC ⊢
  clear ht
  cases t with
  | true =>
    rw [if_pos rfl, errv_pos (by omega)]
    go_enter Tryd.func25, Tryd.ntmps25
    go_wp2_with (first
      | (go_at_call 39; refine (dblocks_yes k _ k1 k2).mono ?_; rintro e w' ⟨rfl, rfl⟩)
      | (go_at_call 49; refine HC.out.mono ?_; rintro e w' ⟨rfl, rfl⟩))
    go_ret
    exact ⟨rfl, rfl⟩
  | false =>
    rw [if_neg (by simp), errv_zero rfl]
    go_enter Tryd.func25, Tryd.ntmps25
    go_wp2_with (first
      | (go_at_call 39; refine (dblocks_yes k _ k1 k2).mono ?_; rintro e w' ⟨rfl, rfl⟩)
      | (go_at_call 49; refine HC.out.mono ?_; rintro e w' ⟨rfl, rfl⟩))
    go_ret
    exact ⟨rfl, rfl⟩
end Go.Proofs.YtbccpcpocbefgaaDoor
