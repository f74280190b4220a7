/- The contracts of package alone: Step, Rest, Near, Clamp, guess, Code, Rests, Round. -/
import Derived.Test.YtooepflfofgnnaaDoorUnlike
import Derived.Test.YtooepflfofgnnaaDoorAlonePlain
namespace Go.Proofs.YtooepflfofgnnaaDoor
open Go.ChangeShapes Go.WideShapes Go.ChangeAt Go.RowKit

def stepB (n : Int) : Bool := decide (1 ≤ n ∧ n ≤ 64)
def restB (n : Int) : Bool := decide (-255 ≤ n ∧ n ≤ 255)
theorem step_any (n : Int) (w : World) :
    Calls Tryd.prog 92 #[.int .i64 n] w fun e w' => e = .returned (.bool (stepB n)) ∧ w = w' := by
  go_enter Tryd.func92, Tryd.ntmps92
  go_wp2
  all_goals
    go_ret
    exact ⟨bool_ret (by simp [stepB] <;> omega), rfl⟩
theorem rest_any (n : Int) (w : World) :
    Calls Tryd.prog 137 #[.int .i64 n] w fun e w' => e = .returned (.bool (restB n)) ∧ w = w' := by
  go_enter Tryd.func137, Tryd.ntmps137
  go_wp2
  all_goals
    go_ret
    exact ⟨bool_ret (by simp [restB] <;> omega), rfl⟩
theorem clamp_any (n : Int) (w : World) :
    Calls Tryd.prog 133 #[.int .i64 n] w fun e w' => e = .returned (.int .i64 (clamp n)) ∧ w = w' := by
  go_enter Tryd.func133, Tryd.ntmps133
  go_wp2
  all_goals
    go_ret
    exact ⟨int_ret (by unfold clamp; omega), rfl⟩
theorem gss_zero (wd : Nat) (told : List Int) (h : told.length = 0) : gss told wd = 128 := by unfold gss; rw [if_pos h]
theorem gss_row (wd : Nat) (told : List Int) (h : told.length ≠ 0) (h2 : told.length % wd = 0) : gss told wd = told.getD (told.length - wd) 0 := by unfold gss; rw [if_neg h, if_pos h2]
theorem gss_else (wd : Nat) (told : List Int) (h : told.length ≠ 0) (h2 : told.length % wd ≠ 0) : gss told wd = told.getD (told.length - 1) 0 := by unfold gss; rw [if_neg h, if_neg h2]
theorem guess_any (a : Option Addr) (n cap : Nat) (L : List Int) (wd : Nat) (w : World) (h : IntsAt w a n cap L) (hw : 1 ≤ wd) (hw6 : wd ≤ 6) :
    Calls Tryd.prog 134 #[.slice a n cap, .int .i64 wd] w fun e w' => e = .returned (.int .i64 (gss L wd)) ∧ w = w' := by
  have hl := h.len
  have hcap := h.row.cap
  have hle := h.row.le
  unfold maxLen at hcap
  obtain ⟨V, hV⟩ : ∃ V, V = gss L wd := ⟨_, rfl⟩
  rw [← hV]
  have HV := Lib.hid hV
  have HL := Lib.hid hl
  have H := Lib.hid h
  clear hV hl h
  have hz : ((wd : Int) == 0) = false := by rw [beq_eq_false_iff_ne]; omega
  by_cases h0 : n = 0
  · have d0 : ((n : Int) == 0) = true := by rw [beq_iff_eq]; omega
    have e1 : V = 128 := by rw [HV.out, gss_zero wd L (by rw [HL.out]; exact h0)]
    rw [e1]
    clear e1 h0
    go_enter Tryd.func134, Tryd.ntmps134
    go_wp2
    go_ret
    exact ⟨rfl, rfl⟩
  have d0 : ((n : Int) == 0) = false := by rw [beq_eq_false_iff_ne]; omega
  obtain ⟨b, o, rfl, hc⟩ := H.out.row.at_ h0
  obtain ⟨r, hr⟩ : ∃ r, r = n % wd := ⟨_, rfl⟩
  have er : (n : Int) % (wd : Int) = (r : Int) := by rw [hr]; simp
  by_cases h1 : n % wd = 0
  · have hge : wd ≤ n := by
      rcases Nat.lt_or_ge n wd with h | h
      · rw [Nat.mod_eq_of_lt h] at h1; omega
      · exact h
    have d1 : ((r : Int) == 0) = true := by rw [beq_iff_eq]; omega
    have c1 := hc (n - wd) (by omega)
    have e1 : V = L.getD (n - wd) 0 := by rw [HV.out, gss_row wd L (by rw [HL.out]; exact h0) (by rw [HL.out]; exact h1), HL.out]
    rw [← e1] at c1
    have e2 : (n : Int) - (wd : Int) = ((n - wd : Nat) : Int) := by omega
    have i1 : ((n - wd : Nat) : Int) < (n : Int) := by omega
    have i3 : n - wd < n := by omega
    have i2 : (0 : Int) ≤ ((n - wd : Nat) : Int) := by omega
    obtain ⟨q, hq⟩ : ∃ q, q = n - wd := ⟨_, rfl⟩
    rw [← hq] at c1 e2 i1 i2 i3
    clear hc e1 h1 hq hr
    go_enter Tryd.func134, Tryd.ntmps134
    go_wp2
    go_ret
    exact ⟨rfl, rfl⟩
  · have d1 : ((r : Int) == 0) = false := by rw [beq_eq_false_iff_ne]; omega
    have c1 := hc (n - 1) (by omega)
    have e1 : V = L.getD (n - 1) 0 := by rw [HV.out, gss_else wd L (by rw [HL.out]; exact h0) (by rw [HL.out]; exact h1), HL.out]
    rw [← e1] at c1
    have e2 : (n : Int) - 1 = ((n - 1 : Nat) : Int) := by omega
    have i1 : ((n - 1 : Nat) : Int) < (n : Int) := by omega
    have i3 : n - 1 < n := by omega
    have i2 : (0 : Int) ≤ ((n - 1 : Nat) : Int) := by omega
    obtain ⟨q, hq⟩ : ∃ q, q = n - 1 := ⟨_, rfl⟩
    rw [← hq] at c1 e2 i1 i2 i3
    clear hc e1 h1 hq hr
    go_enter Tryd.func134, Tryd.ntmps134
    go_wp2
    go_ret
    exact ⟨rfl, rfl⟩

theorem mul_bd (r s : Int) (h1 : -255 ≤ r) (h2 : r ≤ 255) (h3 : 1 ≤ s) (h4 : s ≤ 64) : -16320 ≤ r * s ∧ r * s ≤ 16320 := by
  have a1 : r * s ≤ 255 * s := Int.mul_le_mul_of_nonneg_right h2 (by omega)
  have a2 : (-255) * s ≤ r * s := Int.mul_le_mul_of_nonneg_right h1 (by omega)
  omega
theorem restTest (zs : List Int) : TestI 147 (fun z => !restB z) zs := by
  intro z _ w
  go_enter Tryd.func147, Tryd.ntmps147
  go_wp2_with (go_at_call 137; refine (rest_any z _).mono ?_; rintro e w' ⟨rfl, rfl⟩)
  go_ret
  exact ⟨rfl, rfl⟩
/-- what is wrong with rests -/
def rstE (l : List Int) (many : Int) : Nat := if (l.length : Int) ≠ many then 3 else if l.any (fun z => !restB z) = true then 1 else 0
theorem rstE_zero {l : List Int} {many : Int} (h : rstE l many = 0) : (l.length : Int) = many ∧ ∀ z ∈ l, -255 ≤ z ∧ z ≤ 255 := by
  unfold rstE at h
  repeat' split at h
  all_goals first | omega | skip
  rename_i h1 h2
  refine ⟨by omega, fun z hz => ?_⟩
  have h4 : restB z = true := by
    cases hq : restB z
    · exact absurd (List.any_eq_true.2 ⟨z, hz, by rw [hq]; rfl⟩) h2
    · rfl
  simpa [restB] using h4
theorem rstE_of {l : List Int} {many : Int} (h : (l.length : Int) = many) (h2 : ∀ z ∈ l, -255 ≤ z ∧ z ≤ 255) : rstE l many = 0 := by
  unfold rstE
  rw [if_neg (by omega), if_neg]
  intro hc
  obtain ⟨z, hz, hq⟩ := List.any_eq_true.1 hc
  have : restB z = true := decide_eq_true (h2 z hz)
  rw [this] at hq; cases hq
theorem rests_any (a : Option Addr) (n cap : Nat) (L : List Int) (many : Int) (w : World) (h : IntsAt w a n cap L) :
    Calls Tryd.prog 131 #[.slice a n cap, .int .i64 many] w fun e w' => e = .returned (errv (rstE L many)) ∧ w = w' := by
  have hl := h.len
  have H := Lib.hid h
  obtain ⟨C, hC⟩ : ∃ C, C = rstE L many := ⟨_, rfl⟩
  rw [← hC]
  have HC := Lib.hid hC
  have HL := Lib.hid hl
  clear h hC hl
  by_cases hm : (n : Int) = many
  case neg =>
    have d1 : ((n : Int) != many) = true := by rw [bne_iff_ne]; exact hm
    have e1 : C = 3 := by rw [HC.out]; unfold rstE; rw [if_pos (by rw [HL.out]; exact hm)]
    rw [e1]
    clear e1 hm
    go_enter Tryd.func131, Tryd.ntmps131
    go_wp2
    go_ret
    exact ⟨rfl, rfl⟩
  have d1 : ((n : Int) != many) = false := by rw [bne_eq_false_iff_eq]; exact hm
  have e0 : C = if L.any (fun z => !restB z) = true then 1 else 0 := by rw [HC.out]; unfold rstE; rw [if_neg (by rw [HL.out]; exact fun h => h hm)]
  clear hm
  cases ha : L.any (fun z => !restB z) with
  | true =>
    have e1 : C = 1 := by rw [e0, if_pos ha]
    rw [e1]
    have HA := Lib.hid ha
    clear e1 e0 ha
    go_enter Tryd.func131, Tryd.ntmps131
    go_wp2_with (go_at_call 144; refine (containsFuncI _ (enters_of Tryd.func147 (by kernel_rfl) rfl) _ a n cap L _ H.out (restTest L)).mono ?_; rw [HA.out]; rintro e w' ⟨rfl, rfl⟩)
    go_ret
    exact ⟨rfl, rfl⟩
  | false =>
    have e1 : C = 0 := by rw [e0, if_neg (by rw [ha]; simp)]
    rw [e1]
    have HA := Lib.hid ha
    clear e1 e0 ha
    go_enter Tryd.func131, Tryd.ntmps131
    go_wp2_with (go_at_call 144; refine (containsFuncI _ (enters_of Tryd.func147 (by kernel_rfl) rfl) _ a n cap L _ H.out (restTest L)).mono ?_; rw [HA.out]; rintro e w' ⟨rfl, rfl⟩)
    go_ret
    exact ⟨rfl, rfl⟩

def rndE (n s : Int) : Nat := if stepB s = false ∨ restB n = false then 1 else 0
theorem rndE_zero {n s : Int} (h : rndE n s = 0) : 1 ≤ s ∧ s ≤ 64 ∧ -255 ≤ n ∧ n ≤ 255 := by
  unfold rndE at h
  split at h
  · omega
  · rename_i h1
    have a1 : stepB s = true := by cases hq : stepB s <;> simp_all
    have a2 : restB n = true := by cases hq : restB n <;> simp_all
    simp only [stepB, restB, decide_eq_true_eq] at a1 a2
    omega
end Go.Proofs.YtooepflfofgnnaaDoor
