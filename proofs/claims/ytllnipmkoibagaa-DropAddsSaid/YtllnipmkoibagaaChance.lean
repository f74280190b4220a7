/- The contracts of package chance. -/
import Derived.Test.YtllnipmkoibagaaOwn
namespace Go.Proofs.Ytllnipmkoibagaa
open Go.ChangeShapes Go.WideShapes Go.ChangeAt Go.RowKit

/-- the next number -/
def nxt (n : Int) : Int := n * 16807 % 2147483647
theorem nxt_bd (n : Int) : 0 ≤ nxt n ∧ nxt n < 2147483647 := by unfold nxt; omega
theorem nxt_eq (n : Int) : n * 16807 % 2147483647 = nxt n := rfl
/-- the number k behind n -/
def itn (n : Int) : Nat → Int
  | 0 => n
  | k + 1 => nxt (itn n k)
def rowL (n : Int) (k : Nat) : List Int := (List.range k).map fun i => itn n (i + 1)
theorem rowL_succ (n : Int) (k : Nat) : rowL n (k + 1) = rowL n k ++ [nxt (itn n k)] := by
  unfold rowL; rw [List.range_succ, List.map_append]; rfl

theorem go_any (n : Int) (w : World) (h0 : 0 ≤ n) (h1 : n ≤ 2147483647) :
    Calls Try.prog 36 #[.int .i64 n] w fun e w' => e = .returned (.int .i64 (nxt n)) ∧ w = w' := by
  go_enter Try.func36, Try.ntmps36
  go_wp2
  go_ret
  exact ⟨rfl, rfl⟩

theorem right_yes (n : Int) (w : World) (h0 : 1 ≤ n) (h1 : n ≤ 2147483646) :
    Calls Try.prog 35 #[.int .i64 n] w fun e w' => e = .returned (.bool true) ∧ w = w' := by
  have hd : decide (n < 2147483647) = true := by simp; omega
  go_enter Try.func35, Try.ntmps35
  go_wp2
  go_ret
  exact ⟨rfl, rfl⟩
theorem right_no (n : Int) (w : World) (h : n < 1 ∨ 2147483646 < n) :
    Calls Try.prog 35 #[.int .i64 n] w fun e w' => e = .returned (.bool false) ∧ w = w' := by
  by_cases h0 : 1 ≤ n
  · have h1 : ¬ n < 2147483647 := by omega
    have hd : decide (n < 2147483647) = false := by simp; omega
    clear h
    go_enter Try.func35, Try.ntmps35
    go_wp2
    go_ret
    exact ⟨rfl, rfl⟩
  · clear h
    go_enter Try.func35, Try.ntmps35
    go_wp2
    go_ret
    exact ⟨rfl, rfl⟩

theorem next_ok (n : Int) (w : World) (h0 : 1 ≤ n) (h1 : n ≤ 2147483646) :
    Calls Try.prog 17 #[.int .i64 n] w fun e w' => e = .returned (.tuple #[.int .i64 (nxt n), .nilIface]) ∧ w = w' := by
  go_enter Try.func17, Try.ntmps17
  go_wp2_with (first | (go_at_call 35; refine (right_yes n _ h0 h1).mono ?_; rintro e w' ⟨rfl, rfl⟩) | (go_at_call 36; refine (go_any n _ (by omega) (by omega)).mono ?_; rintro e w' ⟨rfl, rfl⟩))
  go_ret2
  exact ⟨rfl, rfl⟩
theorem next_bad (n : Int) (w : World) (h : n < 1 ∨ 2147483646 < n) :
    Calls Try.prog 17 #[.int .i64 n] w fun e w' => e = .returned (.tuple #[.int .i64 0, eno 1]) ∧ w = w' := by
  go_enter Try.func17, Try.ntmps17
  go_wp2_with (go_at_call 35; refine (right_no n _ h).mono ?_; rintro e w' ⟨rfl, rfl⟩)
  go_ret2
  exact ⟨rfl, rfl⟩

theorem itn_bd (n : Int) (k : Nat) (h0 : 1 ≤ n) (h1 : n ≤ 2147483646) : 0 ≤ itn n k ∧ itn n k ≤ 2147483646 := by
  cases k with
  | zero => exact ⟨by unfold itn; omega, by unfold itn; omega⟩
  | succ k => have := nxt_bd (itn n k); exact ⟨this.1, by unfold itn; omega⟩
theorem rowL_length (n : Int) (k : Nat) : (rowL n k).length = k := by simp [rowL]
theorem rowL_wf (n : Int) (k : Nat) : ∀ z ∈ rowL n k, -9223372036854775808 ≤ z ∧ z ≤ 9223372036854775807 := by
  intro z hz
  unfold rowL at hz
  obtain ⟨i, _, rfl⟩ := List.mem_map.1 hz
  have := nxt_bd (itn n i)
  show _ ≤ nxt (itn n i) ∧ nxt (itn n i) ≤ _
  omega

set_option maxHeartbeats 400000 in
theorem row_ok (n : Int) (many : Nat) (w : World) (h0 : 1 ≤ n) (h1 : n ≤ 2147483646) (hm : many ≤ 60) :
    Calls Try.prog 18 #[.int .i64 n, .int .i64 many] w fun e w' => ∃ a cap, e = .returned (.tuple #[.slice a many cap, .nilIface]) ∧ IntsAt w' a many cap (rowL n many) ∧ Lat w w' := by
  go_enter Try.func18, Try.ntmps18
  go_wp2_with (go_at_call 35; refine (right_yes n _ h0 h1).mono ?_; rintro e w' ⟨rfl, rfl⟩)
  go_loopw [0, 6, 20] (fun s v i wr => ∃ k : Nat, k ≤ many ∧ i = .int .i64 k ∧ s = .int .i64 (itn n k) ∧ OwnInts wr w.heap.size v (rowL n k) ∧ Lat w wr) (fun _ _ i _ => many - (intOf i).toNat)
  case atStart => exact ⟨0, Nat.zero_le _, rfl, rfl, Own.nil _ _ _, Lat.refl _⟩
  case round =>
    obtain ⟨k, hk, rfl, rfl, hown, hb⟩ := hrel
    have hl := rowL_length n k
    have hbd := itn_bd n k h0 h1
    by_cases hlt : k < many
    · have hlen : (rowL n k).length < 1000000000000 := by omega
      clear hl
      go_wp2_with (first | (go_at_call 36; refine (go_any _ _ hbd.1 (by omega)).mono ?_; rintro e w' ⟨rfl, rfl⟩) | (at_builtin; refine app_int wr w _ rfl _ _ rfl _ _ _ rfl hown rfl hlen rfl hb ?_; intro v' w1 hown' hb' _))
      go_roundw
      case rel => exact ⟨k + 1, by omega, by go_num, rfl, by rw [rowL_succ]; exact hown', hb'⟩
      case measure => simp [intOf]; omega
    · obtain rfl : k = many := by omega
      have hs : ∃ a cap, u6 = .slice a k cap ∧ IntsAt wr a k cap (rowL n k) := by have := OwnInts.slice hown (rowL_wf n k); rwa [rowL_length] at this
      clear hl
      obtain ⟨a, cap, rfl, hat⟩ := hs
      go_wp2
      go_ret2
      exact ⟨a, cap, rfl, hat, hb⟩
theorem row_bad (n many : Int) (w : World) (h : n < 1 ∨ 2147483646 < n ∨ many < 0 ∨ 60 < many) :
    Calls Try.prog 18 #[.int .i64 n, .int .i64 many] w fun e w' => e = .returned (.tuple #[.slice none 0 0, eno 1]) ∧ w = w' := by
  by_cases h1 : n < 1 ∨ 2147483646 < n
  · clear h
    go_enter Try.func18, Try.ntmps18
    go_wp2_with (go_at_call 35; refine (right_no n _ h1).mono ?_; rintro e w' ⟨rfl, rfl⟩)
    go_ret2
    exact ⟨rfl, rfl⟩
  · have h2 : 1 ≤ n := by omega
    have h3 : n ≤ 2147483646 := by omega
    by_cases h4 : many < 0
    · have hd : decide (many < 0) = true := by simp; omega
      clear h h1
      go_enter Try.func18, Try.ntmps18
      go_wp2_with (go_at_call 35; refine (right_yes n _ h2 h3).mono ?_; rintro e w' ⟨rfl, rfl⟩)
      go_ret2
      exact ⟨rfl, rfl⟩
    · have h5 : 60 < many := by omega
      have hd : decide (many < 0) = false := by simp; omega
      have hd2 : decide (60 < many) = true := by simp; omega
      clear h h1
      go_enter Try.func18, Try.ntmps18
      go_wp2_with (go_at_call 35; refine (right_yes n _ h2 h3).mono ?_; rintro e w' ⟨rfl, rfl⟩)
      go_ret2
      exact ⟨rfl, rfl⟩

theorem below_ok (n b : Int) (w : World) (h0 : 1 ≤ n) (h1 : n ≤ 2147483646) (h2 : 1 ≤ b) (h3 : b ≤ 1000) :
    Calls Try.prog 21 #[.int .i64 n, .int .i64 b] w fun e w' => e = .returned (.tuple #[.int .i64 (nxt n % b), .int .i64 (nxt n), .nilIface]) ∧ w = w' := by
  have hb := nxt_bd n
  have hd : decide (b < 1) = false := by simp; omega
  have hd2 : decide (1000 < b) = false := by simp; omega
  go_enter Try.func21, Try.ntmps21
  go_wp2_with (first | (go_at_call 35; refine (right_yes n _ h0 h1).mono ?_; rintro e w' ⟨rfl, rfl⟩) | (go_at_call 36; refine (go_any n _ (by omega) (by omega)).mono ?_; rintro e w' ⟨rfl, rfl⟩))
  go_ret3
  exact ⟨rfl, rfl⟩
theorem below_bad (n b : Int) (w : World) (h : n < 1 ∨ 2147483646 < n ∨ b < 1 ∨ 1000 < b) :
    Calls Try.prog 21 #[.int .i64 n, .int .i64 b] w fun e w' => e = .returned (.tuple #[.int .i64 0, .int .i64 0, eno 1]) ∧ w = w' := by
  by_cases h1 : n < 1 ∨ 2147483646 < n
  · clear h
    go_enter Try.func21, Try.ntmps21
    go_wp2_with (go_at_call 35; refine (right_no n _ h1).mono ?_; rintro e w' ⟨rfl, rfl⟩)
    go_ret3
    exact ⟨rfl, rfl⟩
  · have h2 : 1 ≤ n := by omega
    have h3 : n ≤ 2147483646 := by omega
    by_cases h4 : b < 1
    · have hd : decide (b < 1) = true := by simp; omega
      clear h h1
      go_enter Try.func21, Try.ntmps21
      go_wp2_with (go_at_call 35; refine (right_yes n _ h2 h3).mono ?_; rintro e w' ⟨rfl, rfl⟩)
      go_ret3
      exact ⟨rfl, rfl⟩
    · have h5 : 1000 < b := by omega
      have hd : decide (b < 1) = false := by simp; omega
      have hd2 : decide (1000 < b) = true := by simp; omega
      clear h h1
      go_enter Try.func21, Try.ntmps21
      go_wp2_with (go_at_call 35; refine (right_yes n _ h2 h3).mono ?_; rintro e w' ⟨rfl, rfl⟩)
      go_ret3
      exact ⟨rfl, rfl⟩
end Go.Proofs.Ytllnipmkoibagaa
