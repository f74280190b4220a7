/- The walk of ChanceMany: it returns true, whatever the numbers. -/
import Derived.Test.YtllnipmkoibagaaChanceBackW
namespace Go.Proofs.Ytllnipmkoibagaa
open Go.ChangeShapes Go.WideShapes Go.ChangeAt Go.RowKit

theorem itn_pos (n : Int) (k : Nat) (h0 : 1 ≤ n) (h1 : n ≤ 2147483646) : 1 ≤ itn n k ∧ itn n k ≤ 2147483646 := by
  induction k with
  | zero => exact ⟨h0, h1⟩
  | succ k ih => have := nxt_bd (itn n k); exact ⟨nxt_pos _ ih.1 ih.2, by unfold itn; omega⟩

set_option maxHeartbeats 1000000 in
set_option maxRecDepth 100000 in
theorem walk_chanceMany (n many : Int) (w : World) (_ : (Lit.int .i64 n).wf = true) (_ : (Lit.int .i64 many).wf = true) :
    Calls Try.prog 7 #[.int .i64 n, .int .i64 many] w fun e w' => e = .returned (.bool true) ∧ Lat w w' := by

  go_enter Try.func7, Try.ntmps7
  go_wp2_with fail
  by_cases hn : n < 1 ∨ 2147483646 < n ∨ many < 0 ∨ 60 < many
  · refine (row_bad n many _ hn).mono ?_
    rintro e w1 ⟨rfl, rfl⟩
    have hd : (decide (n < 1) = true) ∨ (decide (n < 1) = false ∧ decide (2147483646 < n) = true) ∨ (decide (n < 1) = false ∧ decide (2147483646 < n) = false ∧ decide (many < 0) = true) ∨
        (decide (n < 1) = false ∧ decide (2147483646 < n) = false ∧ decide (many < 0) = false ∧ decide (60 < many) = true) := by simp; omega
    clear hn
    rcases hd with h1 | ⟨h1, h2⟩ | ⟨h1, h2, h3⟩ | ⟨h1, h2, h3, h4⟩
    all_goals
      go_wp2
      go_ret
      exact ⟨rfl, Lat.refl _⟩
  have h0 : 1 ≤ n := by omega
  have h1 : n ≤ 2147483646 := by omega
  obtain ⟨m, rfl⟩ := Int.eq_ofNat_of_zero_le (show 0 ≤ many by omega)
  have hm : m ≤ 60 := by omega
  clear hn
  refine (row_ok n m _ h0 h1 hm).mono ?_
  rintro e w1 ⟨a1, cap1, rfl, hat1, hb1⟩
  go_wp2
  go_loopw [7] (fun i wr => ∃ k : Nat, k ≤ m ∧ i = .int .i64 k ∧ Hid (Lat w wr ∧ IntsAt wr a1 m cap1 (rowL n m))) (fun i _ => m - (intOf i).toNat)
  case atStart => exact ⟨0, Nat.zero_le _, rfl, hb1, hat1⟩
  case round =>
    obtain ⟨k, hk, rfl, hrel⟩ := hrel
    by_cases hlt : k < m
    · obtain ⟨b1, o1, rfl, hc1⟩ := hrel.out.2.row.at_ (by omega)
      have c1 := hc1 k hlt
      rw [rowL_get _ _ _ hlt] at c1
      have c1' : wr.cell? ⟨b1, o1 + k, none⟩ = some (.int .i64 (nxt (itn n k))) := c1
      clear c1
      have hbd := itn_pos n k h0 h1
      by_cases hk0 : k = 0
      · subst hk0
        rw [Nat.add_zero] at c1'
        have c1'' : wr.cell? ⟨b1, o1, none⟩ = some (.int .i64 (nxt n)) := c1'
        clear hc1 c1'
        have hd0 : decide (0 < 0) = false := by simp
        have hnn := nxt_bd n
        go_wp2_with fail
        refine (next_ok n _ h0 h1).mono ?_
        rintro e w2 ⟨rfl, rfl⟩
        go_wp2_with fail
        refine (below_ok n 10 _ h0 h1 (by omega) (by omega)).mono ?_
        rintro e w2 ⟨rfl, rfl⟩
        go_wp2
        go_roundw
        case rel => exact ⟨1, by omega, by go_num, hrel.out⟩
        case measure => simp [intOf]; omega
      · obtain ⟨j, rfl⟩ : ∃ j, k = j + 1 := ⟨k - 1, by omega⟩
        have c2 := hc1 j (by omega)
        rw [rowL_get _ _ _ (by omega)] at c2
        clear hc1
        have hd0 : decide (0 < j + 1) = true := by simp
        have hnn := nxt_bd (itn n (j + 1))
        go_wp2_with fail
        refine (next_ok (itn n (j + 1)) _ hbd.1 hbd.2).mono ?_
        rintro e w2 ⟨rfl, rfl⟩
        go_wp2_with fail
        refine (below_ok (itn n (j + 1)) 10 _ hbd.1 hbd.2 (by omega) (by omega)).mono ?_
        rintro e w2 ⟨rfl, rfl⟩
        go_wp2
        go_roundw
        case rel => exact ⟨j + 1 + 1, by omega, by go_num, hrel.out⟩
        case measure => simp [intOf]; omega
    · go_wp2
      go_ret
      exact ⟨rfl, hrel.out.1⟩
end Go.Proofs.Ytllnipmkoibagaa
