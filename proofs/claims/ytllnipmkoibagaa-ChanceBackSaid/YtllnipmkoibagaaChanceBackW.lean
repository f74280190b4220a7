/- The walk of ChanceBack: it returns true, whatever the numbers. -/
import Derived.Test.YtllnipmkoibagaaChance
namespace Go.Proofs.Ytllnipmkoibagaa
open Go.ChangeShapes Go.WideShapes Go.ChangeAt Go.RowKit

theorem nxt_back (n : Int) (h0 : 1 ≤ n) (h1 : n ≤ 2147483646) : nxt n * 1407677000 % 2147483647 = n := by
  unfold nxt; omega
theorem nxt_pos (n : Int) (h0 : 1 ≤ n) (h1 : n ≤ 2147483646) : 1 ≤ nxt n := by
  have h := nxt_back n h0 h1
  have hb := nxt_bd n
  rcases Int.lt_or_le (nxt n) 1 with hlt | hle
  · have h00 : nxt n = 0 := by omega
    rw [h00] at h
    omega
  · exact hle

theorem nxt_fact1 (w : World) : Calls Try.prog 17 #[.int .i64 1] w fun e w' => e = .returned (.tuple #[.int .i64 16807, .nilIface]) ∧ w = w' :=
  next_ok 1 w (by omega) (by omega)
theorem nxt_fact2 (w : World) : Calls Try.prog 17 #[.int .i64 16807] w fun e w' => e = .returned (.tuple #[.int .i64 282475249, .nilIface]) ∧ w = w' :=
  next_ok 16807 w (by omega) (by omega)

theorem rowL_get (n : Int) (m k : Nat) (h : k < m) : (rowL n m).getD k 0 = itn n (k + 1) := by simp [rowL, List.getD, h]

set_option maxHeartbeats 1000000 in
set_option maxRecDepth 100000 in
theorem walk_chanceBack (n many more : Int) (w : World) (_ : (Lit.int .i64 n).wf = true) (_ : (Lit.int .i64 many).wf = true) (_ : (Lit.int .i64 more).wf = true) :
    Calls Try.prog 4 #[.int .i64 n, .int .i64 many, .int .i64 more] w fun e w' => e = .returned (.bool true) ∧ Lat w w' := by

  go_enter Try.func4, Try.ntmps4
  go_wp2_with fail
  refine (nxt_fact1 _).mono ?_
  rintro e w1 ⟨rfl, rfl⟩
  go_wp2_with fail
  refine (nxt_fact2 _).mono ?_
  rintro e w1 ⟨rfl, rfl⟩
  go_wp2_with fail
  by_cases hn : n < 1 ∨ 2147483646 < n
  · refine (next_bad n _ hn).mono ?_
    rintro e w1 ⟨rfl, rfl⟩
    by_cases h1 : n < 1
    · have hd : decide (n < 1) = true := by simp; omega
      clear hn
      go_wp2
      go_ret
      exact ⟨rfl, Lat.refl _⟩
    · have h2 : 2147483646 < n := by omega
      have hd : decide (n < 1) = false := by simp; omega
      have hd2 : decide (2147483646 < n) = true := by simp; omega
      clear hn
      go_wp2
      go_ret
      exact ⟨rfl, Lat.refl _⟩
  have h0 : 1 ≤ n := by omega
  have h1 : n ≤ 2147483646 := by omega
  clear hn
  have hbd := nxt_bd n
  have hpos := nxt_pos n h0 h1
  have hk1 : decide (nxt n < 1) = false := by simp; omega
  have hk2 : decide (2147483646 < nxt n) = false := by simp; omega
  have hk3 : (nxt n * 1407677000 % 2147483647 != n) = false := by rw [nxt_back n h0 h1]; simp
  refine (next_ok n _ h0 h1).mono ?_
  rintro e w1 ⟨rfl, rfl⟩
  go_wp2_with fail
  by_cases hm : many < 0 ∨ 60 < many
  · refine (row_bad n many _ (by omega)).mono ?_
    rintro e w1 ⟨rfl, rfl⟩
    go_wp2_with fail
    by_cases hr : more < 0 ∨ 60 < more
    · refine (row_bad n more _ (by omega)).mono ?_
      rintro e w1 ⟨rfl, rfl⟩
      go_wp2
      go_ret
      exact ⟨rfl, Lat.refl _⟩
    · obtain ⟨r, rfl⟩ := Int.eq_ofNat_of_zero_le (show 0 ≤ more by omega)
      refine (row_ok n r _ h0 h1 (by omega)).mono ?_
      rintro e w1 ⟨a2, cap2, rfl, hat2, hb2⟩
      go_wp2
      go_ret
      exact ⟨rfl, hb2⟩
  obtain ⟨m, rfl⟩ := Int.eq_ofNat_of_zero_le (show 0 ≤ many by omega)
  refine (row_ok n m _ h0 h1 (by omega)).mono ?_
  rintro e w1 ⟨a1, cap1, rfl, hat1, hb1⟩
  go_wp2_with fail
  by_cases hr : more < 0 ∨ 60 < more
  · refine (row_bad n more _ (by omega)).mono ?_
    rintro e w2 ⟨rfl, rfl⟩
    go_wp2
    go_ret
    exact ⟨rfl, hb1⟩
  obtain ⟨r, rfl⟩ := Int.eq_ofNat_of_zero_le (show 0 ≤ more by omega)
  refine (row_ok n r _ h0 h1 (by omega)).mono ?_
  rintro e w2 ⟨a2, cap2, rfl, hat2, hb2⟩
  have hat1' := hat1.keep hb2
  have hb12 := Lat.trans hb1 hb2
  have hm60 : m ≤ 60 := by omega
  have hr60 : r ≤ 60 := by omega
  clear hm hr
  go_wp2
  go_loopw [17] (fun i wr => ∃ k : Nat, k ≤ m ∧ k ≤ r ∧ i = .int .i64 k ∧ Hid (Lat w wr ∧ IntsAt wr a1 m cap1 (rowL n m) ∧ IntsAt wr a2 r cap2 (rowL n r))) (fun i _ => m - (intOf i).toNat)
  case atStart => exact ⟨0, Nat.zero_le _, Nat.zero_le _, rfl, hb12, hat1', hat2⟩
  case round =>
    obtain ⟨k, hk, hkr, rfl, hrel⟩ := hrel
    by_cases hlt : k < m ∧ k < r
    · obtain ⟨hl1, hl2⟩ := hlt
      obtain ⟨b1, o1, rfl, hc1⟩ := hrel.out.2.1.row.at_ (by omega)
      obtain ⟨b2, o2, rfl, hc2⟩ := hrel.out.2.2.row.at_ (by omega)
      have c1 := hc1 k hl1
      have c2 := hc2 k hl2
      rw [rowL_get _ _ _ hl1] at c1
      rw [rowL_get _ _ _ hl2] at c2
      clear hc1 hc2
      have hd1 : decide ((k : Int) < (m : Int)) = true := by simp; omega
      have hd2 : decide ((k : Int) < (r : Int)) = true := by simp; omega
      go_wp2
      go_quiet (fail)
      go_wp2
      go_roundw
      case rel => exact ⟨k + 1, by omega, by omega, by go_num, Lat.trans hrel.out.1 (Lat.drewN _ _), hrel.out.2.1.keep (Lat.drewN _ _), hrel.out.2.2.keep (Lat.drewN _ _)⟩
      case measure => simp [intOf]; omega
    · have hend : (decide (k < m) = true ∧ decide (k < r) = false) ∨ decide (k < m) = false := by
        by_cases h : k < m
        · left; exact ⟨by simp; omega, by simp; omega⟩
        · right; simp; omega
      clear hlt
      by_cases hm0 : m = 0
      · subst hm0
        obtain rfl : k = 0 := by omega
        have hd3 : decide ((((0 : Nat) : Int)) < 1) = true := by decide
        rcases hend with ⟨h, _⟩ | hd1
        · simp at h
        · clear hd1
          go_wp2
          go_ret
          exact ⟨rfl, hrel.out.1⟩
      · obtain ⟨b1, o1, rfl, hc1⟩ := hrel.out.2.1.row.at_ hm0
        have c1 := hc1 0 (by omega)
        rw [rowL_get _ _ _ (by omega)] at c1
        rw [Nat.add_zero] at c1
        have c1' : wr.cell? ⟨b1, o1, none⟩ = some (.int .i64 (nxt n)) := c1
        clear hc1 c1
        have hd3 : decide ((m : Int) < 1) = false := by simp; omega
        have hp : (0 : Int) < (m : Int) := by omega
        rcases hend with ⟨hd1, hd2⟩ | hd1
        · go_wp2
          go_ret
          exact ⟨rfl, hrel.out.1⟩
        · go_wp2
          go_ret
          exact ⟨rfl, hrel.out.1⟩
end Go.Proofs.Ytllnipmkoibagaa
