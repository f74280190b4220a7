/- The walk of ChanceTells: it returns true, whatever the numbers. -/
import Derived.Test.YtllnipmkoibagaaDoorSame
import Derived.Test.YtllnipmkoibagaaDoorSameInts
import Derived.Test.YtllnipmkoibagaaDoorChance
namespace Go.Proofs.YtllnipmkoibagaaDoor
open Go.ChangeShapes Go.WideShapes Go.ChangeAt Go.RowKit

theorem refNext (n : Int) (w : World) (h0 : 0 ≤ n) (h1 : n ≤ 2147483647) :
    Calls Tryd.prog 12 #[.int .i64 n] w fun e w' => e = .returned (.int .i64 (nxt n)) ∧ w = w' := by
  go_enter Tryd.func12, Tryd.ntmps12
  go_wp2
  go_ret
  exact ⟨rfl, rfl⟩

set_option maxHeartbeats 2000000 in
set_option maxRecDepth 100000 in
theorem walk_chanceTells (n many bound : Int) (w : World) (hg : Hnd w) (_ : (Lit.int .i64 n).wf = true) (_ : (Lit.int .i64 many).wf = true) (_ : (Lit.int .i64 bound).wf = true) :
    Calls Tryd.prog 3 #[.int .i64 n, .int .i64 many, .int .i64 bound] w fun e w' => e = .returned (.bool true) ∧ Lat w w' := by
  have H := Lib.hid hg
  clear hg
  have db : (decide (bound < 1) = true ∧ (bound < 1 ∨ 1000 < bound)) ∨ (decide (bound < 1) = false ∧ decide (1000 < bound) = true ∧ (bound < 1 ∨ 1000 < bound)) ∨ (decide (bound < 1) = false ∧ decide (1000 < bound) = false ∧ 1 ≤ bound ∧ bound ≤ 1000) := by
    by_cases h1 : bound < 1
    · exact .inl ⟨decide_eq_true h1, .inl h1⟩
    · by_cases h2 : 1000 < bound
      · exact .inr (.inl ⟨decide_eq_false h1, decide_eq_true h2, .inr h2⟩)
      · exact .inr (.inr ⟨decide_eq_false h1, decide_eq_false h2, by omega, by omega⟩)
  have DB := Lib.hid db
  clear db
  by_cases hn : n < 1 ∨ 2147483646 < n
  · have hd : decide (n < 1) = true ∨ (decide (n < 1) = false ∧ decide (2147483646 < n) = true) := by
      by_cases h : n < 1
      · exact .inl (decide_eq_true h)
      · exact .inr ⟨decide_eq_false h, decide_eq_true (by omega)⟩
    have HN := Lib.hid hn
    clear hn
    have hm : (decide (many < 0) = true ∧ decide (0 < many) = false) ∨ (decide (many < 0) = false ∧ decide (60 < many) = true ∧ decide (0 < many) = true) ∨ (decide (many < 0) = false ∧ decide (60 < many) = false ∧ decide (0 < many) = true) ∨ (decide (many < 0) = false ∧ decide (60 < many) = false ∧ decide (0 < many) = false) := by
      by_cases h : many < 0
      · exact .inl ⟨decide_eq_true h, decide_eq_false (by omega)⟩
      · by_cases h2 : 60 < many
        · exact .inr (.inl ⟨decide_eq_false h, decide_eq_true h2, decide_eq_true (by omega)⟩)
        · by_cases h3 : 0 < many
          · exact .inr (.inr (.inl ⟨decide_eq_false h, decide_eq_false h2, decide_eq_true h3⟩))
          · exact .inr (.inr (.inr ⟨decide_eq_false h, decide_eq_false h2, decide_eq_false h3⟩))
    go_enter Tryd.func3, Tryd.ntmps3
    rcases hd with h1 | ⟨h1, h2⟩
    all_goals
      go_wp2_with fail
      refine (next_bad n _ HN.out).mono ?_
      rintro e w1 ⟨rfl, rfl⟩
      go_wp2_with fail
      refine (sameErr_eno 1 _ H.out).mono ?_
      rintro e w1 ⟨rfl, hb1⟩
      rcases hm with ⟨m1, m2⟩ | ⟨m1, m2, m3⟩ | ⟨m1, m2, m3⟩ | ⟨m1, m2, m3⟩
      all_goals
        go_wp2_with fail
        refine wp_loop_rounds 1 ?_
        rw [rounds_succ]
        go_wp2_with fail
        refine (row_bad n many _ (HN.out.elim .inl (fun h => .inr (.inl h)))).mono ?_
        rintro e w2 ⟨rfl, rfl⟩
        go_wp2_with fail
        refine (sameErr_eno 1 _ (H.out.keep hb1)).mono ?_
        rintro e w2 ⟨rfl, hb2⟩
        go_wp2_with fail
        refine (sameInts_yes none 0 0 [] none 0 _ (IntsAt.nil _) (IntsAt.nil _)).mono ?_
        rintro e w3 ⟨rfl, hb3⟩
        have hb03 := Lat.trans (Lat.trans hb1 hb2) hb3
        rcases DB.out with ⟨x1, x2⟩ | ⟨x1, x2, x3⟩ | ⟨x1, x2, x3⟩
        all_goals
          go_wp2_with fail
          refine (below_bad n bound _ (HN.out.elim .inl (fun h => .inr (.inl h)))).mono ?_
          rintro e w4 ⟨rfl, rfl⟩
          go_wp2_with fail
          refine (sameErr_eno 1 _ (H.out.keep hb03)).mono ?_
          rintro e w4 ⟨rfl, hb4⟩
          go_wp2
          go_ret
          exact ⟨rfl, Lat.trans hb03 hb4⟩
  have h0 : 1 ≤ n := by omega
  have h1 : n ≤ 2147483646 := by omega
  have d1 : decide (n < 1) = false := decide_eq_false (by omega)
  have d2 : decide (2147483646 < n) = false := decide_eq_false (by omega)
  clear hn
  have hm : (decide (many < 0) = true ∧ decide (0 < many) = false ∧ many < 0) ∨ (decide (many < 0) = false ∧ decide (60 < many) = true ∧ decide (0 < many) = true ∧ 60 < many) ∨ (decide (many < 0) = false ∧ decide (60 < many) = false ∧ 0 ≤ many ∧ many ≤ 60) := by
    by_cases h : many < 0
    · exact .inl ⟨decide_eq_true h, decide_eq_false (by omega), h⟩
    · by_cases h2 : 60 < many
      · exact .inr (.inl ⟨decide_eq_false h, decide_eq_true h2, decide_eq_true (by omega), h2⟩)
      · exact .inr (.inr ⟨decide_eq_false h, decide_eq_false h2, by omega, by omega⟩)
  go_enter Tryd.func3, Tryd.ntmps3
  go_wp2_with (first | (go_at_call 12; refine (refNext n _ (by omega) (by omega)).mono ?_; rintro e w' ⟨rfl, rfl⟩) | (go_at_call 13; refine (next_ok n _ h0 h1).mono ?_; rintro e w' ⟨rfl, rfl⟩) | (go_at_call 14; fail))
  refine (sameErr_nil _).mono ?_
  rintro e w1 ⟨rfl, hb1⟩
  rcases hm with ⟨m1, m2, m3⟩ | ⟨m1, m2, m3, m4⟩ | ⟨m1, m2, m3, m4⟩
  focus
    go_wp2_with fail
    refine wp_loop_rounds 1 ?_
    rw [rounds_succ]
    go_wp2_with fail
    refine (row_bad n many _ (.inr (.inr (.inl m3)))).mono ?_
    rintro e w2 ⟨rfl, rfl⟩
    go_wp2_with fail
    refine (sameErr_eno 1 _ (H.out.keep hb1)).mono ?_
    rintro e w2 ⟨rfl, hb2⟩
    go_wp2_with fail
    refine (sameInts_yes none 0 0 [] none 0 _ (IntsAt.nil _) (IntsAt.nil _)).mono ?_
    rintro e w3 ⟨rfl, hb3⟩
    have hb03 := Lat.trans (Lat.trans hb1 hb2) hb3
  rotate_left
  focus
    go_wp2_with fail
    refine wp_loop_rounds 1 ?_
    rw [rounds_succ]
    go_wp2_with fail
    refine (row_bad n many _ (.inr (.inr (.inr m4)))).mono ?_
    rintro e w2 ⟨rfl, rfl⟩
    go_wp2_with fail
    refine (sameErr_eno 1 _ (H.out.keep hb1)).mono ?_
    rintro e w2 ⟨rfl, hb2⟩
    go_wp2_with fail
    refine (sameInts_yes none 0 0 [] none 0 _ (IntsAt.nil _) (IntsAt.nil _)).mono ?_
    rintro e w3 ⟨rfl, hb3⟩
    have hb03 := Lat.trans (Lat.trans hb1 hb2) hb3
  rotate_left
  focus
    obtain ⟨m, rfl⟩ := Int.eq_ofNat_of_zero_le m3
    have m5 : m ≤ 60 := by omega
    go_wp2_with fail
    go_loopw [13, 14, 15] (fun v s i wr => ∃ k : Nat, k ≤ m ∧ i = .int .i64 k ∧ s = .int .i64 (itn n k) ∧ Hid (OwnInts wr w.heap.size v (rowL n k) ∧ Lat w wr)) (fun _ _ i _ => m - (intOf i).toNat)
    case atStart => exact ⟨0, Nat.zero_le _, rfl, rfl, Own.nil _ _ _, hb1⟩
    case round =>
      obtain ⟨k, hk, rfl, rfl, hrel⟩ := hrel
      have hbd := itn_bd n k h0 h1
      by_cases hlt : k < m
      · have hlen : (rowL n k).length < 1000000000000 := by rw [rowL_length]; omega
        go_wp2_with (first | (go_at_call 12; refine (refNext _ _ hbd.1 (by omega)).mono ?_; rintro e w' ⟨rfl, rfl⟩) | (at_builtin; refine app_int wr w _ rfl _ _ rfl _ _ _ rfl hrel.out.1 rfl hlen rfl hrel.out.2 ?_; intro v' w2 hown' hb' _))
        go_roundw
        case rel => exact ⟨k + 1, by omega, by go_num, rfl, by rw [rowL_succ]; exact hown', hb'⟩
        case measure => simp [intOf]; omega
      · obtain rfl : k = m := by omega
        have hs : ∃ a cap, u13 = .slice a k cap ∧ IntsAt wr a k cap (rowL n k) := by have := OwnInts.slice hrel.out.1 (rowL_wf n k); rwa [rowL_length] at this
        obtain ⟨a, cap, rfl, hat⟩ := hs
        have hb1' := hrel.out.2
        clear hrel
        go_wp2_with fail
        refine (row_ok n k _ h0 h1 m5).mono ?_
        rintro e w2 ⟨a2, cap2, rfl, hat2, hb2⟩
        go_wp2_with fail
        refine (sameErr_nil _).mono ?_
        rintro e w3 ⟨rfl, hb3⟩
        go_wp2_with fail
        refine (sameInts_yes a2 k cap2 (rowL n k) a cap _ (hat2.keep hb3) ((hat.keep hb2).keep hb3)).mono ?_
        rintro e w4 ⟨rfl, hb4'⟩
        have hb03 := Lat.trans (Lat.trans (Lat.trans hb1' hb2) hb3) hb4'
        clear hat hat2
        rcases DB.out with ⟨x1, x2⟩ | ⟨x1, x2, x3⟩ | ⟨x1, x2, x3, x4⟩
        · go_wp2_with fail
          refine (below_bad n bound _ (x2.elim (fun h => .inr (.inr (.inl h))) (fun h => .inr (.inr (.inr h))))).mono ?_
          rintro e w4 ⟨rfl, rfl⟩
          go_wp2_with fail
          refine (sameErr_eno 1 _ (H.out.keep hb03)).mono ?_
          rintro e w4 ⟨rfl, hb4⟩
          go_wp2
          go_ret
          exact ⟨rfl, Lat.trans hb03 hb4⟩
        · go_wp2_with fail
          refine (below_bad n bound _ (x3.elim (fun h => .inr (.inr (.inl h))) (fun h => .inr (.inr (.inr h))))).mono ?_
          rintro e w4 ⟨rfl, rfl⟩
          go_wp2_with fail
          refine (sameErr_eno 1 _ (H.out.keep hb03)).mono ?_
          rintro e w4 ⟨rfl, hb4⟩
          go_wp2
          go_ret
          exact ⟨rfl, Lat.trans hb03 hb4⟩
        · have hnn := nxt_bd n
          go_wp2_with fail
          refine (below_ok n bound _ h0 h1 x3 x4).mono ?_
          rintro e w4 ⟨rfl, rfl⟩
          go_wp2_with fail
          refine (sameErr_nil _).mono ?_
          rintro e w4 ⟨rfl, hb4⟩
          go_wp2
          go_ret
          exact ⟨rfl, Lat.trans hb03 hb4⟩
  all_goals
    rcases DB.out with ⟨x1, x2⟩ | ⟨x1, x2, x3⟩ | ⟨x1, x2, x3, x4⟩
    · go_wp2_with fail
      refine (below_bad n bound _ (x2.elim (fun h => .inr (.inr (.inl h))) (fun h => .inr (.inr (.inr h))))).mono ?_
      rintro e w4 ⟨rfl, rfl⟩
      go_wp2_with fail
      refine (sameErr_eno 1 _ (H.out.keep hb03)).mono ?_
      rintro e w4 ⟨rfl, hb4⟩
      go_wp2
      go_ret
      exact ⟨rfl, Lat.trans hb03 hb4⟩
    · go_wp2_with fail
      refine (below_bad n bound _ (x3.elim (fun h => .inr (.inr (.inl h))) (fun h => .inr (.inr (.inr h))))).mono ?_
      rintro e w4 ⟨rfl, rfl⟩
      go_wp2_with fail
      refine (sameErr_eno 1 _ (H.out.keep hb03)).mono ?_
      rintro e w4 ⟨rfl, hb4⟩
      go_wp2
      go_ret
      exact ⟨rfl, Lat.trans hb03 hb4⟩
    · have hnn := nxt_bd n
      go_wp2_with fail
      refine (below_ok n bound _ h0 h1 x3 x4).mono ?_
      rintro e w4 ⟨rfl, rfl⟩
      go_wp2_with fail
      refine (sameErr_nil _).mono ?_
      rintro e w4 ⟨rfl, hb4⟩
      go_wp2
      go_ret
      exact ⟨rfl, Lat.trans hb03 hb4⟩
end Go.Proofs.YtllnipmkoibagaaDoor
