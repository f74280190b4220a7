/- The walk of DegreeTells: it returns true, whatever the numbers. -/
import Derived.Test.YtllnipmkoibagaaDoorSame
import Derived.Test.YtllnipmkoibagaaDoorSameInts
import Derived.Test.YtllnipmkoibagaaDoorRefDegree
namespace Go.Proofs.YtllnipmkoibagaaDoor
open Go.ChangeShapes Go.WideShapes Go.ChangeAt Go.RowKit

def tmsTo (k i : Nat) : List Int := (List.range i).map fun j => (tmsF k 1000 j : Int)
theorem tmsTo_succ (k i : Nat) : tmsTo k (i + 1) = tmsTo k i ++ [(tmsF k 1000 i : Int)] := by unfold tmsTo; rw [List.range_succ, List.map_append]; rfl
theorem tmsTo_length (k i : Nat) : (tmsTo k i).length = i := by simp [tmsTo]
theorem tmsTo_wf (k i : Nat) : ∀ z ∈ tmsTo k i, -9223372036854775808 ≤ z ∧ z ≤ 9223372036854775807 := by
  intro z hz; obtain ⟨j, _, rfl⟩ := List.mem_map.1 hz
  have := tmsF_le k 1000 j; omega
theorem tmsF_yes (k m j : Nat) (h : degF k m = j + 1) : tmsF k (m + 1) j = tmsF k m j + 1 := by rw [tmsF, if_pos h.symm]
theorem tmsF_no (k m j : Nat) (h : degF k m ≠ j + 1) : tmsF k (m + 1) j = tmsF k m j := by rw [tmsF, if_neg (fun e => h e.symm)]; rfl

set_option maxHeartbeats 2000000 in
set_option maxRecDepth 100000 in
theorem walk_degreeTells (k n : Int) (w : World) (hg : Hnd w) (_ : (Lit.int .i64 k).wf = true) (_ : (Lit.int .i64 n).wf = true) :
    Calls Tryd.prog 4 #[.int .i64 k, .int .i64 n] w fun e w' => e = .returned (.bool true) ∧ Lat w w' := by
  have H := Lib.hid hg
  clear hg
  have dn : decide (n < 0) = true ∨ (decide (n < 0) = false ∧ decide (999 < n) = true) ∨ (decide (n < 0) = false ∧ decide (999 < n) = false) := by
    by_cases h : n < 0
    · exact .inl (decide_eq_true h)
    · by_cases h2 : 999 < n
      · exact .inr (.inl ⟨decide_eq_false h, decide_eq_true h2⟩)
      · exact .inr (.inr ⟨decide_eq_false h, decide_eq_false h2⟩)
  by_cases hk : k < 1 ∨ 16 < k
  · have dk : (decide (k < 1) = true ∧ decide (1 ≤ k) = false) ∨ (decide (k < 1) = false ∧ decide (16 < k) = true ∧ decide (1 ≤ k) = true) := by
      by_cases h : k < 1
      · exact .inl ⟨decide_eq_true h, decide_eq_false (by omega)⟩
      · exact .inr ⟨decide_eq_false h, decide_eq_true (by omega), decide_eq_true (by omega)⟩
    have HK := Lib.hid hk
    clear hk
    go_enter Tryd.func4, Tryd.ntmps4
    rcases dk with ⟨k1, k2⟩ | ⟨k1, k2, k3⟩
    all_goals
      rcases dn with n1 | ⟨n1, n2⟩ | ⟨n1, n2⟩
      all_goals
        go_wp2_with fail
        refine (dof_bad k n _ (HK.out.elim .inl (fun h => .inr (.inl h)))).mono ?_
        rintro e w1 ⟨rfl, rfl⟩
        go_wp2_with fail
        refine (sameErr_eno 1 _ H.out).mono ?_
        rintro e w1 ⟨rfl, hb1⟩
        go_wp2_with fail
        refine wp_loop_rounds 1 ?_
        rw [rounds_succ]
        go_wp2_with fail
        refine (times_bad k _ HK.out).mono ?_
        rintro e w2 ⟨rfl, rfl⟩
        go_wp2_with fail
        refine (sameErr_eno 1 _ (H.out.keep hb1)).mono ?_
        rintro e w2 ⟨rfl, hb2⟩
        go_wp2_with fail
        refine (sameInts_yes none 0 0 [] none 0 _ (IntsAt.nil _) (IntsAt.nil _)).mono ?_
        rintro e w3 ⟨rfl, hb3⟩
        go_wp2
        go_ret
        exact ⟨rfl, Lat.trans (Lat.trans hb1 hb2) hb3⟩
  obtain ⟨k, rfl⟩ := Int.eq_ofNat_of_zero_le (show 0 ≤ k by omega)
  have k1 : 1 ≤ k := by omega
  have k2 : k ≤ 16 := by omega
  have d1 : decide ((k : Int) < 1) = false := decide_eq_false (by omega)
  have d2 : decide (16 < (k : Int)) = false := decide_eq_false (by omega)
  clear hk
  have hn : (decide (n < 0) = true ∧ (n < 0 ∨ 999 < n)) ∨ (decide (n < 0) = false ∧ decide (999 < n) = true ∧ (n < 0 ∨ 999 < n)) ∨ (decide (n < 0) = false ∧ decide (999 < n) = false ∧ 0 ≤ n ∧ n ≤ 999) := by
    by_cases h : n < 0
    · exact .inl ⟨decide_eq_true h, .inl h⟩
    · by_cases h2 : 999 < n
      · exact .inr (.inl ⟨decide_eq_false h, decide_eq_true h2, .inr h2⟩)
      · exact .inr (.inr ⟨decide_eq_false h, decide_eq_false h2, by omega, by omega⟩)
  clear dn
  go_enter Tryd.func4, Tryd.ntmps4
  rcases hn with ⟨n1, n2⟩ | ⟨n1, n2, n3⟩ | ⟨n1, n2, n3, n4⟩
  focus
    go_wp2_with fail
    refine (dof_bad k n _ (.inr (.inr n2))).mono ?_
    rintro e w1 ⟨rfl, rfl⟩
    clear n2
    go_wp2_with fail
    refine (sameErr_eno 1 _ H.out).mono ?_
    rintro e w1 ⟨rfl, hb1⟩
  rotate_left
  focus
    go_wp2_with fail
    refine (dof_bad k n _ (.inr (.inr n3))).mono ?_
    rintro e w1 ⟨rfl, rfl⟩
    clear n3
    go_wp2_with fail
    refine (sameErr_eno 1 _ H.out).mono ?_
    rintro e w1 ⟨rfl, hb1⟩
  rotate_left
  focus
    obtain ⟨n, rfl⟩ := Int.eq_ofNat_of_zero_le n3
    have n5 : n ≤ 999 := by omega
    go_wp2_with (first | (go_at_call 18; refine (refDegree k n _ k1 k2 n5).mono ?_; rintro e w1 ⟨rfl, rfl⟩) | (go_at_call 19; refine (dof_ok k n _ k1 k2 n5).mono ?_; rintro e w1 ⟨rfl, rfl⟩))
    refine (sameErr_nil _).mono ?_
    rintro e w1 ⟨rfl, hb1⟩
  all_goals
    go_wp2_with fail
    go_loopw [11, 12] (fun v i wr => ∃ q : Nat, q ≤ k ∧ i = .int .i64 ((q : Int) + 1) ∧ Hid (OwnInts wr w.heap.size v (tmsTo k q) ∧ Lat w wr)) (fun _ i _ => k + 1 - (intOf i).toNat)
    case atStart => exact ⟨0, Nat.zero_le _, rfl, Own.nil _ _ _, hb1⟩
    case round =>
      obtain ⟨q, hq, rfl, hrel⟩ := hrel
      by_cases hlt : q < k
      · have hle : (q : Int) + 1 ≤ (k : Int) := by omega
        have dle : decide ((q : Int) + 1 ≤ (k : Int)) = true := decide_eq_true hle
        go_wp2_with fail
        go_loop [13, 14] (fun c j => ∃ p : Nat, p ≤ 1000 ∧ j = .int .i64 p ∧ c = .int .i64 (tmsF k p q)) (fun _ j => 1000 - (intOf j).toNat)
        case atStart => exact ⟨0, by omega, rfl, rfl⟩
        case round =>
          obtain ⟨p, hp, rfl, rfl⟩ := hrel
          have htle := tmsF_le k p q
          by_cases hp2 : p < 1000
          · by_cases hdg : degF k p = q + 1
            · have dt : ((degF k p : Int) == (q : Int) + 1) = true := by rw [beq_iff_eq]; omega
              have hst := tmsF_yes k p q hdg
              have HST := Lib.hid hst
              clear hst hdg
              go_wp2_with (go_at_call 18; refine (refDegree k p _ k1 k2 (by omega)).mono ?_; rintro e w4 ⟨rfl, rfl⟩)
              go_round
              case rel => exact ⟨p + 1, by omega, by go_num, by rw [HST.out]; go_num⟩
              case measure => simp [intOf]; omega
            · have dt : ((degF k p : Int) == (q : Int) + 1) = false := by rw [beq_eq_false_iff_ne]; omega
              have hst := tmsF_no k p q hdg
              have HST := Lib.hid hst
              clear hst hdg
              go_wp2_with (go_at_call 18; refine (refDegree k p _ k1 k2 (by omega)).mono ?_; rintro e w4 ⟨rfl, rfl⟩)
              go_round
              case rel => exact ⟨p + 1, by omega, by go_num, by rw [HST.out]⟩
              case measure => simp [intOf]; omega
          · have hlen : (tmsTo k q).length < 1000000000000 := by rw [tmsTo_length]; omega
            have ep : p = 1000 := by omega
            have EP := Lib.hid ep
            clear ep
            go_wp2_with (at_builtin; refine app_int wr w _ rfl _ _ rfl _ _ _ rfl hrel.out.1 rfl hlen rfl hrel.out.2 ?_; intro v' w2 hown' hb' _)
            go_roundw
            case rel => exact ⟨q + 1, by omega, by go_num, by rw [tmsTo_succ, ← EP.out]; exact hown', hb'⟩
            case measure => simp [intOf]; omega
      · obtain rfl : q = k := by omega
        have dle : decide ((q : Int) + 1 ≤ (q : Int)) = false := decide_eq_false (by omega)
        have hs : ∃ a cap, u11 = .slice a q cap ∧ IntsAt wr a q cap (tmsTo q q) := by have := OwnInts.slice hrel.out.1 (tmsTo_wf q q); rwa [tmsTo_length] at this
        obtain ⟨a, cap, rfl, hat⟩ := hs
        have hb1' := hrel.out.2
        clear hrel
        go_wp2_with fail
        refine (times_ok q _ k1 k2).mono ?_
        rintro e w2 ⟨g, rfl, hat2, hb2⟩
        go_wp2_with fail
        refine (sameErr_nil _).mono ?_
        rintro e w3 ⟨rfl, hb3⟩
        go_wp2_with fail
        refine (sameInts_yes _ q q (tmsL q) a cap _ (hat2.keep hb3) ((hat.keep hb2).keep hb3)).mono ?_
        rintro e w4 ⟨rfl, hb4⟩
        clear hat hat2
        go_wp2
        go_ret
        exact ⟨rfl, Lat.trans (Lat.trans (Lat.trans hb1' hb2) hb3) hb4⟩
end Go.Proofs.YtllnipmkoibagaaDoor
