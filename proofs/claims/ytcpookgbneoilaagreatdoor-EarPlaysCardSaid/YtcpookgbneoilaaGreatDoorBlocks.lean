/- The contracts of blocks.Size, blocks.Check. -/
import Derived.Test.YtcpookgbneoilaaGreatDoorOwn
namespace Go.Proofs.YtcpookgbneoilaaGreatDoor
open Go.ChangeShapes Go.WideShapes Go.ChangeAt Go.RowKit

/-- how long string j is -/
def szAt (ss : List ByteArray) (j : Nat) : Nat := (ss.getD j ByteArray.empty).size
/-- what is wrong with blocks, as a number; 0: nothing -/
def chk (ss : List ByteArray) : Nat :=
  if ss.length = 0 then 5 else if 16 < ss.length then 4 else if szAt ss 0 < 1 ∨ 8 < szAt ss 0 then 1 else if ∃ j, j < ss.length ∧ szAt ss j ≠ szAt ss 0 then 3 else 0
structure ChkOk (ss : List ByteArray) : Prop where
  pos : 1 ≤ ss.length
  most : ss.length ≤ 16
  one : 1 ≤ szAt ss 0
  eight : szAt ss 0 ≤ 8
  all : ∀ j, j < ss.length → szAt ss j = szAt ss 0
theorem chk_ok {ss : List ByteArray} (h : chk ss = 0) : ChkOk ss := by
  unfold chk at h
  repeat' split at h
  all_goals first | omega | skip
  rename_i h1 h2 h3 h4
  exact ⟨by omega, by omega, by omega, by omega, fun j hj => Classical.byContradiction fun hne => h4 ⟨j, hj, hne⟩⟩
theorem chk_of {ss : List ByteArray} (h : ChkOk ss) : chk ss = 0 := by
  obtain ⟨h1, h2, h3, h4, h5⟩ := h
  unfold chk
  rw [if_neg (by omega), if_neg (by omega), if_neg (by omega), if_neg (by rintro ⟨j, hj, hne⟩; exact hne (h5 j hj))]

theorem size_yes (n : Int) (w : World) (h0 : 1 ≤ n) (h1 : n ≤ 8) :
    Calls Tryz.prog 40 #[.int .i64 n] w fun e w' => e = .returned (.bool true) ∧ w = w' := by
  have hd : decide (n ≤ 8) = true := decide_eq_true (by omega)
  go_enter Tryz.func40, Tryz.ntmps40
  go_wp2
  go_ret
  exact ⟨rfl, rfl⟩
theorem size_no (n : Int) (w : World) (h : n < 1 ∨ 8 < n) :
    Calls Tryz.prog 40 #[.int .i64 n] w fun e w' => e = .returned (.bool false) ∧ w = w' := by
  have hc : decide (1 ≤ n) = false ∨ (decide (1 ≤ n) = true ∧ decide (n ≤ 8) = false) := by
    by_cases h : 1 ≤ n
    · exact .inr ⟨decide_eq_true h, decide_eq_false (by omega)⟩
    · exact .inl (decide_eq_false h)
  clear h
  rcases hc with h4 | ⟨h4, h5⟩
  all_goals
    go_enter Tryz.func40, Tryz.ntmps40
    go_wp2
    go_ret
    exact ⟨rfl, rfl⟩

/-- The closure: is this block as long as the first one? -/
theorem clos_any (b s0 : ByteArray) (g bb o n cap : Nat) (w : World) (hp : w.cell? ⟨g, 0, none⟩ = some (.slice (some ⟨bb, o, none⟩) n cap)) (hn : 1 ≤ n) (hc : w.cell? ⟨bb, o, none⟩ = some (.string s0)) :
    Calls Tryz.prog 79 #[.string b, .pointer (some ⟨g, 0, none⟩)] w fun e w' => e = .returned (.bool ((b.size : Int) != (s0.size : Int))) ∧ w = w' := by
  have h0 : (0 : Int) < (n : Int) := by omega
  go_enter Tryz.func79, Tryz.ntmps79
  go_wp2
  go_ret
  exact ⟨rfl, rfl⟩

theorem szAt_zero {w : World} {bb o : Nat} {ss : List ByteArray} (h : w.cell? ⟨bb, o + 0, none⟩ = some (.string (ss.getD 0 ByteArray.empty))) : w.cell? ⟨bb, o, none⟩ = some (.string (ss.getD 0 ByteArray.empty)) := h

set_option maxHeartbeats 400000 in
theorem indexFunc_none (g bb o n cap : Nat) (ss : List ByteArray) (w : World) (hp : w.cell? ⟨g, 0, none⟩ = some (.slice (some ⟨bb, o, none⟩) n cap)) (hn : 1 ≤ n) (hm : n ≤ 1000000000000)
    (hc : ∀ j, j < n → w.cell? ⟨bb, o + j, none⟩ = some (.string (ss.getD j ByteArray.empty))) (hall : ∀ j, j < n → szAt ss j = szAt ss 0) :
    Calls Tryz.prog 89 #[.slice (some ⟨bb, o, none⟩) n cap, .func (.func 79) #[] #[.pointer (some ⟨g, 0, none⟩)]] w fun e w' => e = .returned (.int .i64 (-1)) ∧ w = w' := by
  have HC := Lib.hid hc; have HA := Lib.hid hall; clear hc hall
  go_enter Tryz.func89, Tryz.ntmps89
  go_wp2
  go_loop [8] (fun i => ∃ k : Nat, k ≤ n ∧ i = .int .i64 k) (fun i => n - (intOf i).toNat)
  case atStart => exact ⟨0, Nat.zero_le _, rfl⟩
  case round =>
    obtain ⟨k, hk, rfl⟩ := hrel
    by_cases hlt : k < n
    · have c1 := HC.out k hlt
      have ht : (((ss.getD k ByteArray.empty).size : Int) != ((ss.getD 0 ByteArray.empty).size : Int)) = false := by
        have := HA.out k hlt
        unfold szAt at this
        rw [bne_eq_false_iff_eq]; omega
      obtain ⟨s1, hs1⟩ : ∃ s, s = ss.getD k ByteArray.empty := ⟨_, rfl⟩
      rw [← hs1] at c1 ht
      clear hs1
      go_wp2_with (go_at_call 79; refine (clos_any s1 (ss.getD 0 ByteArray.empty) g bb o n cap _ hp hn (HC.out 0 hn)).mono ?_; rw [ht]; rintro e w' ⟨rfl, rfl⟩)
      go_round
      case rel => exact ⟨k + 1, by omega, by go_num⟩
      case measure => simp [intOf]; omega
    · go_wp2
      go_ret
      exact ⟨rfl, rfl⟩

set_option maxHeartbeats 400000 in
theorem indexFunc_some (g bb o n cap : Nat) (ss : List ByteArray) (w : World) (hp : w.cell? ⟨g, 0, none⟩ = some (.slice (some ⟨bb, o, none⟩) n cap)) (hn : 1 ≤ n) (hm : n ≤ 1000000000000)
    (hc : ∀ j, j < n → w.cell? ⟨bb, o + j, none⟩ = some (.string (ss.getD j ByteArray.empty))) (j0 : Nat) (hj0 : j0 < n) (hbad : szAt ss j0 ≠ szAt ss 0) :
    Calls Tryz.prog 89 #[.slice (some ⟨bb, o, none⟩) n cap, .func (.func 79) #[] #[.pointer (some ⟨g, 0, none⟩)]] w fun e w' => (∃ k : Nat, e = .returned (.int .i64 k)) ∧ w = w' := by
  have HC := Lib.hid hc; have HA := Lib.hid hbad; clear hc hbad
  go_enter Tryz.func89, Tryz.ntmps89
  go_wp2
  go_loop [8] (fun i => ∃ k : Nat, k ≤ j0 ∧ i = .int .i64 k) (fun i => n - (intOf i).toNat)
  case atStart => exact ⟨0, Nat.zero_le _, rfl⟩
  case round =>
    obtain ⟨k, hk, rfl⟩ := hrel
    have hlt : k < n := by omega
    have c1 := HC.out k hlt
    by_cases heq : szAt ss k = szAt ss 0
    · have hkj : k ≠ j0 := fun e => HA.out (e ▸ heq)
      have ht : (((ss.getD k ByteArray.empty).size : Int) != ((ss.getD 0 ByteArray.empty).size : Int)) = false := by
        unfold szAt at heq
        rw [bne_eq_false_iff_eq]; omega
      obtain ⟨s1, hs1⟩ : ∃ s, s = ss.getD k ByteArray.empty := ⟨_, rfl⟩
      rw [← hs1] at c1 ht
      clear hs1 heq
      go_wp2_with (go_at_call 79; refine (clos_any s1 (ss.getD 0 ByteArray.empty) g bb o n cap _ hp hn (HC.out 0 hn)).mono ?_; rw [ht]; rintro e w' ⟨rfl, rfl⟩)
      go_round
      case rel => exact ⟨k + 1, by omega, by go_num⟩
      case measure => simp [intOf]; omega
    · have ht : (((ss.getD k ByteArray.empty).size : Int) != ((ss.getD 0 ByteArray.empty).size : Int)) = true := by
        unfold szAt at heq
        rw [bne_iff_ne]; omega
      obtain ⟨s1, hs1⟩ : ∃ s, s = ss.getD k ByteArray.empty := ⟨_, rfl⟩
      rw [← hs1] at c1 ht
      clear hs1 heq
      go_wp2_with (go_at_call 79; refine (clos_any s1 (ss.getD 0 ByteArray.empty) g bb o n cap _ hp hn (HC.out 0 hn)).mono ?_; rw [ht]; rintro e w' ⟨rfl, rfl⟩)
      go_ret
      exact ⟨⟨k, rfl⟩, rfl⟩

theorem contains_none (g bb o n cap : Nat) (ss : List ByteArray) (w : World) (hp : w.cell? ⟨g, 0, none⟩ = some (.slice (some ⟨bb, o, none⟩) n cap)) (hn : 1 ≤ n) (hm : n ≤ 1000000000000)
    (hc : ∀ j, j < n → w.cell? ⟨bb, o + j, none⟩ = some (.string (ss.getD j ByteArray.empty))) (hall : ∀ j, j < n → szAt ss j = szAt ss 0) :
    Calls Tryz.prog 78 #[.slice (some ⟨bb, o, none⟩) n cap, .func (.func 79) #[] #[.pointer (some ⟨g, 0, none⟩)]] w fun e w' => e = .returned (.bool false) ∧ w = w' := by
  have HC := Lib.hid hc; have HA := Lib.hid hall; clear hc hall
  go_enter Tryz.func78, Tryz.ntmps78
  go_wp2_with (go_at_call 89; refine (indexFunc_none g bb o n cap ss _ hp hn hm HC.out HA.out).mono ?_; rintro e w' ⟨rfl, rfl⟩)
  go_ret
  exact ⟨rfl, rfl⟩
theorem contains_some (g bb o n cap : Nat) (ss : List ByteArray) (w : World) (hp : w.cell? ⟨g, 0, none⟩ = some (.slice (some ⟨bb, o, none⟩) n cap)) (hn : 1 ≤ n) (hm : n ≤ 1000000000000)
    (hc : ∀ j, j < n → w.cell? ⟨bb, o + j, none⟩ = some (.string (ss.getD j ByteArray.empty))) (j0 : Nat) (hj0 : j0 < n) (hbad : szAt ss j0 ≠ szAt ss 0) :
    Calls Tryz.prog 78 #[.slice (some ⟨bb, o, none⟩) n cap, .func (.func 79) #[] #[.pointer (some ⟨g, 0, none⟩)]] w fun e w' => e = .returned (.bool true) ∧ w = w' := by
  have HC := Lib.hid hc; have HA := Lib.hid hbad; clear hc hbad
  go_enter Tryz.func78, Tryz.ntmps78
  go_wp2_with (go_at_call 89; refine (indexFunc_some g bb o n cap ss _ hp hn hm HC.out j0 hj0 HA.out).mono ?_; rintro e w' ⟨⟨k, rfl⟩, rfl⟩)
  go_ret
  exact ⟨rfl, rfl⟩

set_option maxHeartbeats 400000 in
theorem check_ok (a : Option Addr) (n cap : Nat) (ss : List ByteArray) (w : World) (h : StrsAt w a n cap ss) (hok : chk ss = 0) :
    Calls Tryz.prog 59 #[.slice a n cap] w fun e w' => e = .returned .nilIface ∧ Lat w w' := by
  obtain ⟨h1, h2, h3, h4, h5⟩ := chk_ok hok
  have hl := h.len
  obtain ⟨bb, o, rfl, hc⟩ := h.row.at_ (by omega)
  have HC := Lib.hid hc
  have c0 : w.cell? ⟨bb, o, none⟩ = some (.string (ss.getD 0 ByteArray.empty)) := hc 0 (by omega)
  have hb := World.block_lt_of_cell? _ _ c0
  have hn1 : 1 ≤ n := by omega
  have hn2 : n ≤ 16 := by omega
  have HA := Lib.hid h5
  have HL := Lib.hid hl
  obtain ⟨s0, hs0⟩ : ∃ s, s = ss.getD 0 ByteArray.empty := ⟨_, rfl⟩
  have q1 : 1 ≤ s0.size := by rw [hs0]; exact h3
  have q2 : s0.size ≤ 8 := by rw [hs0]; exact h4
  rw [← hs0] at c0
  clear hc h5 hl h hok hs0 h3 h4 h1 h2
  have d1 : ((n : Int) == 0) = false := by simp; omega
  have d2 : decide (16 < (n : Int)) = false := decide_eq_false (by omega)
  have dp : (0 : Int) < (n : Int) := by omega
  have c0' := (Lat.alloc w (.cells #[.slice (some ⟨bb, o, none⟩) n cap] 82)).cell_at c0
  have HB := Lib.hid hb; clear hb
  go_enter Tryz.func59, Tryz.ntmps59
  go_wp2_with (first | (go_at_call 40; refine (size_yes _ _ (by omega) (by omega)).mono ?_; rintro e w' ⟨rfl, rfl⟩) | (go_at_call 78; refine (contains_none w.heap.size bb o n cap ss _ ?h1 hn1 (by omega) ?h2 ?h3).mono ?_; rotate_right; rintro e w' ⟨rfl, rfl⟩))
  case h1 => simp
  case h2 => intro j hj; exact (Lat.alloc _ _).cell_at (HC.out j hj)
  case h3 => intro j hj; exact HA.out j (by rw [HL.out]; exact hj)
  go_wp2
  go_ret
  exact ⟨rfl, (Below.refl _ _).alloc (Nat.le_refl _) _⟩

theorem check_none (a : Option Addr) (cap : Nat) (w : World) :
    Calls Tryz.prog 59 #[.slice a 0 cap] w fun e w' => e = .returned (eno 5) ∧ Lat w w' := by
  go_enter Tryz.func59, Tryz.ntmps59
  go_wp2
  go_ret
  exact ⟨rfl, (Below.refl _ _).alloc (Nat.le_refl _) _⟩
theorem check_full (a : Option Addr) (n cap : Nat) (w : World) (h : 16 < n) :
    Calls Tryz.prog 59 #[.slice a n cap] w fun e w' => e = .returned (eno 4) ∧ Lat w w' := by
  have d1 : ((n : Int) == 0) = false := by simp; omega
  have d2 : decide (16 < (n : Int)) = true := decide_eq_true (by omega)
  go_enter Tryz.func59, Tryz.ntmps59
  go_wp2
  go_ret
  exact ⟨rfl, (Below.refl _ _).alloc (Nat.le_refl _) _⟩
theorem check_range (a : Option Addr) (n cap : Nat) (ss : List ByteArray) (w : World) (h : StrsAt w a n cap ss) (h1 : 1 ≤ n) (h2 : n ≤ 16) (h3 : szAt ss 0 < 1 ∨ 8 < szAt ss 0) :
    Calls Tryz.prog 59 #[.slice a n cap] w fun e w' => e = .returned (eno 1) ∧ Lat w w' := by
  obtain ⟨bb, o, rfl, hc⟩ := h.row.at_ (by omega)
  have c0 : w.cell? ⟨bb, o, none⟩ = some (.string (ss.getD 0 ByteArray.empty)) := hc 0 (by omega)
  obtain ⟨s0, hs0⟩ : ∃ s, s = ss.getD 0 ByteArray.empty := ⟨_, rfl⟩
  have q1 : (s0.size : Int) < 1 ∨ 8 < (s0.size : Int) := by rw [hs0]; unfold szAt at h3; omega
  rw [← hs0] at c0
  have c0' := (Lat.alloc w (.cells #[.slice (some ⟨bb, o, none⟩) n cap] 82)).cell_at c0
  clear hc h hs0 h3
  have d1 : ((n : Int) == 0) = false := by simp; omega
  have d2 : decide (16 < (n : Int)) = false := decide_eq_false (by omega)
  have dp : (0 : Int) < (n : Int) := by omega
  go_enter Tryz.func59, Tryz.ntmps59
  go_wp2_with (go_at_call 40; refine (size_no _ _ q1).mono ?_; rintro e w' ⟨rfl, rfl⟩)
  go_ret
  exact ⟨rfl, (Below.refl _ _).alloc (Nat.le_refl _) _⟩
set_option maxHeartbeats 400000 in
theorem check_shape (a : Option Addr) (n cap : Nat) (ss : List ByteArray) (w : World) (h : StrsAt w a n cap ss) (h1 : 1 ≤ n) (h2 : n ≤ 16) (h3 : 1 ≤ szAt ss 0) (h4 : szAt ss 0 ≤ 8)
    (j0 : Nat) (hj0 : j0 < n) (hbad : szAt ss j0 ≠ szAt ss 0) :
    Calls Tryz.prog 59 #[.slice a n cap] w fun e w' => e = .returned (eno 3) ∧ Lat w w' := by
  obtain ⟨bb, o, rfl, hc⟩ := h.row.at_ (by omega)
  have HC := Lib.hid hc
  have c0 : w.cell? ⟨bb, o, none⟩ = some (.string (ss.getD 0 ByteArray.empty)) := hc 0 (by omega)
  have HA := Lib.hid hbad
  obtain ⟨s0, hs0⟩ : ∃ s, s = ss.getD 0 ByteArray.empty := ⟨_, rfl⟩
  have q1 : 1 ≤ s0.size := by rw [hs0]; exact h3
  have q2 : s0.size ≤ 8 := by rw [hs0]; exact h4
  rw [← hs0] at c0
  clear hc h hs0 h3 h4 hbad
  have d1 : ((n : Int) == 0) = false := by simp; omega
  have d2 : decide (16 < (n : Int)) = false := decide_eq_false (by omega)
  have dp : (0 : Int) < (n : Int) := by omega
  have c0' := (Lat.alloc w (.cells #[.slice (some ⟨bb, o, none⟩) n cap] 82)).cell_at c0
  go_enter Tryz.func59, Tryz.ntmps59
  go_wp2_with (first | (go_at_call 40; refine (size_yes _ _ (by omega) (by omega)).mono ?_; rintro e w' ⟨rfl, rfl⟩) | (go_at_call 78; refine (contains_some w.heap.size bb o n cap ss _ ?h1 h1 (by omega) ?h2 j0 hj0 HA.out).mono ?_; rotate_right; rintro e w' ⟨rfl, rfl⟩))
  case h1 => simp
  case h2 => intro j hj; exact (Lat.alloc _ _).cell_at (HC.out j hj)
  go_wp2
  go_ret
  exact ⟨rfl, (Below.refl _ _).alloc (Nat.le_refl _) _⟩
theorem check_bad (a : Option Addr) (n cap : Nat) (ss : List ByteArray) (w : World) (h : StrsAt w a n cap ss) (hb : chk ss ≠ 0) :
    Calls Tryz.prog 59 #[.slice a n cap] w fun e w' => e = .returned (eno (chk ss)) ∧ Lat w w' := by
  have hl := h.len
  unfold chk at hb ⊢
  rw [hl] at hb ⊢
  by_cases h1 : n = 0
  · subst h1
    exact check_none a cap w
  rw [if_neg h1] at hb ⊢
  by_cases h2 : 16 < n
  · rw [if_pos h2]; exact check_full a n cap w h2
  rw [if_neg h2] at hb ⊢
  by_cases h3 : szAt ss 0 < 1 ∨ 8 < szAt ss 0
  · rw [if_pos h3]; exact check_range a n cap ss w h (by omega) (by omega) h3
  rw [if_neg h3] at hb ⊢
  by_cases h4 : ∃ j, j < n ∧ szAt ss j ≠ szAt ss 0
  · rw [if_pos h4]
    obtain ⟨j, hj, hne⟩ := h4
    exact check_shape a n cap ss w h (by omega) (by omega) (by omega) (by omega) j hj hne
  · rw [if_neg h4] at hb
    exact absurd rfl hb
end Go.Proofs.YtcpookgbneoilaaGreatDoor
