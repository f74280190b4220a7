import Derived.Test.YtheimfdbadjpoaaGreatDoorBytePlain
import Derived.Test.YtheimfdbadjpoaaGreatDoorOwnC
import Derived.Lib.ConvBytes
import Derived.Laws.BytesArg
import Derived.Laws.BitsAllLaws
import Derived.Test.YtheimfdbadjpoaaGreatDoorAppG
import Derived.Maps.OwnSet
import Derived.Maps.Views
import Derived.Test.YtheimfdbadjpoaaGreatDoorAppOne
import Derived.Deep.CutRange
import Derived.Deep.DeepCutAuto
namespace Go.Proofs.YtheimfdbadjpoaaGreatDoor
open Go.ChangeShapes Go.WideShapes Go.ChangeAt Go.RowKit

theorem info_string : (Tryz.prog.info? 9).map (fun i => (i.zero, i.size, i.bytes)) = some (some (.string .empty), 1, 16) := by kernel_rfl
abbrev OwnStrs (w : World) (B : Nat) (v : Value) (ss : List ByteArray) : Prop := Own w B 9 v (ss.map Value.string)
theorem app_str (wr w0 : World) (B : Nat) {ops : Array Oper} {rest : List Oper} {o : Oper} {a : Act} {Q : Exit → Act → World → Prop}
    (hg : o.guard = none) (s x : Operand) (ho : o.op = .call { callee := .builtin .append, args := #[s, x], argTypes := #[35, 35] })
    (v : Value) (zs : List ByteArray) (z : ByteArray) (hs : a.eval s = v) (hown : OwnStrs wr B v zs) (hx : a.eval x = .slice (some ⟨wr.heap.size, 0, none⟩) 1 1)
    (hn : zs.length < 1000000000000) (hB : B = w0.heap.size) (hb : Below B w0 wr)
    (K : ∀ v' w', OwnStrs w' B v' (zs ++ [z]) → Below B w0 w' → AppStep wr w' v v' → wpList Tryz.prog ops Q rest (a.put o.dst v') w') :
    wpList Tryz.prog ops Q (o :: rest) a (wr.alloc (.cells #[.string z] 9)) :=
  wpList_app1 wr w0 B hg s x 35 ho 9 (.string .empty) 16 Tryz.underlying35 info_string rfl (by decide) v _ (.string z) hs hown hx rfl (by simpa using hn) hB hb
    (fun v' w' h1 h2 h3 => K v' w' (by simpa [OwnStrs] using h1) h2 h3)
theorem OwnStrs.slice {w : World} {B : Nat} {v : Value} {ss : List ByteArray} (h : OwnStrs w B v ss) (hwf : ∀ z ∈ ss, z.size ≤ maxLen) : ∃ a cap, v = .slice a ss.length cap ∧ StrsAt w a ss.length cap ss := by
  obtain ⟨a, cap, hv, hr⟩ := Own.slice h
  rw [List.length_map] at hv hr
  refine ⟨a, cap, hv, rfl, ⟨hr.le, hr.cap, fun hn => ?_⟩, hwf⟩
  obtain ⟨b, off, ha, hc⟩ := hr.at_ hn
  exact ⟨b, off, ha, fun j hj => by rw [hc j hj]; simp [List.getD, hj]⟩
end Go.Proofs.YtheimfdbadjpoaaGreatDoor

namespace Go.Proofs.YtheimfdbadjpoaaGreatDoor
open Go.ChangeShapes Go.WideShapes Go.ChangeAt Go.RowKit

def szAt (ss : List ByteArray) (j : Nat) : Nat := (ss.getD j ByteArray.empty).size
def chk (ss : List ByteArray) : Nat :=
  if ss.length = 0 then 5 else if 16 < ss.length then 4 else if szAt ss 0 < 1 ∨ 8 < szAt ss 0 then 1 else if ∃ j, j < ss.length ∧ szAt ss j ≠ szAt ss 0 then 3 else 0
structure ChkOk (ss : List ByteArray) : Prop where
  pos : 1 ≤ ss.length
  most : ss.length ≤ 16
  one : 1 ≤ szAt ss 0
  eight : szAt ss 0 ≤ 8
  all : ∀ j, j < ss.length → szAt ss j = szAt ss 0
theorem chk_ok {ss : List ByteArray} (h : chk ss = 0) : ChkOk ss := by
  unfold chk at h
  repeat' split at h
  all_goals first | omega | skip
  rename_i h1 h2 h3 h4
  exact ⟨by omega, by omega, by omega, by omega, fun j hj => Classical.byContradiction fun hne => h4 ⟨j, hj, hne⟩⟩
theorem chk_of {ss : List ByteArray} (h : ChkOk ss) : chk ss = 0 := by
  obtain ⟨h1, h2, h3, h4, h5⟩ := h
  unfold chk
  rw [if_neg (by omega), if_neg (by omega), if_neg (by omega), if_neg (by rintro ⟨j, hj, hne⟩; exact hne (h5 j hj))]

theorem size_yes (n : Int) (w : World) (h0 : 1 ≤ n) (h1 : n ≤ 8) :
    Calls Tryz.prog 44 #[.int .i64 n] w fun e w' => e = .returned (.bool true) ∧ w = w' := by
  have hd : decide (n ≤ 8) = true := decide_eq_true (by omega)
  go_enter Tryz.func44, Tryz.ntmps44
  go_wp2
  go_ret
  exact ⟨rfl, rfl⟩
theorem size_no (n : Int) (w : World) (h : n < 1 ∨ 8 < n) :
    Calls Tryz.prog 44 #[.int .i64 n] w fun e w' => e = .returned (.bool false) ∧ w = w' := by
  have hc : decide (1 ≤ n) = false ∨ (decide (1 ≤ n) = true ∧ decide (n ≤ 8) = false) := by
    by_cases h : 1 ≤ n
    · exact .inr ⟨decide_eq_true h, decide_eq_false (by omega)⟩
    · exact .inl (decide_eq_false h)
  clear h
  rcases hc with h4 | ⟨h4, h5⟩
  all_goals
    go_enter Tryz.func44, Tryz.ntmps44
    go_wp2
    go_ret
    exact ⟨rfl, rfl⟩

theorem clos_any (b s0 : ByteArray) (g bb o n cap : Nat) (w : World) (hp : w.cell? ⟨g, 0, none⟩ = some (.slice (some ⟨bb, o, none⟩) n cap)) (hn : 1 ≤ n) (hc : w.cell? ⟨bb, o, none⟩ = some (.string s0)) :
    Calls Tryz.prog 97 #[.string b, .pointer (some ⟨g, 0, none⟩)] w fun e w' => e = .returned (.bool ((b.size : Int) != (s0.size : Int))) ∧ w = w' := by
  have h0 : (0 : Int) < (n : Int) := by omega
  go_enter Tryz.func97, Tryz.ntmps97
  go_wp2
  go_ret
  exact ⟨rfl, rfl⟩

theorem szAt_zero {w : World} {bb o : Nat} {ss : List ByteArray} (h : w.cell? ⟨bb, o + 0, none⟩ = some (.string (ss.getD 0 ByteArray.empty))) : w.cell? ⟨bb, o, none⟩ = some (.string (ss.getD 0 ByteArray.empty)) := h

set_option maxHeartbeats 400000 in
theorem indexFunc_none (g bb o n cap : Nat) (ss : List ByteArray) (w : World) (hp : w.cell? ⟨g, 0, none⟩ = some (.slice (some ⟨bb, o, none⟩) n cap)) (hn : 1 ≤ n) (hm : n ≤ 1000000000000)
    (hc : ∀ j, j < n → w.cell? ⟨bb, o + j, none⟩ = some (.string (ss.getD j ByteArray.empty))) (hall : ∀ j, j < n → szAt ss j = szAt ss 0) :
    Calls Tryz.prog 137 #[.slice (some ⟨bb, o, none⟩) n cap, .func (.func 97) #[] #[.pointer (some ⟨g, 0, none⟩)]] w fun e w' => e = .returned (.int .i64 (-1)) ∧ w = w' := by
  have HC := Lib.hid hc; have HA := Lib.hid hall; clear hc hall
  go_enter Tryz.func137, Tryz.ntmps137
  go_wp2
  go_loop [8] (fun i => ∃ k : Nat, k ≤ n ∧ i = .int .i64 k) (fun i => n - (intOf i).toNat)
  case atStart => exact ⟨0, Nat.zero_le _, rfl⟩
  case round =>
    obtain ⟨k, hk, rfl⟩ := hrel
    by_cases hlt : k < n
    · have c1 := HC.out k hlt
      have ht : (((ss.getD k ByteArray.empty).size : Int) != ((ss.getD 0 ByteArray.empty).size : Int)) = false := by
        have := HA.out k hlt
        unfold szAt at this
        rw [bne_eq_false_iff_eq]; omega
      obtain ⟨s1, hs1⟩ : ∃ s, s = ss.getD k ByteArray.empty := ⟨_, rfl⟩
      rw [← hs1] at c1 ht
      clear hs1
      go_wp2_with (go_at_call 97; refine (clos_any s1 (ss.getD 0 ByteArray.empty) g bb o n cap _ hp hn (HC.out 0 hn)).mono ?_; rw [ht]; rintro e w' ⟨rfl, rfl⟩)
      go_round
      case rel => exact ⟨k + 1, by omega, by go_num⟩
      case measure => simp [intOf]; omega
    · go_wp2
      go_ret
      exact ⟨rfl, rfl⟩

set_option maxHeartbeats 400000 in
theorem indexFunc_some (g bb o n cap : Nat) (ss : List ByteArray) (w : World) (hp : w.cell? ⟨g, 0, none⟩ = some (.slice (some ⟨bb, o, none⟩) n cap)) (hn : 1 ≤ n) (hm : n ≤ 1000000000000)
    (hc : ∀ j, j < n → w.cell? ⟨bb, o + j, none⟩ = some (.string (ss.getD j ByteArray.empty))) (j0 : Nat) (hj0 : j0 < n) (hbad : szAt ss j0 ≠ szAt ss 0) :
    Calls Tryz.prog 137 #[.slice (some ⟨bb, o, none⟩) n cap, .func (.func 97) #[] #[.pointer (some ⟨g, 0, none⟩)]] w fun e w' => (∃ k : Nat, e = .returned (.int .i64 k)) ∧ w = w' := by
  have HC := Lib.hid hc; have HA := Lib.hid hbad; clear hc hbad
  go_enter Tryz.func137, Tryz.ntmps137
  go_wp2
  go_loop [8] (fun i => ∃ k : Nat, k ≤ j0 ∧ i = .int .i64 k) (fun i => n - (intOf i).toNat)
  case atStart => exact ⟨0, Nat.zero_le _, rfl⟩
  case round =>
    obtain ⟨k, hk, rfl⟩ := hrel
    have hlt : k < n := by omega
    have c1 := HC.out k hlt
    by_cases heq : szAt ss k = szAt ss 0
    · have hkj : k ≠ j0 := fun e => HA.out (e ▸ heq)
      have ht : (((ss.getD k ByteArray.empty).size : Int) != ((ss.getD 0 ByteArray.empty).size : Int)) = false := by
        unfold szAt at heq
        rw [bne_eq_false_iff_eq]; omega
      obtain ⟨s1, hs1⟩ : ∃ s, s = ss.getD k ByteArray.empty := ⟨_, rfl⟩
      rw [← hs1] at c1 ht
      clear hs1 heq
      go_wp2_with (go_at_call 97; refine (clos_any s1 (ss.getD 0 ByteArray.empty) g bb o n cap _ hp hn (HC.out 0 hn)).mono ?_; rw [ht]; rintro e w' ⟨rfl, rfl⟩)
      go_round
      case rel => exact ⟨k + 1, by omega, by go_num⟩
      case measure => simp [intOf]; omega
    · have ht : (((ss.getD k ByteArray.empty).size : Int) != ((ss.getD 0 ByteArray.empty).size : Int)) = true := by
        unfold szAt at heq
        rw [bne_iff_ne]; omega
      obtain ⟨s1, hs1⟩ : ∃ s, s = ss.getD k ByteArray.empty := ⟨_, rfl⟩
      rw [← hs1] at c1 ht
      clear hs1 heq
      go_wp2_with (go_at_call 97; refine (clos_any s1 (ss.getD 0 ByteArray.empty) g bb o n cap _ hp hn (HC.out 0 hn)).mono ?_; rw [ht]; rintro e w' ⟨rfl, rfl⟩)
      go_ret
      exact ⟨⟨k, rfl⟩, rfl⟩

theorem contains_none (g bb o n cap : Nat) (ss : List ByteArray) (w : World) (hp : w.cell? ⟨g, 0, none⟩ = some (.slice (some ⟨bb, o, none⟩) n cap)) (hn : 1 ≤ n) (hm : n ≤ 1000000000000)
    (hc : ∀ j, j < n → w.cell? ⟨bb, o + j, none⟩ = some (.string (ss.getD j ByteArray.empty))) (hall : ∀ j, j < n → szAt ss j = szAt ss 0) :
    Calls Tryz.prog 96 #[.slice (some ⟨bb, o, none⟩) n cap, .func (.func 97) #[] #[.pointer (some ⟨g, 0, none⟩)]] w fun e w' => e = .returned (.bool false) ∧ w = w' := by
  have HC := Lib.hid hc; have HA := Lib.hid hall; clear hc hall
  go_enter Tryz.func96, Tryz.ntmps96
  go_wp2_with (go_at_call 137; refine (indexFunc_none g bb o n cap ss _ hp hn hm HC.out HA.out).mono ?_; rintro e w' ⟨rfl, rfl⟩)
  go_ret
  exact ⟨rfl, rfl⟩
theorem contains_some (g bb o n cap : Nat) (ss : List ByteArray) (w : World) (hp : w.cell? ⟨g, 0, none⟩ = some (.slice (some ⟨bb, o, none⟩) n cap)) (hn : 1 ≤ n) (hm : n ≤ 1000000000000)
    (hc : ∀ j, j < n → w.cell? ⟨bb, o + j, none⟩ = some (.string (ss.getD j ByteArray.empty))) (j0 : Nat) (hj0 : j0 < n) (hbad : szAt ss j0 ≠ szAt ss 0) :
    Calls Tryz.prog 96 #[.slice (some ⟨bb, o, none⟩) n cap, .func (.func 97) #[] #[.pointer (some ⟨g, 0, none⟩)]] w fun e w' => e = .returned (.bool true) ∧ w = w' := by
  have HC := Lib.hid hc; have HA := Lib.hid hbad; clear hc hbad
  go_enter Tryz.func96, Tryz.ntmps96
  go_wp2_with (go_at_call 137; refine (indexFunc_some g bb o n cap ss _ hp hn hm HC.out j0 hj0 HA.out).mono ?_; rintro e w' ⟨⟨k, rfl⟩, rfl⟩)
  go_ret
  exact ⟨rfl, rfl⟩

set_option maxHeartbeats 400000 in
theorem check_ok (a : Option Addr) (n cap : Nat) (ss : List ByteArray) (w : World) (h : StrsAt w a n cap ss) (hok : chk ss = 0) :
    Calls Tryz.prog 48 #[.slice a n cap] w fun e w' => e = .returned .nilIface ∧ Lat w w' := by
  obtain ⟨h1, h2, h3, h4, h5⟩ := chk_ok hok
  have hl := h.len
  obtain ⟨bb, o, rfl, hc⟩ := h.row.at_ (by omega)
  have HC := Lib.hid hc
  have c0 : w.cell? ⟨bb, o, none⟩ = some (.string (ss.getD 0 ByteArray.empty)) := hc 0 (by omega)
  have hb := World.block_lt_of_cell? _ _ c0
  have hn1 : 1 ≤ n := by omega
  have hn2 : n ≤ 16 := by omega
  have HA := Lib.hid h5
  have HL := Lib.hid hl
  obtain ⟨s0, hs0⟩ : ∃ s, s = ss.getD 0 ByteArray.empty := ⟨_, rfl⟩
  have q1 : 1 ≤ s0.size := by rw [hs0]; exact h3
  have q2 : s0.size ≤ 8 := by rw [hs0]; exact h4
  rw [← hs0] at c0
  clear hc h5 hl h hok hs0 h3 h4 h1 h2
  have d1 : ((n : Int) == 0) = false := by simp; omega
  have d2 : decide (16 < (n : Int)) = false := decide_eq_false (by omega)
  have dp : (0 : Int) < (n : Int) := by omega
  have c0' := (Lat.alloc w (.cells #[.slice (some ⟨bb, o, none⟩) n cap] 35)).cell_at c0
  have HB := Lib.hid hb; clear hb
  go_enter Tryz.func48, Tryz.ntmps48
  go_wp2_with (first | (go_at_call 44; refine (size_yes _ _ (by omega) (by omega)).mono ?_; rintro e w' ⟨rfl, rfl⟩) | (go_at_call 96; refine (contains_none w.heap.size bb o n cap ss _ ?h1 hn1 (by omega) ?h2 ?h3).mono ?_; rotate_right; rintro e w' ⟨rfl, rfl⟩))
  case h1 => simp
  case h2 => intro j hj; exact (Lat.alloc _ _).cell_at (HC.out j hj)
  case h3 => intro j hj; exact HA.out j (by rw [HL.out]; exact hj)
  go_wp2
  go_ret
  exact ⟨rfl, (Below.refl _ _).alloc (Nat.le_refl _) _⟩

theorem check_none (a : Option Addr) (cap : Nat) (w : World) :
    Calls Tryz.prog 48 #[.slice a 0 cap] w fun e w' => e = .returned (eno 5) ∧ Lat w w' := by
  go_enter Tryz.func48, Tryz.ntmps48
  go_wp2
  go_ret
  exact ⟨rfl, (Below.refl _ _).alloc (Nat.le_refl _) _⟩
theorem check_full (a : Option Addr) (n cap : Nat) (w : World) (h : 16 < n) :
    Calls Tryz.prog 48 #[.slice a n cap] w fun e w' => e = .returned (eno 4) ∧ Lat w w' := by
  have d1 : ((n : Int) == 0) = false := by simp; omega
  have d2 : decide (16 < (n : Int)) = true := decide_eq_true (by omega)
  go_enter Tryz.func48, Tryz.ntmps48
  go_wp2
  go_ret
  exact ⟨rfl, (Below.refl _ _).alloc (Nat.le_refl _) _⟩
theorem check_range (a : Option Addr) (n cap : Nat) (ss : List ByteArray) (w : World) (h : StrsAt w a n cap ss) (h1 : 1 ≤ n) (h2 : n ≤ 16) (h3 : szAt ss 0 < 1 ∨ 8 < szAt ss 0) :
    Calls Tryz.prog 48 #[.slice a n cap] w fun e w' => e = .returned (eno 1) ∧ Lat w w' := by
  obtain ⟨bb, o, rfl, hc⟩ := h.row.at_ (by omega)
  have c0 : w.cell? ⟨bb, o, none⟩ = some (.string (ss.getD 0 ByteArray.empty)) := hc 0 (by omega)
  obtain ⟨s0, hs0⟩ : ∃ s, s = ss.getD 0 ByteArray.empty := ⟨_, rfl⟩
  have q1 : (s0.size : Int) < 1 ∨ 8 < (s0.size : Int) := by rw [hs0]; unfold szAt at h3; omega
  rw [← hs0] at c0
  have c0' := (Lat.alloc w (.cells #[.slice (some ⟨bb, o, none⟩) n cap] 35)).cell_at c0
  clear hc h hs0 h3
  have d1 : ((n : Int) == 0) = false := by simp; omega
  have d2 : decide (16 < (n : Int)) = false := decide_eq_false (by omega)
  have dp : (0 : Int) < (n : Int) := by omega
  go_enter Tryz.func48, Tryz.ntmps48
  go_wp2_with (go_at_call 44; refine (size_no _ _ q1).mono ?_; rintro e w' ⟨rfl, rfl⟩)
  go_ret
  exact ⟨rfl, (Below.refl _ _).alloc (Nat.le_refl _) _⟩
set_option maxHeartbeats 400000 in
theorem check_shape (a : Option Addr) (n cap : Nat) (ss : List ByteArray) (w : World) (h : StrsAt w a n cap ss) (h1 : 1 ≤ n) (h2 : n ≤ 16) (h3 : 1 ≤ szAt ss 0) (h4 : szAt ss 0 ≤ 8)
    (j0 : Nat) (hj0 : j0 < n) (hbad : szAt ss j0 ≠ szAt ss 0) :
    Calls Tryz.prog 48 #[.slice a n cap] w fun e w' => e = .returned (eno 3) ∧ Lat w w' := by
  obtain ⟨bb, o, rfl, hc⟩ := h.row.at_ (by omega)
  have HC := Lib.hid hc
  have c0 : w.cell? ⟨bb, o, none⟩ = some (.string (ss.getD 0 ByteArray.empty)) := hc 0 (by omega)
  have HA := Lib.hid hbad
  obtain ⟨s0, hs0⟩ : ∃ s, s = ss.getD 0 ByteArray.empty := ⟨_, rfl⟩
  have q1 : 1 ≤ s0.size := by rw [hs0]; exact h3
  have q2 : s0.size ≤ 8 := by rw [hs0]; exact h4
  rw [← hs0] at c0
  clear hc h hs0 h3 h4 hbad
  have d1 : ((n : Int) == 0) = false := by simp; omega
  have d2 : decide (16 < (n : Int)) = false := decide_eq_false (by omega)
  have dp : (0 : Int) < (n : Int) := by omega
  have c0' := (Lat.alloc w (.cells #[.slice (some ⟨bb, o, none⟩) n cap] 35)).cell_at c0
  go_enter Tryz.func48, Tryz.ntmps48
  go_wp2_with (first | (go_at_call 44; refine (size_yes _ _ (by omega) (by omega)).mono ?_; rintro e w' ⟨rfl, rfl⟩) | (go_at_call 96; refine (contains_some w.heap.size bb o n cap ss _ ?h1 h1 (by omega) ?h2 j0 hj0 HA.out).mono ?_; rotate_right; rintro e w' ⟨rfl, rfl⟩))
  case h1 => simp
  case h2 => intro j hj; exact (Lat.alloc _ _).cell_at (HC.out j hj)
  go_wp2
  go_ret
  exact ⟨rfl, (Below.refl _ _).alloc (Nat.le_refl _) _⟩
theorem check_bad (a : Option Addr) (n cap : Nat) (ss : List ByteArray) (w : World) (h : StrsAt w a n cap ss) (hb : chk ss ≠ 0) :
    Calls Tryz.prog 48 #[.slice a n cap] w fun e w' => e = .returned (eno (chk ss)) ∧ Lat w w' := by
  have hl := h.len
  unfold chk at hb ⊢
  rw [hl] at hb ⊢
  by_cases h1 : n = 0
  · subst h1
    exact check_none a cap w
  rw [if_neg h1] at hb ⊢
  by_cases h2 : 16 < n
  · rw [if_pos h2]; exact check_full a n cap w h2
  rw [if_neg h2] at hb ⊢
  by_cases h3 : szAt ss 0 < 1 ∨ 8 < szAt ss 0
  · rw [if_pos h3]; exact check_range a n cap ss w h (by omega) (by omega) h3
  rw [if_neg h3] at hb ⊢
  by_cases h4 : ∃ j, j < n ∧ szAt ss j ≠ szAt ss 0
  · rw [if_pos h4]
    obtain ⟨j, hj, hne⟩ := h4
    exact check_shape a n cap ss w h (by omega) (by omega) (by omega) (by omega) j hj hne
  · rw [if_neg h4] at hb
    exact absurd rfl hb
end Go.Proofs.YtheimfdbadjpoaaGreatDoor

namespace Go.Proofs.YtheimfdbadjpoaaGreatDoor
open Go.ChangeShapes Go.WideShapes Go.ChangeAt Go.RowKit

def bt (s : ByteArray) (j : Nat) : Nat := (s.data.toList.getD j 0).toNat
theorem bt_lt (s : ByteArray) (j : Nat) : bt s j < 256 := (s.data.toList.getD j 0).toNat_lt
theorem bt_get (s : ByteArray) (j : Nat) (h : j < s.size) : s[j].toNat = bt s j := by
  have hs : j < s.data.toList.length := by simpa using h
  unfold bt
  rw [List.getD_eq_getElem?_getD, List.getElem?_eq_getElem hs]
  rfl
theorem wpList_conv_bytes {P : Program} (w : World) {ops : Array Oper} {rest : List Oper} {o : Oper} {a : Act} {Q : Exit → Act → World → Prop}
    (hg : o.guard = none) (x : Operand) (src dst e : TypeId) (hop : o.op = Op.convert src dst x) {u : TypeDesc}
    (hs : P.underlying src = some u) (hd : P.underlying dst = some (.slice e)) (he : P.underlying e = some (.int .u8)) (s : ByteArray) (hx : a.eval x = .string s)
    (hK : ∀ (g cap : Nat) w', g = w.heap.size → s.size ≤ cap → Below w.heap.size w w' → w'.heap.size = w.heap.size + 1 →
      (∀ j, j < s.size → w'.cell? ⟨g, j, none⟩ = some (.int .u8 (bt s j))) → (∀ j, j < s.size → w'.frozen? ⟨g, j, none⟩ = false) →
      wpList P ops Q rest (a.put o.dst (.slice (some ⟨g, 0, none⟩) s.size cap)) w') :
    wpList P ops Q (o :: rest) a w := by
  refine wpList_plain hg fun K hK' => ?_
  unfold Oper.wp
  have hrun := Lib.run_convert_string_bytes (P := P) w src dst e s hs hd he
  simp [execOp, hop, hx, hrun, Result.andThen]
  have hcap : s.size ≤ grownCap w s.size 0 e := grownCap_ge w s.size 0 e
  refine hK' _ _ (hK w.heap.size _ _ rfl hcap ⟨rfl, rfl, rfl, ?_, fun k hk => Lib.bytesWorld_at_old w e s k hk⟩ (Lib.bytesWorld_size w e s) ?_ ?_)
  · rw [Lib.bytesWorld_size]; omega
  · intro j hj; exact Lib.bytesWorld_cell w e s j hj
  · intro j hj
    have h1 : s.size ≤ (Lib.bytesCells w e s).size := by
      unfold Lib.bytesCells; rw [Array.size_append, Array.size_map]; exact Nat.le_add_right _ _
    simp [World.frozen?, Lib.bytesWorld_at_new]
    omega
def strF (n : Nat) (F : Nat → Nat) : ByteArray := ⟨((List.range n).map fun j => UInt8.ofNat (F j)).toArray⟩
theorem run_conv_str {P : Program} (w : World) (src e dst : TypeId) (hs : P.underlying src = some (.slice e)) (he : P.underlying e = some (.int .u8)) (hd : P.underlying dst = some .string) (b off n cap : Nat) (F : Nat → Nat)
    (hc : ∀ j, j < n → w.cell? ⟨b, off + j, none⟩ = some (.int .u8 (F j))) : (convert src dst (.slice (some ⟨b, off, none⟩) n cap)).run P w = .ok (.string (strF n F)) w := by
  have := run_convert_bytes_arg (P := P) w src e hs he b off n cap ((List.range n).map fun j => (F j : Int)) (by simp) (fun i hi => by rw [hc i hi]; simp [hi]) dst hd
  rw [this]
  simp [strOfNums, strF, List.map_map, Function.comp_def]
theorem info_u8 : (Tryz.prog.info? 5).map (fun i => (i.zero, i.size, i.bytes)) = some (some (.int .u8 0), 1, 1) := by kernel_rfl
abbrev OwnBytes (w : World) (B : Nat) (v : Value) (bs : List UInt8) : Prop := Own w B 5 v (bs.map fun x => Value.int .u8 x.toNat)
theorem app_u8 (wr w0 : World) (B : Nat) {ops : Array Oper} {rest : List Oper} {o : Oper} {a : Act} {Q : Exit → Act → World → Prop}
    (hg : o.guard = none) (s x : Operand) (ho : o.op = .call { callee := .builtin .append, args := #[s, x], argTypes := #[89, 89] })
    (v : Value) (bs : List UInt8) (z : Nat) (hs : a.eval s = v) (hown : OwnBytes wr B v bs) (hx : a.eval x = .slice (some ⟨wr.heap.size, 0, none⟩) 1 1)
    (hz : z < 256) (hn : bs.length < 1000000000000) (hB : B = w0.heap.size) (hb : Below B w0 wr)
    (K : ∀ v' w', OwnBytes w' B v' (bs ++ [UInt8.ofNat z]) → Below B w0 w' → AppStep wr w' v v' → wpList Tryz.prog ops Q rest (a.put o.dst v') w') :
    wpList Tryz.prog ops Q (o :: rest) a (wr.alloc (.cells #[.int .u8 z] 5)) :=
  wpList_app1 wr w0 B hg s x 89 ho 5 (.int .u8 0) 1 Tryz.underlying89 info_u8 rfl (by decide) v _ (.int .u8 z) hs hown hx rfl (by simpa using hn) hB hb
    (fun v' w' h1 h2 h3 => K v' w' (by
      have e : (UInt8.ofNat z).toNat = z := by rw [UInt8.toNat_ofNat']; exact Nat.mod_eq_of_lt hz
      unfold OwnBytes
      rw [List.map_append, List.map_cons, List.map_nil, e]; exact h1) h2 h3)
theorem strF_bytes (bs : List UInt8) : strF bs.length (fun j => (bs.getD j 0).toNat) = S bs := by
  unfold strF S
  congr 2
  apply List.ext_getElem
  · simp
  · intro j h1 h2
    simp only [List.getElem_map, List.getElem_range]
    rw [List.getD_eq_getElem?_getD, List.getElem?_eq_getElem h2]
    exact UInt8.ofNat_toNat
theorem conv_own {w : World} {B : Nat} {v : Value} {bs : List UInt8} (h : OwnBytes w B v bs) : (convert 89 9 v).run Tryz.prog w = .ok (.string (S bs)) w := by
  have h0 := h
  obtain ⟨hl, hor⟩ := h
  rcases hor with ⟨rfl, hz⟩ | ⟨g, cap, cur, rfl, hg, hh, hn, hc, hs, ht⟩
  · have e : bs = [] := by simpa using hz
    subst e
    exact run_convert_bytes_nil (P := Tryz.prog) w 89 5 Tryz.underlying89 Tryz.underlying5 0 0 9 Tryz.underlying9
  · rw [List.length_map] at *
    have hc2 := run_conv_str (P := Tryz.prog) w 89 5 9 Tryz.underlying89 Tryz.underlying5 Tryz.underlying9 g 0 bs.length cap (fun j => (bs.getD j 0).toNat) (fun j hj => by
      have := World.ownsRow.cells h0 (g := g) rfl j (.int .u8 (bs.getD j 0).toNat) (by simp [List.getD, hj])
      rw [Addr.add_lit] at this
      exact this)
    rw [hc2, strF_bytes]

theorem Own.new (w : World) (B : Nat) (e : TypeId) (xs : Array Value) (hB : B ≤ w.heap.size) (hm : xs.size ≤ 1000) : Own (w.alloc (.cells xs e)) B e (.slice (some ⟨w.heap.size, 0, none⟩) xs.size xs.size) xs.toList := by
  refine ⟨by simp, .inr ⟨w.heap.size, xs.size, xs, by simp, hB, ?_, by simp, by unfold maxLen; omega, by simp, by rw [List.take_of_length_le (by simp)]⟩⟩
  exact (heap_alloc_new w _)
end Go.Proofs.YtheimfdbadjpoaaGreatDoor

namespace Go.Proofs.YtheimfdbadjpoaaGreatDoor
open Go.ChangeShapes Go.WideShapes Go.ChangeAt Go.RowKit
def ovr (a b : ByteArray) (k j : Nat) : Nat := if j < k then bt a j ^^^ bt b j else bt a j
theorem ovr_lt (a b : ByteArray) (k j : Nat) : ovr a b k j < 256 := by
  unfold ovr; split
  · exact Nat.xor_lt_two_pow (n := 8) (bt_lt a j) (bt_lt b j)
  · exact bt_lt a j
theorem ovr_step {a b : ByteArray} {w wr : World} {g k : Nat} (hk : k < a.size) (hkb : k < b.size) (hg : w.heap.size ≤ g)
    (h : Lat w wr ∧ g < wr.heap.size ∧ (∀ j, j < a.size → wr.cell? ⟨g, j, none⟩ = some (.int .u8 (ovr a b k j))) ∧ (∀ j, j < a.size → wr.frozen? ⟨g, j, none⟩ = false)) :
    Lat w (wr.setCell ⟨g, k, none⟩ (.int .u8 (bits .xor .u8 (ovr a b k k) b[k].toNat))).drew ∧ g < (wr.setCell ⟨g, k, none⟩ (.int .u8 (bits .xor .u8 (ovr a b k k) b[k].toNat))).drew.heap.size ∧
      (∀ j, j < a.size → (wr.setCell ⟨g, k, none⟩ (.int .u8 (bits .xor .u8 (ovr a b k k) b[k].toNat))).drew.cell? ⟨g, j, none⟩ = some (.int .u8 (ovr a b (k + 1) j))) ∧
      (∀ j, j < a.size → (wr.setCell ⟨g, k, none⟩ (.int .u8 (bits .xor .u8 (ovr a b k k) b[k].toNat))).drew.frozen? ⟨g, j, none⟩ = false) := by
  obtain ⟨h1, h2, h3, h4⟩ := h
  have e : bits .xor .u8 (ovr a b k k) b[k].toNat = ((ovr a b (k + 1) k : Nat) : Int) := by
    rw [bt_get b k hkb, u8_xor_nat _ _ (ovr_lt _ _ _ _) (bt_lt _ _)]
    simp [ovr]
  rw [e]
  refine ⟨(Below.setCell h1 hg _).drew, by simpa [World.setCell] using h2, fun j hj => ?_, fun j hj => ?_⟩
  · show (wr.setCell _ _).cell? _ = _
    by_cases hjk : j = k
    · subst hjk; exact World.cell?_setCell_same _ _ _ (h3 j hj)
    · rw [World.cell?_setCell_other _ _ _ _ (by first | (simp; done) | (simp; omega)), h3 j hj]
      have : (j < k + 1) = (j < k) := by apply propext; omega
      simp [ovr, this]
  · show (wr.setCell _ _).frozen? _ = _
    rw [World.frozen?_setCell]; exact h4 j hj
theorem strF_ovr (a b : ByteArray) (hab : a.size = b.size) : strF a.size (ovr a b a.size) = ⟨(xorL a.data.toList b.data.toList).toArray⟩ := by
  unfold strF xorL
  have ha : a.data.toList.length = a.size := by simp
  have hb : b.data.toList.length = a.size := by rw [hab]; simp
  congr 2
  apply List.ext_getElem
  · simp [ha, hb]
  · intro j h1 h2
    have hj : j < a.size := by simpa using h1
    simp only [List.getElem_map, List.getElem_range, List.getElem_zipWith]
    unfold ovr bt
    rw [if_pos hj, List.getD_eq_getElem?_getD, List.getD_eq_getElem?_getD, List.getElem?_eq_getElem (by omega), List.getElem?_eq_getElem (by omega)]
    simp only [Option.getD_some]
    apply UInt8.toNat_inj.1
    rw [UInt8.toNat_ofNat', UInt8.toNat_xor]
    exact Nat.mod_eq_of_lt (Nat.xor_lt_two_pow (n := 8) (UInt8.toNat_lt _) (UInt8.toNat_lt _))
set_option maxHeartbeats 400000 in
set_option maxRecDepth 100000 in
theorem over_any (a b : ByteArray) (w : World) (hab : a.size = b.size) (ha : a.size ≤ maxLen) :
    Calls Tryz.prog 99 #[.string a, .string b] w fun e w' => e = .returned (.string ⟨(xorL a.data.toList b.data.toList).toArray⟩) ∧ Lat w w' := by
  have hm : a.size ≤ 9223372036854775807 := by unfold maxLen at ha; omega
  have HAB := Lib.hid hab; clear hab
  go_enter Tryz.func99, Tryz.ntmps99
  go_wp2_with (refine wpList_conv_bytes _ rfl _ _ _ 5 rfl Tryz.underlying9 Tryz.underlying89 Tryz.underlying5 _ rfl ?_)
  intro g cap w1 hg hcap hb hsz hcell hfr
  have HG := Lib.hid hg; clear hg
  have HS := Lib.hid hsz; clear hsz
  have HC := Lib.hid hcell; clear hcell
  have HF := Lib.hid hfr; clear hfr
  go_wp2
  go_loopw [6, 11] (fun _ i wr => ∃ k : Nat, k ≤ a.size ∧ i = .int .i64 k ∧ Hid (Lat w wr ∧ g < wr.heap.size ∧ (∀ j, j < a.size → wr.cell? ⟨g, j, none⟩ = some (.int .u8 (ovr a b k j))) ∧ (∀ j, j < a.size → wr.frozen? ⟨g, j, none⟩ = false)))
    (fun _ i _ => a.size - (intOf i).toNat)
  case atStart => exact ⟨0, Nat.zero_le _, rfl, hb, by rw [HG.out, HS.out]; omega, fun j hj => by rw [HC.out j hj]; simp [ovr], HF.out⟩
  case round =>
    obtain ⟨k, hk, rfl, hrel⟩ := hrel
    by_cases hlt : k < a.size
    · have c1 := hrel.out.2.2.1 k hlt
      have f1 := hrel.out.2.2.2 k hlt
      have hbk : k < b.size := by rw [← HAB.out]; exact hlt
      go_wp2
      go_region
      go_wp2
      go_roundw
      case rel =>
        refine ⟨k + 1, by omega, by go_num, ?_⟩
        exact ovr_step hlt hbk (Nat.le_of_eq HG.out.symm) hrel.out
      case measure => simp [intOf]; omega
    · obtain rfl : k = a.size := by omega
      have hcv := run_conv_str (P := Tryz.prog) wr 89 5 9 Tryz.underlying89 Tryz.underlying5 Tryz.underlying9 g 0 a.size cap (ovr a b a.size) (fun j hj => by rw [Nat.zero_add]; exact hrel.out.2.2.1 j hj)
      go_wp2
      go_ret
      exact ⟨congrArg (fun s => Ending.returned (.string s)) (strF_ovr a b HAB.out), hrel.out.1⟩
end Go.Proofs.YtheimfdbadjpoaaGreatDoor

namespace Go.Proofs.YtheimfdbadjpoaaGreatDoor
open Go.ChangeShapes Go.WideShapes Go.ChangeAt Go.RowKit

structure Only (g : Nat) (w w' : World) : Prop where
  os : w'.os = w.os
  tape : w'.tape = w.tape
  output : w'.output = w.output
  size : w'.heap.size = w.heap.size
  block : ∀ k, k ≠ g → w'.heap[k]? = w.heap[k]?
theorem Only.refl (g : Nat) (w : World) : Only g w w := ⟨rfl, rfl, rfl, rfl, fun _ _ => rfl⟩
theorem Only.trans {g : Nat} {a b c : World} (h : Only g a b) (k : Only g b c) : Only g a c :=
  ⟨k.os.trans h.os, k.tape.trans h.tape, k.output.trans h.output, k.size.trans h.size, fun i hi => (k.block i hi).trans (h.block i hi)⟩
theorem Only.drewN {g : Nat} {a b : World} (h : Only g a b) (n : Nat) : Only g a (b.drewN n) := ⟨h.os, h.tape, h.output, h.size, h.block⟩
theorem Only.start (g : Nat) (w : World) (n : Nat) : Only g w (w.drewN n) := (Only.refl g w).drewN n
theorem Only.set (w : World) (p : Addr) (v : Value) : Only p.block w (w.setCell p v) :=
  ⟨rfl, rfl, rfl, by simp [World.setCell], fun k hk => Below.heap_setCell _ _ _ _ hk⟩
theorem Only.below {g B : Nat} {w w' : World} (h : Only g w w') (hB : B ≤ g) : Below B w w' := ⟨h.os, h.tape, h.output, Nat.le_of_eq h.size.symm, fun k hk => h.block k (by omega)⟩
theorem Only.lat {g : Nat} {w0 w w' : World} (h : Only g w w') (hl : Lat w0 w) (hg : w0.heap.size ≤ g) : Lat w0 w' := Below.trans hl (h.below hg)
theorem Only.cell {g : Nat} {w w' : World} (h : Only g w w') {p : Addr} (hp : p.block ≠ g) : w'.cell? p = w.cell? p := World.cell?_of_block (w := w) (h.block p.block hp)
theorem Only.frozen {g : Nat} {w w' : World} (h : Only g w w') {p : Addr} (hp : p.block ≠ g) : w'.frozen? p = w.frozen? p := World.frozen?_of_block (w := w) (h.block p.block hp)
theorem Own.only {g : Nat} {w w' : World} {B : Nat} {e : TypeId} {v : Value} {xs : List Value} (h : Own w B e v xs) (ho : Only g w w') (hg : g < B) : Own w' B e v xs := by
  obtain ⟨h1, h2⟩ := h
  refine ⟨h1, ?_⟩
  rcases h2 with h2 | ⟨k, cap, cur, rfl, hb, hh, rest⟩
  · exact .inl h2
  · exact .inr ⟨k, cap, cur, rfl, hb, by rw [ho.block k (by omega)]; exact hh, rest⟩
theorem IntsAt.only {g : Nat} {w w' : World} {a : Option Addr} {n cap : Nat} {zs : List Int} (h : IntsAt w a n cap zs) (ho : Only g w w') (hf : n ≠ 0 → ∀ b o, a = some ⟨b, o, none⟩ → b ≠ g) : IntsAt w' a n cap zs :=
  ⟨h.len, ⟨h.row.le, h.row.cap, fun hn => by
    obtain ⟨b, o, ha, hc⟩ := h.row.at_ hn
    exact ⟨b, o, ha, fun j hj => by rw [ho.cell (p := ⟨b, o + j, none⟩) (hf hn b o ha)]; exact hc j hj⟩⟩, h.wf⟩
theorem IntsAt.far {w : World} {a : Option Addr} {n cap : Nat} {zs : List Int} (h : IntsAt w a n cap zs) {g : Nat} (hg : w.heap.size ≤ g) : n ≠ 0 → ∀ b o, a = some ⟨b, o, none⟩ → b ≠ g := fun hn b o ha => by
  obtain ⟨b', o', ha', hc⟩ := h.row.at_ hn
  have := World.block_lt_of_cell? _ _ (hc 0 (by omega))
  rw [ha] at ha'
  injection ha' with ha'
  injection ha' with e1 _ _
  subst e1
  simp at this
  omega

structure Rd (w : World) (g : Nat) (a : Option Addr) (n cap p : Nat) (zs : List Int) : Prop where
  c0 : w.cell? ⟨g, 0, none⟩ = some (.slice a n cap)
  c1 : w.cell? ⟨g, 1, none⟩ = some (.int .i64 p)
  f1 : w.frozen? ⟨g, 1, none⟩ = false
  ints : IntsAt w a n cap zs
  far : n ≠ 0 → ∀ b o, a = some ⟨b, o, none⟩ → b ≠ g
  le : p ≤ n
theorem Rd.set {w : World} {g : Nat} {a : Option Addr} {n cap p : Nat} {zs : List Int} (h : Rd w g a n cap p zs) {q : Nat} {v : Int} (hq : q ≤ n) (hv : v = q) : Rd (w.setCell ⟨g, 1, none⟩ (.int .i64 v)) g a n cap q zs := by
  subst hv
  have hne : (⟨g, 1, none⟩ : Addr) ≠ ⟨g, 0, none⟩ := by simp
  refine ⟨?_, World.cell?_setCell_same _ _ _ h.c1, by rw [World.frozen?_setCell]; exact h.f1, h.ints.only (Only.set w ⟨g, 1, none⟩ _) h.far, h.far, hq⟩
  rw [World.cell?_setCell_other _ _ _ _ hne]; exact h.c0
theorem Rd.lt {w : World} {g : Nat} {a : Option Addr} {n cap p : Nat} {zs : List Int} (h : Rd w g a n cap p zs) : g < w.heap.size := World.block_lt_of_cell? _ _ h.c0
theorem Rd.keep {w w' : World} {g : Nat} {a : Option Addr} {n cap p : Nat} {zs : List Int} (h : Rd w g a n cap p zs) (hb : Lat w w') : Rd w' g a n cap p zs :=
  ⟨hb.cell_at h.c0, hb.cell_at h.c1, hb.free_at h.lt h.f1, h.ints.keep hb, h.far, h.le⟩

structure But (g : Nat) (w w' : World) : Prop where
  os : w'.os = w.os
  tape : w'.tape = w.tape
  output : w'.output = w.output
  size : w.heap.size ≤ w'.heap.size
  block : ∀ k, k < w.heap.size → k ≠ g → w'.heap[k]? = w.heap[k]?
theorem But.refl (g : Nat) (w : World) : But g w w := ⟨rfl, rfl, rfl, Nat.le_refl _, fun _ _ _ => rfl⟩
theorem But.trans {g : Nat} {a b c : World} (h : But g a b) (k : But g b c) : But g a c :=
  ⟨k.os.trans h.os, k.tape.trans h.tape, k.output.trans h.output, Nat.le_trans h.size k.size, fun i hi hg => (k.block i (Nat.lt_of_lt_of_le hi h.size) hg).trans (h.block i hi hg)⟩
theorem Only.but {g : Nat} {w w' : World} (h : Only g w w') : But g w w' := ⟨h.os, h.tape, h.output, Nat.le_of_eq h.size.symm, fun k _ hk => h.block k hk⟩
theorem But.of_lat {g : Nat} {w w' : World} (h : Lat w w') : But g w w' := ⟨h.os, h.tape, h.output, h.size, fun k hk _ => h.block k hk⟩
theorem But.below {g : Nat} {w w1 w2 : World} (h : But g w w1) (hb : Below w.heap.size w1 w2) : But g w w2 :=
  ⟨hb.os.trans h.os, hb.tape.trans h.tape, hb.output.trans h.output, Nat.le_trans h.size hb.size, fun k hk hg => (hb.block k hk).trans (h.block k hk hg)⟩
theorem But.lat {g : Nat} {w0 w w' : World} (h : But g w w') (hl : Lat w0 w) (hg : w0.heap.size ≤ g) : Lat w0 w' :=
  ⟨h.os.trans hl.os, h.tape.trans hl.tape, h.output.trans hl.output, Nat.le_trans hl.size h.size, fun k hk => (h.block k (Nat.lt_of_lt_of_le hk hl.size) (by omega)).trans (hl.block k hk)⟩
theorem But.cell_at {g : Nat} {w w' : World} (h : But g w w') {p : Addr} {v : Value} (hc : w.cell? p = some v) (hp : p.block ≠ g) : w'.cell? p = some v := by
  rw [World.cell?_of_block (w := w) (h.block p.block (World.block_lt_of_cell? _ _ hc) hp)]; exact hc
theorem IntsAt.but {g : Nat} {w w' : World} {a : Option Addr} {n cap : Nat} {zs : List Int} (h : IntsAt w a n cap zs) (ho : But g w w') (hf : n ≠ 0 → ∀ b o, a = some ⟨b, o, none⟩ → b ≠ g) : IntsAt w' a n cap zs :=
  ⟨h.len, ⟨h.row.le, h.row.cap, fun hn => by
    obtain ⟨b, o, ha, hc⟩ := h.row.at_ hn
    exact ⟨b, o, ha, fun j hj => ho.cell_at (hc j hj) (hf hn b o ha)⟩⟩, h.wf⟩
theorem Rd.below {w w1 w2 : World} {g : Nat} {a : Option Addr} {n cap p q : Nat} {zs : List Int} (h0 : Rd w g a n cap p zs) (h1 : Rd w1 g a n cap q zs) (ho : But g w w1) (hb : Below w.heap.size w1 w2) : Rd w2 g a n cap q zs := by
  have hl := h0.lt
  exact ⟨by rw [hb.cell hl]; exact h1.c0, by rw [hb.cell hl]; exact h1.c1, by rw [hb.frozen hl]; exact h1.f1, h0.ints.but (ho.below hb) h0.far, h0.far, h1.le⟩

theorem app_intB (wr : World) (B : Nat) {ops : Array Oper} {rest : List Oper} {o : Oper} {a : Act} {Q : Exit → Act → World → Prop}
    (hg : o.guard = none) (s x : Operand) (ho : o.op = .call { callee := .builtin .append, args := #[s, x], argTypes := #[23, 23] })
    (v : Value) (zs : List Int) (z : Int) (hs : a.eval s = v) (hown : OwnInts wr B v zs) (hx : a.eval x = .slice (some ⟨wr.heap.size, 0, none⟩) 1 1)
    (hn : zs.length < 1000000000000) (hB : B ≤ wr.heap.size)
    (K : ∀ v' w', OwnInts w' B v' (zs ++ [z]) → Below B wr w' → AppStep wr w' v v' → wpList Tryz.prog ops Q rest (a.put o.dst v') w') :
    wpList Tryz.prog ops Q (o :: rest) a (wr.alloc (.cells #[.int .i64 z] 3)) := by
  obtain ⟨i0, hi, hz0, hz1, hz2⟩ := info_parts info_int
  refine wpList_append_own_at (wr.alloc (.cells #[.int .i64 z] 3)) hg s x 23 ho B 3 i0 (.int .i64 0) 1 8 Tryz.underlying23 hi hz0 hz1 hz2 rfl (by decide) v (zs.map (Value.int .i64)).length (zs.map (Value.int .i64)) hs (World.ownsRow.alloc hown _) ⟨wr.heap.size, 0, none⟩ 1 1 [.int .i64 z] hx rfl ?_ ?_ ?_ ?_ ?_ ?_
  · intro j u' hj
    match j, hj with
    | 0, hj =>
      simp at hj; subst hj
      rw [Addr.add_lit, World.cell?_alloc_at _ _ _ _ rfl]; rfl
  · intro u' hu'; simp at hu'; subst hu'; rfl
  · rw [List.length_map]; unfold maxLen; omega
  · rw [List.length_map]; omega
  · simp; omega
  · intro v' w' hown' hgrow _ hloc
    refine K v' w' ?_ ?_ ⟨fun k hk hne => ?_, ?_, ?_⟩
    · unfold OwnInts Own; rw [List.map_append, List.length_append]; exact hown'
    · refine Below.grown (Below.alloc (Below.refl B wr) hB _) hgrow (by simp; omega) ?_
      intro k hk
      exact (Own.lt hown k hk).1
    · rw [hgrow.block k (by simp; omega) hne]; exact heap_alloc_old wr _ hk
    · have := hgrow.size; simp at this; omega
    · rcases hloc with hl | hl
      · exact .inl hl
      · exact .inr ⟨_, hl, by simp⟩
end Go.Proofs.YtheimfdbadjpoaaGreatDoor

namespace Go.Proofs.YtheimfdbadjpoaaGreatDoor
open Go.ChangeShapes Go.WideShapes Go.ChangeAt Go.RowKit

structure RowsAt (w : World) (size : Nat) (a : Option Addr) (n cap : Nat) (xs : List (List Value)) : Prop where
  len : xs.length = n
  le : n ≤ cap
  cap : cap ≤ maxLen
  at_ : n ≠ 0 → ∃ b off, a = some ⟨b, off, none⟩ ∧ ∀ j r, xs[j]? = some r → r.length = size ∧ ∀ i u, r[i]? = some u → w.cell? ⟨b, off + (j * size + i), none⟩ = some u
theorem RowsAt.nil (w : World) (size : Nat) : RowsAt w size none 0 0 [] := ⟨rfl, Nat.le_refl _, Nat.zero_le _, fun h => absurd rfl h⟩
theorem RowsAt.keep {w w' : World} {size : Nat} {a : Option Addr} {n cap : Nat} {xs : List (List Value)} (h : RowsAt w size a n cap xs) (hb : Lat w w') : RowsAt w' size a n cap xs :=
  ⟨h.len, h.le, h.cap, fun hn => by
    obtain ⟨b, o, ha, hc⟩ := h.at_ hn
    exact ⟨b, o, ha, fun j r hr => ⟨(hc j r hr).1, fun i u hu => hb.cell_at ((hc j r hr).2 i u hu)⟩⟩⟩
theorem RowsAt.take {w : World} {size : Nat} {a : Option Addr} {n cap : Nat} {xs : List (List Value)} (h : RowsAt w size a n cap xs) {m : Nat} (hm : m ≤ n) : RowsAt w size a m cap (xs.take m) :=
  ⟨by rw [List.length_take, h.len]; omega, Nat.le_trans hm h.le, h.cap, fun hn => by
    obtain ⟨b, o, ha, hc⟩ := h.at_ (by omega)
    refine ⟨b, o, ha, fun j r hr => hc j r ?_⟩
    rw [List.getElem?_take] at hr
    split at hr
    · exact hr
    · cases hr⟩

def OwnR (w : World) (B : Nat) (e : TypeId) (size : Nat) (v : Value) (xs : List (List Value)) : Prop := (∀ r ∈ xs, r.length = size) ∧ w.ownsRow B e size v xs.length xs.flatten
theorem OwnR.nil (w : World) (B : Nat) (e : TypeId) (size : Nat) : OwnR w B e size (.slice none 0 0) [] := ⟨by simp, World.ownsRow_nil w B e size⟩
theorem OwnR.lt {w : World} {B : Nat} {e : TypeId} {size : Nat} {v : Value} {xs : List (List Value)} (h : OwnR w B e size v xs) : ∀ k, v.ownBlock = some k → B ≤ k ∧ k < w.heap.size := World.ownsRow.lt h.2
theorem OwnR.below {w w' : World} {B C : Nat} {e : TypeId} {size : Nat} {v : Value} {xs : List (List Value)} (h : OwnR w B e size v xs) (hb : Below C w w') (hl : ∀ k, v.ownBlock = some k → k < C) : OwnR w' B e size v xs := by
  refine ⟨h.1, ?_⟩
  obtain ⟨h1, h2⟩ := h.2
  refine ⟨h1, ?_⟩
  rcases h2 with h2 | ⟨g, cap, cur, rfl, hg, hh, rest⟩
  · exact .inl h2
  · exact .inr ⟨g, cap, cur, rfl, hg, by rw [hb.block g (hl g rfl)]; exact hh, rest⟩
theorem OwnR.keep {w w' : World} {B : Nat} {e : TypeId} {size : Nat} {v : Value} {xs : List (List Value)} (h : OwnR w B e size v xs) (hb : Lat w w') : OwnR w' B e size v xs :=
  h.below hb (fun k hk => (h.lt k hk).2)
theorem OwnR.only {g : Nat} {w w' : World} {B : Nat} {e : TypeId} {size : Nat} {v : Value} {xs : List (List Value)} (h : OwnR w B e size v xs) (ho : Only g w w') (hg : g < B) : OwnR w' B e size v xs := by
  refine ⟨h.1, ?_⟩
  obtain ⟨h1, h2⟩ := h.2
  refine ⟨h1, ?_⟩
  rcases h2 with h2 | ⟨k, cap, cur, rfl, hb, hh, rest⟩
  · exact .inl h2
  · exact .inr ⟨k, cap, cur, rfl, hb, by rw [ho.block k (by omega)]; exact hh, rest⟩
theorem flat_get {α : Type} {size : Nat} : ∀ {xs : List (List α)} {j : Nat} {r : List α} {i : Nat} {u : α}, (∀ r ∈ xs, r.length = size) → xs[j]? = some r → r[i]? = some u → xs.flatten[j * size + i]? = some u
  | [], j, r, i, u, _, h, _ => by simp at h
  | x :: xs, 0, r, i, u, hs, h, hu => by
    simp at h; subst h
    have hi : i < x.length := (List.getElem?_eq_some_iff.1 hu).1
    rw [Nat.zero_mul, Nat.zero_add, List.flatten_cons, List.getElem?_append_left hi]; exact hu
  | x :: xs, j + 1, r, i, u, hs, h, hu => by
    simp at h
    have hx := hs x (List.mem_cons_self ..)
    have ih := flat_get (fun r hr => hs r (List.mem_cons_of_mem _ hr)) h hu
    have e : (j + 1) * size + i = x.length + (j * size + i) := by rw [Nat.succ_mul, hx]; omega
    rw [e, List.flatten_cons, List.getElem?_append_right (by omega), Nat.add_sub_cancel_left]; exact ih
theorem OwnR.slice {w : World} {B : Nat} {e : TypeId} {size : Nat} {v : Value} {xs : List (List Value)} {n : Nat} (h : OwnR w B e size v xs) (hn : xs.length = n) : ∃ a cap, v = .slice a n cap ∧ RowsAt w size a n cap xs := by
  subst hn
  obtain ⟨hs, h0⟩ := h
  have h1 := h0
  obtain ⟨_, h2⟩ := h0
  rcases h2 with ⟨rfl, hz⟩ | ⟨g, cap, cur, rfl, hg, hh, hn, hc, hs', ht⟩
  · refine ⟨none, 0, by rw [hz], rfl, by omega, Nat.zero_le _, fun hn => absurd hz hn⟩
  · refine ⟨_, cap, rfl, rfl, hn, hc, fun _ => ⟨g, 0, rfl, fun j r hr => ⟨hs r (List.mem_of_getElem? hr), fun i u hu => ?_⟩⟩⟩
    have := World.ownsRow.cells h1 (g := g) rfl (j * size + i) u (flat_get hs hr hu)
    rw [Addr.add_lit] at this
    exact this

theorem appR {P : Program} (wr : World) (B : Nat) {ops : Array Oper} {rest : List Oper} {o : Oper} {a : Act} {Q : Exit → Act → World → Prop}
    (hg : o.guard = none) (s x : Operand) (t : TypeId) (ho : o.op = .call { callee := .builtin .append, args := #[s, x], argTypes := #[t, t] })
    (e : TypeId) (z : Value) (size bytes : Nat) (ht : P.underlying t = some (.slice e)) (hinfo : (P.info? e).map (fun i => (i.zero, i.size, i.bytes)) = some (some z, size, bytes)) (hz : z.cells.size = size) (hs0 : 0 < size) (hby : bytes ≤ 64)
    (v : Value) (xs : List (List Value)) (r : Array Value) (hs : a.eval s = v) (hown : OwnR wr B e size v xs) (hr : r.size = size) (hx : a.eval x = .slice (some ⟨wr.heap.size, 0, none⟩) 1 1) (hu : ∀ u ∈ r.toList, u.oneCell' = true)
    (hn : xs.length < 1000000000000) (hB : B ≤ wr.heap.size)
    (K : ∀ v' w', OwnR w' B e size v' (xs ++ [r.toList]) → Below B wr w' → AppStep wr w' v v' → wpList P ops Q rest (a.put o.dst v') w') :
    wpList P ops Q (o :: rest) a (wr.alloc (.cells r e)) := by
  obtain ⟨i0, hi, hz0, hz1, hz2⟩ := info_parts hinfo
  obtain ⟨hsz, hown⟩ := hown
  refine wpList_append_own_at (wr.alloc (.cells r e)) hg s x t ho B e i0 z size bytes ht hi hz0 hz1 hz2 hz hs0 v xs.length xs.flatten hs (World.ownsRow.alloc hown _) ⟨wr.heap.size, 0, none⟩ 1 1 r.toList hx (by simp [hr]) ?_ hu ?_ ?_ ?_ ?_
  · intro j u' hj
    rw [Addr.add_lit, World.cell?_alloc_at _ _ _ _ rfl, Nat.zero_add, ← Array.getElem?_toList]; exact hj
  · unfold maxLen; omega
  · calc (xs.length + 1) * bytes ≤ (xs.length + 1) * 64 := Nat.mul_le_mul_left _ hby
      _ ≤ 140737488355328 := by omega
  · simp; omega
  · intro v' w' hown' hgrow _ hloc
    refine K v' w' ⟨fun r' hr' => ?_, ?_⟩ ?_ ⟨fun k hk hne => ?_, ?_, ?_⟩
    · rcases List.mem_append.1 hr' with h | h
      · exact hsz r' h
      · rw [List.mem_singleton.1 h]; simpa using hr
    · rw [List.length_append, List.flatten_append, List.flatten_singleton]; exact hown'
    · refine Below.grown (Below.alloc (Below.refl B wr) hB _) hgrow (by simp; omega) ?_
      intro k hk
      exact (World.ownsRow.lt hown k hk).1
    · rw [hgrow.block k (by simp; omega) hne]; exact heap_alloc_old wr _ hk
    · have := hgrow.size; simp at this; omega
    · rcases hloc with hl | hl
      · exact .inl hl
      · exact .inr ⟨_, hl, by simp⟩
end Go.Proofs.YtheimfdbadjpoaaGreatDoor

namespace Go.Proofs.YtheimfdbadjpoaaGreatDoor
open Go.ChangeShapes Go.WideShapes Go.ChangeAt Go.RowKit

structure Fr (S : Nat → Prop) (w w' : World) : Prop where
  os : w'.os = w.os
  tape : w'.tape = w.tape
  output : w'.output = w.output
  size : w.heap.size ≤ w'.heap.size
  block : ∀ k, k < w.heap.size → ¬ S k → w'.heap[k]? = w.heap[k]?
section
variable {S T : Nat → Prop} {a b c w w' : World}
theorem Fr.refl (S : Nat → Prop) (w : World) : Fr S w w := ⟨rfl, rfl, rfl, Nat.le_refl _, fun _ _ _ => rfl⟩
theorem Fr.lat (h : Lat a b) : Fr S a b := ⟨h.os, h.tape, h.output, h.size, fun k hk _ => h.block k hk⟩
theorem Fr.trans (h : Fr S a b) (k : Fr T b c) (ht : ∀ i, i < a.heap.size → T i → S i) : Fr S a c :=
  ⟨k.os.trans h.os, k.tape.trans h.tape, k.output.trans h.output, Nat.le_trans h.size k.size, fun i hi hs => (k.block i (Nat.lt_of_lt_of_le hi h.size) (fun e => hs (ht i hi e))).trans (h.block i hi hs)⟩
theorem Fr.next (h : Fr S a b) (k : Lat b c) : Fr S a c := h.trans (T := S) (Fr.lat k) (fun _ _ e => e)
theorem Fr.mono (h : Fr S a b) (hs : ∀ k, k < a.heap.size → S k → T k) : Fr T a b := ⟨h.os, h.tape, h.output, h.size, fun k hk ht => h.block k hk (fun e => ht (hs k hk e))⟩
theorem Fr.cell_at (h : Fr S w w') {p : Addr} {v : Value} (hp : w.cell? p = some v) (hn : ¬ S p.block) : w'.cell? p = some v := by
  rw [World.cell?_of_block (w := w) (h.block p.block (World.block_lt_of_cell? _ _ hp) hn)]; exact hp
theorem Fr.free_at (h : Fr S w w') {p : Addr} (hl : p.block < w.heap.size) (hp : w.frozen? p = false) (hn : ¬ S p.block) : w'.frozen? p = false := by
  rw [World.frozen?_of_block (w := w) (h.block p.block hl hn)]; exact hp
theorem Fr.below (h : Fr S w w') {B : Nat} (hB : B ≤ w.heap.size) (hS : ∀ k, S k → B ≤ k) : Below B w w' :=
  ⟨h.os, h.tape, h.output, h.size, fun k hk => h.block k (by omega) (fun e => by have := hS k e; omega)⟩
theorem Fr.lat_of (h : Fr S w w') {w0 : World} (h0 : Lat w0 w) (hS : ∀ k, S k → w0.heap.size ≤ k) : Lat w0 w' := Below.trans h0 (h.below h0.size hS)
theorem Fr.drewN (h : Fr S a b) (n : Nat) : Fr S a (b.drewN n) := ⟨h.os, h.tape, h.output, h.size, h.block⟩
theorem Fr.drew (h : Fr S a b) : Fr S a b.drew := ⟨h.os, h.tape, h.output, h.size, h.block⟩
theorem Fr.set (w : World) (p : Addr) (v : Value) (hp : S p.block) : Fr S w (w.setCell p v) :=
  ⟨rfl, rfl, rfl, by simp [World.setCell], fun k _ hk => Below.heap_setCell _ _ _ _ (fun e => hk (e ▸ hp))⟩
theorem Fr.then_set (h : Fr S a b) (p : Addr) (v : Value) (hp : S p.block ∨ a.heap.size ≤ p.block) : Fr S a (b.setCell p v) :=
  h.trans (T := fun k => k = p.block) (Fr.set b p v rfl) (fun i hi e => by
    subst e
    rcases hp with hp | hp
    · exact hp
    · omega)
theorem Fr.app {v v' : Value} (h : AppStep w w' v v') (ho : w'.os = w.os ∧ w'.tape = w.tape ∧ w'.output = w.output) : Fr (fun k => v.ownBlock = some k) w w' :=
  ⟨ho.1, ho.2.1, ho.2.2, h.size, fun k hk hn => h.block k hk (fun e => hn e.symm)⟩
end
theorem OwnR.fr {S : Nat → Prop} {w w' : World} {B : Nat} {e : TypeId} {size : Nat} {v : Value} {xs : List (List Value)} (h : OwnR w B e size v xs) (hf : Fr S w w') (hn : ∀ k, v.ownBlock = some k → ¬ S k) : OwnR w' B e size v xs := by
  have hlt := h.lt
  refine ⟨h.1, ?_⟩
  obtain ⟨h1, h2⟩ := h.2
  refine ⟨h1, ?_⟩
  rcases h2 with h2 | ⟨g, cap, cur, rfl, hg, hh, rest⟩
  · exact .inl h2
  · exact .inr ⟨g, cap, cur, rfl, hg, by rw [hf.block g (hlt g rfl).2 (hn g rfl)]; exact hh, rest⟩
theorem OwnR.base {w : World} {B C : Nat} {e : TypeId} {size : Nat} {v : Value} {xs : List (List Value)} (h : OwnR w B e size v xs) (hc : C ≤ B) : OwnR w C e size v xs := by
  refine ⟨h.1, ?_⟩
  obtain ⟨h1, h2⟩ := h.2
  refine ⟨h1, ?_⟩
  rcases h2 with h2 | ⟨g, cap, cur, rfl, hg, rest⟩
  · exact .inl h2
  · exact .inr ⟨g, cap, cur, rfl, by omega, rest⟩

theorem heap_setCells (g : Nat) (t : TypeId) : ∀ (vs : List Value) (o : Nat) (w : World) (cs : Array Value), w.heap[g]? = some (.cells cs t (0, 0)) → o + vs.length ≤ cs.size →
    ∃ cs' : Array Value, (w.setCells g o vs).heap[g]? = some (.cells cs' t (0, 0)) ∧ cs'.toList = cs.toList.take o ++ vs ++ cs.toList.drop (o + vs.length)
  | [], o, w, cs, h, _ => ⟨cs, h, by simp⟩
  | v :: r, o, w, cs, h, hl => by
    rw [List.length_cons] at hl
    obtain ⟨cs', h1, h2⟩ := heap_setCells g t r (o + 1) (w.setCell ⟨g, o, none⟩ v) (cs.setIfInBounds o v) (heap_setCell_same w g o cs t v h) (by simp; omega)
    refine ⟨cs', h1, ?_⟩
    rw [h2, Array.toList_setIfInBounds, List.drop_set_of_lt (by omega), List.take_set, List.take_succ_eq_append_getElem (by simp; omega), List.set_append_right _ _ (by rw [List.length_take]; omega), List.length_take, List.length_cons]
    simp only [Array.length_toList]
    rw [Nat.min_eq_left (by omega), Nat.sub_self]
    simp only [List.set_cons_zero, List.append_assoc, List.cons_append, List.nil_append]
    rw [show o + 1 + r.length = o + (r.length + 1) by omega]
theorem Fr.setCells (g : Nat) : ∀ (vs : List Value) (o : Nat) (w : World), Fr (fun k => k = g) w (w.setCells g o vs)
  | [], _, w => Fr.refl _ w
  | v :: r, o, w => Fr.trans (S := fun k => k = g) (Fr.set (S := fun k => k = g) w ⟨g, o, none⟩ v rfl) (Fr.setCells g r (o + 1) _) (fun _ _ e => e)
theorem flat_len {α : Type} {s : Nat} : ∀ {xs : List (List α)}, (∀ r ∈ xs, r.length = s) → xs.flatten.length = xs.length * s
  | [], _ => by simp
  | x :: xs, h => by
    have ih := flat_len (xs := xs) fun r hr => h r (List.mem_cons_of_mem _ hr)
    have hx := h x (List.mem_cons_self ..)
    rw [List.flatten_cons, List.length_append, ih, hx, List.length_cons, Nat.succ_mul, Nat.add_comm]
theorem flat_take {α : Type} {s : Nat} : ∀ {xs : List (List α)} (i : Nat), (∀ r ∈ xs, r.length = s) → (xs.take i).flatten = xs.flatten.take (i * s)
  | [], i, _ => by simp
  | x :: xs, 0, _ => by simp
  | x :: xs, i + 1, h => by
    have ih := flat_take (xs := xs) i fun r hr => h r (List.mem_cons_of_mem _ hr)
    have hx := h x (List.mem_cons_self ..)
    have e1 : List.take (i * s + s) x = x := List.take_of_length_le (by omega)
    rw [List.take_succ_cons, List.flatten_cons, List.flatten_cons, ih, List.take_append, hx, Nat.succ_mul, e1, show i * s + s - s = i * s by omega]
theorem flat_drop {α : Type} {s : Nat} : ∀ {xs : List (List α)} (i : Nat), (∀ r ∈ xs, r.length = s) → (xs.drop i).flatten = xs.flatten.drop (i * s)
  | [], i, _ => by simp
  | x :: xs, 0, _ => by simp
  | x :: xs, i + 1, h => by
    have ih := flat_drop (xs := xs) i fun r hr => h r (List.mem_cons_of_mem _ hr)
    have hx := h x (List.mem_cons_self ..)
    have e1 : List.drop (i * s + s) x = [] := List.drop_eq_nil_of_le (by omega)
    rw [List.drop_succ_cons, List.flatten_cons, ih, List.drop_append, hx, Nat.succ_mul, e1, List.nil_append, show i * s + s - s = i * s by omega]
theorem run_clear_rows {P : Program} (w : World) (t e ty : TypeId) (z : Value) (ht : P.underlying t = some (.slice e)) (hv : ∀ w, (zeroValue e).run P w = .ok z w) (b o n c : Nat) (hn : 0 < n)
    (h1 : ∀ v ∈ (Builtin.zeroCells z.cells n).toList, v.oneCell' = true)
    (hc : ∀ j, j < (Builtin.zeroCells z.cells n).size → (w.cell? ⟨b, o + j, none⟩).isSome = true) (hf : ∀ j, j < (Builtin.zeroCells z.cells n).size → w.frozen? ⟨b, o + j, none⟩ = false) :
    (Builtin.clear_ #[t] ty #[.slice (some ⟨b, o, none⟩) n c]).run P w = .ok (.tuple #[]) (w.setCells b o (Builtin.zeroCells z.cells n).toList) := by
  have hst := run_storeCells_cells (P := P) b o (Builtin.zeroCells z.cells n).toList 0 w (by simpa using hc) (by simpa using hf) h1
  simp only [Nat.add_zero] at hst
  obtain ⟨m, rfl⟩ : ∃ m, n = m + 1 := ⟨n - 1, by omega⟩
  simp [Builtin.clear_, run_underlying ht, hv, hst]
end Go.Proofs.YtheimfdbadjpoaaGreatDoor

namespace Go.Proofs.YtheimfdbadjpoaaGreatDoor
open Go.ChangeShapes Go.WideShapes Go.ChangeAt Go.RowKit Go.Maps

structure Codec (R : Value → Option (DataW Unit × List MemPlace)) : Prop where
  inj : ∀ u v d p q, R u = some (d, p) → R v = some (d, q) → u = v
def MapF (P : Program) (k : TypeId) (q : IntKind) (R : Value → Option (DataW Unit × List MemPlace)) (b n : Nat) (f : Int → Option Value) (w : World) : Prop :=
  ∃ D, w.ownsMap P k R b n D ∧ Maps.size D = n ∧ ∀ key, (Lit.int q key).wf = true →
    (f key = none → Maps.has D (.int q key) = false) ∧ ∀ v, f key = some v → Maps.has D (.int q key) = true ∧ ∃ d ps, R v = some (d, ps) ∧ ∀ z, D.atKey (.int q key) z = d
def updF (f : Int → Option Value) (key : Int) (v : Value) : Int → Option Value := fun x => if x = key then some v else f x

section
variable {P : Program} {k e t : TypeId} {q : IntKind} {R : Value → Option (DataW Unit × List MemPlace)} {b n : Nat} {f : Int → Option Value} {w w' : World}
theorem exact_map {D : DataW Unit} {m : Nat} (h : w.ownsMap P k R b m D) : w.ownsMap P k R b (Maps.size D) D := by
  obtain ⟨es, clock, hb, F, _, rfl⟩ := h
  exact ⟨es, clock, hb, F, by simp [Maps.size, length_sorted], rfl⟩
theorem MapF.lt (h : MapF P k q R b n f w) : b < w.heap.size := by
  obtain ⟨D, ho, _⟩ := h; exact ho.lt
theorem MapF.of_block (h : MapF P k q R b n f w) (hb : w'.heap[b]? = w.heap[b]?) : MapF P k q R b n f w' := by
  obtain ⟨D, ⟨es, clock, hh, rest⟩, h2⟩ := h
  exact ⟨D, ⟨es, clock, by rw [hb]; exact hh, rest⟩, h2⟩
theorem MapF.keep (h : MapF P k q R b n f w) (hb : Lat w w') : MapF P k q R b n f w' := h.of_block (hb.block b h.lt)
theorem MapF.fr {S : Nat → Prop} (h : MapF P k q R b n f w) (hf : Fr S w w') (hn : ¬ S b) : MapF P k q R b n f w' := h.of_block (hf.block b h.lt hn)
theorem MapF.made (w : World) (P : Program) (k : TypeId) (q : IntKind) (R : Value → Option (DataW Unit × List MemPlace)) : MapF P k q R w.heap.size 0 (fun _ => none) (w.alloc (.map #[] 0)) :=
  ⟨.map [], World.ownsMap_made w P k R, rfl, fun _ _ => ⟨fun _ => rfl, fun _ h => by cases h⟩⟩
theorem MapF.look_ok (h : MapF P k q R b n f w) (hR : Codec R) (hk : P.underlying k = some (.int q)) (ht : P.underlying t = some (.map k e)) {z : Value} (hz : (zeroValue e).run P w = .ok z w) {zd : DataW Unit} {zp : List MemPlace} (hzd : R z = some (zd, zp))
    (key : Int) (hw : (Lit.int q key).wf = true) : (Instr.lookup t (.map (some b)) (.int q key) true).run P w = .ok (.tuple #[(f key).getD z, .bool (f key).isSome]) w := by
  obtain ⟨D, ho, _, hf⟩ := h
  obtain ⟨v, ps, hrun, hv⟩ := ho.look_ok (int_keyed hk) ht hz hzd (Maps.keyOf_int_mk hk hw)
  obtain ⟨h1, h2⟩ := hf key hw
  rw [hrun]
  cases hfk : f key with
  | none =>
    have hh := h1 hfk
    rw [hh]
    rw [atKey_of_not_has hh] at hv
    rw [hR.inj _ _ _ _ _ hv hzd]; rfl
  | some u =>
    obtain ⟨hh, d, ps', hd, hat⟩ := h2 u hfk
    rw [hh]
    rw [hat] at hv
    rw [hR.inj _ _ _ _ _ hv hd]; rfl
theorem MapF.look (h : MapF P k q R b n f w) (hR : Codec R) (hk : P.underlying k = some (.int q)) (ht : P.underlying t = some (.map k e)) {z : Value} (hz : (zeroValue e).run P w = .ok z w) {zd : DataW Unit} {zp : List MemPlace} (hzd : R z = some (zd, zp))
    (key : Int) (hw : (Lit.int q key).wf = true) : (Instr.lookup t (.map (some b)) (.int q key) false).run P w = .ok ((f key).getD z) w := by
  obtain ⟨D, ho, _, hf⟩ := h
  obtain ⟨v, ps, hrun, hv⟩ := ho.lookup (int_keyed hk) ht hz hzd (Maps.keyOf_int_mk hk hw)
  obtain ⟨h1, h2⟩ := hf key hw
  rw [hrun]
  cases hfk : f key with
  | none =>
    have hh := h1 hfk
    rw [atKey_of_not_has hh] at hv
    rw [hR.inj _ _ _ _ _ hv hzd]; rfl
  | some u =>
    obtain ⟨hh, d, ps', hd, hat⟩ := h2 u hfk
    rw [hat] at hv
    rw [hR.inj _ _ _ _ _ hv hd]; rfl
theorem MapF.len (h : MapF P k q R b n f w) (ht : P.underlying t = some (.map k e)) (ty : TypeId) : (Builtin.len_ #[t] ty #[.map (some b)]).run P w = .ok (.int .i64 n) w := by
  obtain ⟨D, ho, hs, _⟩ := h
  rw [ho.len ht ty, hs]
theorem MapF.store (h : MapF P k q R b n f w) (hk : P.underlying k = some (.int q)) (ht : P.underlying t = some (.map k e)) (hn : n < 1000000) (key : Int) (hw : (Lit.int q key).wf = true) {val : Value} {d : DataW Unit} {ps : List MemPlace} (hv : R val = some (d, ps)) :
    ∃ w', (Instr.mapUpdate t (.map (some b)) (.int q key) val).run P w = .ok () w' ∧ MapF P k q R b (if (f key).isSome = true then n else n + 1) (updF f key val) w' ∧ Fr (fun i => i = b) w w' := by
  obtain ⟨D, ho, hs, hf⟩ := h
  have hkl : WideAt.IsKeyLit (.int q key) := trivial
  obtain ⟨w', hrun, ho', hg⟩ := ho.update (int_keyed hk) ht (by unfold maxLen; omega) (Maps.keyOf_int_mk hk hw) hv
  have hT := ho.tidy (int_keyed hk)
  have hsz := size_put (k := .int q key) hT d
  have hf' : Fr (fun i => i = b) w w' := ⟨hg.os, hg.tape, hg.output, hg.size, fun i hi hne => hg.block i hi (fun e => hne (Option.some.inj e))⟩
  obtain ⟨h1, h2⟩ := hf key hw
  have hhas : Maps.has D (.int q key) = (f key).isSome := by
    cases hfk : f key with
    | none => exact h1 hfk
    | some u => exact (h2 u hfk).1
  rw [hhas, hs] at hsz
  refine ⟨w', hrun, ⟨D.put (.int q key) d, by rw [← hsz]; exact exact_map ho', hsz, fun x hx => ⟨fun hn => ?_, fun v hv' => ?_⟩⟩, hf'⟩
  · unfold updF at hn
    split at hn
    · cases hn
    · rename_i hne
      rw [has_put_other (by intro e; injection e with _ e; exact hne e)]
      exact (hf x hx).1 hn
  · unfold updF at hv'
    split at hv'
    · rename_i he
      subst he
      cases hv'
      exact ⟨has_put_same ho.isMap hkl d, d, ps, hv, fun z => atKey_put_same ho.isMap hkl d z⟩
    · rename_i hne
      have hkn : Lit.int q x ≠ Lit.int q key := by intro e; injection e with _ e; exact hne e
      obtain ⟨g1, d', ps', g2, g3⟩ := (hf x hx).2 v hv'
      exact ⟨by rw [has_put_other hkn]; exact g1, d', ps', g2, fun z => by rw [atKey_put_other hkn]; exact g3 z⟩
end
end Go.Proofs.YtheimfdbadjpoaaGreatDoor

namespace Go.Proofs.YtheimfdbadjpoaaGreatDoor
open Go.ChangeShapes Go.WideShapes Go.ChangeAt Go.RowKit


theorem strF_zero (n : Nat) : strF n (fun _ => 0) = S (noughts n) := by
  unfold strF S noughts
  congr 2
  apply List.ext_getElem <;> simp

theorem noughts_any (n : Nat) (w : World) (hn : n ≤ 1000000) :
    Calls Tryz.prog 98 #[.int .i64 n] w fun e w' => e = .returned (.string (S (noughts n))) ∧ Lat w w' := by
  go_enter Tryz.func98, Tryz.ntmps98
  go_wp2_with (at_make; refine wpList_make_blk _ rfl _ _ 89 rfl 5 (.int .u8 0) 1 Tryz.underlying89 info_u8 rfl n rfl rfl (by omega) (by unfold maxLen; omega) ?_)
  intro g w1 hg hblk hb
  have hcv := run_conv_str (P := Tryz.prog) w1 89 5 9 Tryz.underlying89 Tryz.underlying5 Tryz.underlying9 g 0 n n (fun _ => 0) (fun j hj => by rw [Nat.zero_add]; exact hblk.cell j hj)
  rw [strF_zero] at hcv
  clear hblk hg
  go_wp2
  go_ret
  exact ⟨rfl, hb⟩

theorem overS (a : List UInt8) (b : ByteArray) (w : World) (hab : a.length = b.size) (ha : a.length ≤ maxLen) :
    Calls Tryz.prog 99 #[.string (S a), .string b] w fun e w' => e = .returned (.string (S (xorL a b.data.toList))) ∧ Lat w w' :=
  over_any (S a) b w hab ha

def bl (ss : List ByteArray) (j : Nat) : List UInt8 := (ss.getD j ByteArray.empty).data.toList
theorem bl_length (ss : List ByteArray) (j : Nat) : (bl ss j).length = szAt ss j := Array.length_toList
def sumTo (ss : List ByteArray) (m : Nat) (zs : List Int) : Nat → List UInt8
  | 0 => noughts m
  | k + 1 => xorL (sumTo ss m zs k) (bl ss (zs.getD k 0).toNat)
theorem sumTo_length (ss : List ByteArray) (m : Nat) (zs : List Int) : ∀ k, (∀ j, j < k → szAt ss (zs.getD j 0).toNat = m) → (sumTo ss m zs k).length = m
  | 0, _ => by simp [sumTo, noughts]
  | k + 1, h => by
    have ih := sumTo_length ss m zs k (fun j hj => h j (by omega))
    unfold sumTo
    rw [xorL_length _ _ (by rw [ih, bl_length, h k (by omega)]), ih]

theorem getD_mem (zs : List Int) (k : Nat) (h : k < zs.length) : zs.getD k 0 ∈ zs := by
  rw [List.getD_eq_getElem?_getD, List.getElem?_eq_getElem h]; exact List.getElem_mem h

set_option maxHeartbeats 400000 in
set_option maxRecDepth 100000 in
theorem of_any (a : Option Addr) (n cap : Nat) (ss : List ByteArray) (a2 : Option Addr) (k cap2 : Nat) (zs : List Int) (w : World) (h : StrsAt w a n cap ss) (h2 : IntsAt w a2 k cap2 zs) (hok : ChkOk ss)
    (hz : ∀ z ∈ zs, 0 ≤ z ∧ z < n) :
    Calls Tryz.prog 50 #[.slice a n cap, .slice a2 k cap2] w fun e w' => e = .returned (.string (S (sumTo ss (szAt ss 0) zs k))) ∧ Lat w w' := by
  have hl := h.len
  have hl2 := h2.len
  have hcap2 := h2.row.cap
  have hle2 := h2.row.le
  unfold maxLen at hcap2
  have hn1 : 1 ≤ n := by have := hok.pos; omega
  have hn16 : n ≤ 16 := by have := hok.most; omega
  obtain ⟨bb, o, rfl, hc⟩ := h.row.at_ (by omega)
  have c0 : w.cell? ⟨bb, o, none⟩ = some (.string (ss.getD 0 ByteArray.empty)) := hc 0 (by omega)
  obtain ⟨s0, hs0⟩ : ∃ s, s = ss.getD 0 ByteArray.empty := ⟨_, rfl⟩
  have hsz : szAt ss 0 = s0.size := by rw [hs0]; rfl
  have q2 : s0.size ≤ 8 := by rw [← hsz]; exact hok.eight
  rw [← hs0] at c0
  rw [hsz]
  have HS := Lib.hid hsz
  have HZ := Lib.hid hz
  have H1 := Lib.hid h
  have H2 := Lib.hid h2
  have HL := Lib.hid hl
  have HL2 := Lib.hid hl2
  clear hc hs0 hsz hz h h2 hl hl2
  have dp : (0 : Int) < (n : Int) := by omega
  go_enter Tryz.func50, Tryz.ntmps50
  go_wp2_with (go_at_call 98; refine (noughts_any s0.size _ (by omega)).mono ?_; rintro e w1 ⟨rfl, hb1⟩)
  go_loopw [5, 15] (fun s i wr => ∃ j : Nat, j ≤ k ∧ i = .int .i64 j ∧ s = .string (S (sumTo ss s0.size zs j)) ∧ Hid (Lat w wr)) (fun _ i _ => k - (intOf i).toNat)
  case atStart => exact ⟨0, Nat.zero_le _, rfl, rfl, hb1⟩
  case round =>
    obtain ⟨j, hj, rfl, rfl, hrel⟩ := hrel
    by_cases hlt : j < k
    · have hat1 := H1.out.keep hrel.out
      have hat2 := H2.out.keep hrel.out
      obtain ⟨b2, o2, rfl, hc2⟩ := hat2.row.at_ (by omega)
      have c2 := hc2 j hlt
      have hmem := getD_mem zs j (by rw [HL2.out]; exact hlt)
      have hzz := HZ.out _ hmem
      obtain ⟨z, hzd⟩ := Int.eq_ofNat_of_zero_le hzz.1
      have hzn : z < n := by omega
      rw [hzd] at c2
      obtain ⟨b1, o1, ha1, hc1⟩ := hat1.row.at_ (by omega)
      injection ha1 with ha1
      injection ha1 with ha1 ha2 _
      subst ha1
      subst ha2
      have c1 := hc1 z hzn
      have hsum : (sumTo ss s0.size zs j).length = s0.size := sumTo_length ss s0.size zs j (fun i hi => by
        have hm := HZ.out _ (getD_mem zs i (by rw [HL2.out]; omega))
        have := hok.all (zs.getD i 0).toNat (by rw [HL.out]; omega)
        rw [this, HS.out])
      have hbz : (ss.getD z ByteArray.empty).size = s0.size := by
        have := hok.all z (by rw [HL.out]; omega)
        rw [← HS.out, ← this]; rfl
      obtain ⟨sz, hsz⟩ : ∃ s, s = ss.getD z ByteArray.empty := ⟨_, rfl⟩
      have hstep : sumTo ss s0.size zs (j + 1) = xorL (sumTo ss s0.size zs j) sz.data.toList := by
        rw [hsz]; show xorL _ (bl ss (zs.getD j 0).toNat) = _
        rw [hzd]; rfl
      rw [← hsz] at c1 hbz
      have hab : (sumTo ss s0.size zs j).length = sz.size := by rw [hsum, hbz]
      have hs8 : sz.size ≤ 8 := by omega
      have HAB := Lib.hid hab
      have HST := Lib.hid hstep
      clear hc1 hc2 hat1 hat2 hmem hzd hzz hsum hbz hsz hab hstep
      go_wp2_with (go_at_call 99; refine (overS (sumTo ss s0.size zs j) sz _ HAB.out ?hm).mono ?_; rotate_right; rintro e w2 ⟨rfl, hb2⟩)
      case hm => rw [HAB.out]; unfold maxLen; omega
      go_roundw
      case rel => exact ⟨j + 1, by omega, by go_num, by rw [HST.out], Lat.trans hrel.out hb2⟩
      case measure => simp [intOf]; omega
    · obtain rfl : j = k := by omega
      go_wp2
      go_ret
      exact ⟨rfl, hrel.out⟩

theorem IntsAt.take {w : World} {a : Option Addr} {n cap : Nat} {zs : List Int} (h : IntsAt w a n cap zs) (k : Nat) (hk : k ≤ n) : IntsAt w a k cap (zs.take k) := by
  have hl := h.len
  refine ⟨by simp; omega, ⟨by have := h.row.le; omega, h.row.cap, fun hne => ?_⟩, fun z hz => h.wf z (List.mem_of_mem_take hz)⟩
  obtain ⟨b, o, ha, hc⟩ := h.row.at_ (by omega)
  exact ⟨b, o, ha, fun j hj => by rw [hc j (by omega)]; simp [List.getD, hj]⟩

theorem index_none (a : Option Addr) (n cap : Nat) (zs : List Int) (v : Int) (w : World) (h : IntsAt w a n cap zs) (hv : v ∉ zs) :
    Calls Tryz.prog 103 #[.slice a n cap, .int .i64 v] w fun e w' => e = .returned (.int .i64 (-1)) ∧ w = w' := by
  have hcap2 := h.row.cap
  have hle2 := h.row.le
  unfold maxLen at hcap2
  have H := Lib.hid h
  have HV := Lib.hid hv
  clear h hv
  go_enter Tryz.func103, Tryz.ntmps103
  go_wp2
  go_loop [8] (fun i => ∃ k : Nat, k ≤ n ∧ i = .int .i64 k) (fun i => n - (intOf i).toNat)
  case atStart => exact ⟨0, Nat.zero_le _, rfl⟩
  case round =>
    obtain ⟨k, hk, rfl⟩ := hrel
    by_cases hlt : k < n
    · obtain ⟨b, o, rfl, hc⟩ := H.out.row.at_ (by omega)
      have c1 := hc k hlt
      have hm := getD_mem zs k (by rw [H.out.len]; exact hlt)
      obtain ⟨z, hz⟩ : ∃ z, z = zs.getD k 0 := ⟨_, rfl⟩
      rw [← hz] at c1 hm
      have ht : (v == z) = false := by rw [beq_eq_false_iff_ne]; intro e; exact HV.out (e ▸ hm)
      clear hc hz hm
      go_wp2
      go_round
      case rel => exact ⟨k + 1, by omega, by go_num⟩
      case measure => simp [intOf]; omega
    · go_wp2
      go_ret
      exact ⟨rfl, rfl⟩
theorem index_some (a : Option Addr) (n cap : Nat) (zs : List Int) (v : Int) (w : World) (h : IntsAt w a n cap zs) (hv : v ∈ zs) :
    Calls Tryz.prog 103 #[.slice a n cap, .int .i64 v] w fun e w' => (∃ k : Nat, e = .returned (.int .i64 k)) ∧ w = w' := by
  have hcap2 := h.row.cap
  have hle2 := h.row.le
  unfold maxLen at hcap2
  obtain ⟨j0, hj0, hj1⟩ : ∃ j, j < n ∧ zs.getD j 0 = v := by
    obtain ⟨j, hj, e⟩ := List.getElem_of_mem hv
    exact ⟨j, by rw [← h.len]; exact hj, by rw [List.getD_eq_getElem?_getD, List.getElem?_eq_getElem hj]; exact e⟩
  have H := Lib.hid h
  have HV := Lib.hid hj1
  clear h hv hj1
  go_enter Tryz.func103, Tryz.ntmps103
  go_wp2
  go_loop [8] (fun i => ∃ k : Nat, k ≤ j0 ∧ i = .int .i64 k) (fun i => n - (intOf i).toNat)
  case atStart => exact ⟨0, Nat.zero_le _, rfl⟩
  case round =>
    obtain ⟨k, hk, rfl⟩ := hrel
    have hlt : k < n := by omega
    obtain ⟨b, o, rfl, hc⟩ := H.out.row.at_ (by omega)
    have c1 := hc k hlt
    obtain ⟨z, hz⟩ : ∃ z, z = zs.getD k 0 := ⟨_, rfl⟩
    rw [← hz] at c1
    by_cases he : v = z
    · have ht : (v == z) = true := by rw [beq_iff_eq]; exact he
      clear hc hz he
      go_wp2
      go_ret
      exact ⟨⟨k, rfl⟩, rfl⟩
    · have ht : (v == z) = false := by rw [beq_eq_false_iff_ne]; exact he
      have hkj : k < j0 := by
        rcases Nat.lt_or_ge k j0 with h | h
        · exact h
        · have : k = j0 := by omega
          subst this
          exact absurd (HV.out.symm.trans hz.symm) he
      clear hc hz he
      go_wp2
      go_round
      case rel => exact ⟨k + 1, by omega, by go_num⟩
      case measure => simp [intOf]; omega

theorem containsI_no (a : Option Addr) (n cap : Nat) (zs : List Int) (v : Int) (w : World) (h : IntsAt w a n cap zs) (hv : v ∉ zs) :
    Calls Tryz.prog 53 #[.slice a n cap, .int .i64 v] w fun e w' => e = .returned (.bool false) ∧ w = w' := by
  have H := Lib.hid h
  have HV := Lib.hid hv
  clear h hv
  go_enter Tryz.func53, Tryz.ntmps53
  go_wp2_with (go_at_call 103; refine (index_none a n cap zs v _ H.out HV.out).mono ?_; rintro e w' ⟨rfl, rfl⟩)
  go_ret
  exact ⟨rfl, rfl⟩
theorem containsI_yes (a : Option Addr) (n cap : Nat) (zs : List Int) (v : Int) (w : World) (h : IntsAt w a n cap zs) (hv : v ∈ zs) :
    Calls Tryz.prog 53 #[.slice a n cap, .int .i64 v] w fun e w' => e = .returned (.bool true) ∧ w = w' := by
  have H := Lib.hid h
  have HV := Lib.hid hv
  clear h hv
  go_enter Tryz.func53, Tryz.ntmps53
  go_wp2_with (go_at_call 103; refine (index_some a n cap zs v _ H.out HV.out).mono ?_; rintro e w' ⟨⟨k, rfl⟩, rfl⟩)
  go_ret
  exact ⟨rfl, rfl⟩

def ofErr (n : Nat) (zs : List Int) : Nat → Nat
  | 0 => 0
  | k + 1 => if ofErr n zs k ≠ 0 then ofErr n zs k else if zs.getD k 0 < 0 ∨ (n : Int) ≤ zs.getD k 0 then 1 else if zs.getD k 0 ∈ zs.take k then 7 else 0
theorem ofErr_mono (n : Nat) (zs : List Int) (j k : Nat) (h : j ≤ k) (hj : ofErr n zs j ≠ 0) : ofErr n zs k = ofErr n zs j := by
  induction k with
  | zero => obtain rfl : j = 0 := by omega
            rfl
  | succ k ih =>
    by_cases e : j = k + 1
    · subst e; rfl
    · have := ih (by omega)
      rw [ofErr, if_pos (by rw [this]; exact hj), this]
theorem ofErr_zero (n : Nat) (zs : List Int) (k : Nat) (h : ofErr n zs k = 0) : ∀ j, j < k → 0 ≤ zs.getD j 0 ∧ zs.getD j 0 < n ∧ zs.getD j 0 ∉ zs.take j := by
  intro j hj
  have h1 : ofErr n zs (j + 1) = 0 := Classical.byContradiction fun hne => hne (by rw [← ofErr_mono n zs (j + 1) k (by omega) hne]; exact h)
  rw [ofErr] at h1
  repeat' split at h1
  all_goals first | omega | skip
  rename_i h2 h3 h4
  exact ⟨by omega, by omega, h4⟩
end Go.Proofs.YtheimfdbadjpoaaGreatDoor

namespace Go.Proofs.YtheimfdbadjpoaaGreatDoor

abbrev Bts := List UInt8
abbrev Wt := List Int × Bts
abbrev Kn := Int → Option Bts
def unkn (K : Kn) (z : Int) : Bool := (K z).isNone
def ovK (K : Kn) (d : Bts) (z : Int) : Bts := match K z with
  | some b => xorL d b
  | none => d
def wout (K : Kn) (x : Wt) : Wt := (x.1.filter (unkn K), x.1.foldl (ovK K) x.2)
def some1 (x : Wt) : Bool := decide (0 < x.1.length)
def leftW (K : Kn) (L : List Wt) : List Wt := (L.map (wout K)).filter some1
def one1 (x : Wt) : Bool := decide (x.1.length = 1)
def updK (K : Kn) (z : Int) (b : Bts) : Kn := fun x => if x = z then some b else K x
def learnF : Nat → Kn → List Wt → List Int → Kn × List Wt × List Int
  | 0, K, L, out => (K, leftW K L, out)
  | f + 1, K, L, out => match (leftW K L).find? one1 with
    | none => (K, leftW K L, out)
    | some x => learnF f (updK K (x.1.headD 0) x.2) (leftW K L) (out ++ [x.1.headD 0])
def unkC (K : Kn) (k : Nat) : Nat := ((List.range k).filter (fun i : Nat => unkn K (i : Int))).length

structure WOk (k m : Nat) (K : Kn) (L : List Wt) : Prop where
  kn : ∀ z b, K z = some b → 0 ≤ z ∧ z < (k : Int) ∧ b.length = m
  of : ∀ x ∈ L, ∀ z ∈ x.1, 0 ≤ z ∧ z < (k : Int)
  len : ∀ x ∈ L, x.1.length ≤ 16
  data : ∀ x ∈ L, x.2.length = m
theorem ovK_len {k m : Nat} {K : Kn} (hK : ∀ z b, K z = some b → 0 ≤ z ∧ z < (k : Int) ∧ b.length = m) : ∀ (zs : List Int) (d : Bts), d.length = m → (zs.foldl (ovK K) d).length = m
  | [], _, h => h
  | z :: r, d, h => by
    rw [List.foldl_cons]
    refine ovK_len hK r _ ?_
    unfold ovK
    cases hz : K z with
    | none => exact h
    | some b => rw [xorL_length _ _ (by rw [h, (hK z b hz).2.2])]; exact h
theorem WOk.wo {k m : Nat} {K : Kn} {L : List Wt} (h : WOk k m K L) {x : Wt} (hx : x ∈ L) : (∀ z ∈ (wout K x).1, 0 ≤ z ∧ z < (k : Int)) ∧ (wout K x).1.length ≤ 16 ∧ (wout K x).2.length = m :=
  ⟨fun z hz => h.of x hx z (List.mem_filter.1 hz).1, Nat.le_trans (List.length_filter_le _ _) (h.len x hx), ovK_len h.kn _ _ (h.data x hx)⟩
theorem WOk.left {k m : Nat} {K : Kn} {L : List Wt} (h : WOk k m K L) : WOk k m K (leftW K L) := by
  have hm : ∀ x ∈ leftW K L, ∃ y ∈ L, x = wout K y := fun x hx => by
    obtain ⟨y, hy, e⟩ := List.mem_map.1 (List.mem_filter.1 hx).1
    exact ⟨y, hy, e.symm⟩
  refine ⟨h.kn, fun x hx => ?_, fun x hx => ?_, fun x hx => ?_⟩
  all_goals (obtain ⟨y, hy, rfl⟩ := hm x hx)
  · exact (h.wo hy).1
  · exact (h.wo hy).2.1
  · exact (h.wo hy).2.2
theorem leftW_one {K : Kn} {L : List Wt} {x : Wt} (h : (leftW K L).find? one1 = some x) : x ∈ leftW K L ∧ ∃ z, x.1 = [z] ∧ K z = none := by
  have hm := List.mem_of_find?_eq_some h
  have h1 := List.find?_some h
  unfold one1 at h1
  have h2 : x.1.length = 1 := of_decide_eq_true h1
  obtain ⟨z, hz⟩ := List.length_eq_one_iff.1 h2
  refine ⟨hm, z, hz, ?_⟩
  obtain ⟨y, _, e⟩ := List.mem_map.1 (List.mem_filter.1 hm).1
  have hzm : z ∈ (wout K y).1 := by rw [e, hz]; exact List.mem_singleton.2 rfl
  have := (List.mem_filter.1 hzm).2
  unfold unkn at this
  cases hk : K z with
  | none => rfl
  | some b => rw [hk] at this; cases this
theorem WOk.upd {k m : Nat} {K : Kn} {L : List Wt} (h : WOk k m K L) {z : Int} {b : Bts} (hz : 0 ≤ z ∧ z < (k : Int)) (hb : b.length = m) : WOk k m (updK K z b) L := by
  refine ⟨fun y c hy => ?_, h.of, h.len, h.data⟩
  unfold updK at hy
  split at hy
  · rename_i e; cases hy; subst e; exact ⟨hz.1, hz.2, hb⟩
  · exact h.kn y c hy
theorem filter_lt {α : Type} {p q : α → Bool} : ∀ {l : List α} {a : α}, a ∈ l → q a = true → p a = false → (∀ x, p x = true → q x = true) → (l.filter p).length < (l.filter q).length
  | [], a, h, _, _, _ => by cases h
  | x :: r, a, h, hq, hp, hs => by
    have hle : (r.filter p).length ≤ (r.filter q).length := by
      clear h
      induction r with
      | nil => exact Nat.le_refl _
      | cons y t ih =>
        rw [List.filter_cons, List.filter_cons]
        cases hy : p y with
        | true => rw [hs y hy]; simpa using ih
        | false => cases q y <;> simp <;> omega
    rw [List.filter_cons, List.filter_cons]
    rcases List.mem_cons.1 h with rfl | h
    · rw [hq, hp]; simp; omega
    · have ih := filter_lt h hq hp hs
      cases hy : p x with
      | true => rw [hs x hy]; simpa using ih
      | false => cases q x <;> simp <;> omega
theorem unkC_upd {k : Nat} {K : Kn} {z : Int} (b : Bts) (hz : 0 ≤ z ∧ z < (k : Int)) (hn : K z = none) : unkC (updK K z b) k < unkC K k := by
  unfold unkC
  refine filter_lt (a := z.toNat) (List.mem_range.2 (by omega)) ?_ ?_ fun x hx => ?_
  · unfold unkn; rw [Int.toNat_of_nonneg hz.1, hn]; rfl
  · unfold unkn updK; rw [Int.toNat_of_nonneg hz.1, if_pos rfl]; rfl
  · unfold unkn updK at *
    split at hx
    · cases hx
    · exact hx
theorem unkC_le (K : Kn) (k : Nat) : unkC K k ≤ k := by
  have := List.length_filter_le (fun i : Nat => unkn K (i : Int)) (List.range k)
  rw [List.length_range] at this; exact this
theorem find_at {α : Type} {p : α → Bool} : ∀ {l : List α} {i : Nat} {x : α}, l[i]? = some x → p x = true → (∀ j, j < i → ∀ y, l[j]? = some y → p y = false) → l.find? p = some x
  | [], i, x, h, _, _ => by simp at h
  | a :: r, 0, x, h, hp, _ => by
    simp at h; subst h
    rw [List.find?_cons, hp]
  | a :: r, i + 1, x, h, hp, hb => by
    have ha := hb 0 (by omega) a rfl
    rw [List.find?_cons, ha]
    exact find_at (l := r) (i := i) (by simpa using h) hp fun j hj y hy => hb (j + 1) (by omega) y (by simpa using hy)
theorem find_no {α : Type} {p : α → Bool} {l : List α} (h : ∀ (j : Nat) (y : α), l[j]? = some y → p y = false) : l.find? p = none := by
  rw [List.find?_eq_none]
  intro x hx
  obtain ⟨j, hj, e⟩ := List.getElem_of_mem hx
  rw [h j x (by rw [List.getElem?_eq_getElem hj, e])]; simp
end Go.Proofs.YtheimfdbadjpoaaGreatDoor

namespace Go.Proofs.YtheimfdbadjpoaaGreatDoor
open Go.ChangeShapes Go.WideShapes Go.ChangeAt Go.RowKit Go.Maps

def strE : Value → Option (DataW Unit × List MemPlace)
  | .string s => some (.lit (.string s.data.toList), [])
  | _ => none
def boolE : Value → Option (DataW Unit × List MemPlace)
  | .bool b => some (.lit (.bool b), [])
  | _ => none
theorem strCodec : Codec strE := ⟨fun u v d p q h1 h2 => by
  unfold strE at h1 h2
  split at h1
  · rename_i s
    split at h2
    · rename_i t
      injection h1 with h1
      injection h2 with h2
      injection h1 with h1 _
      injection h2 with h2 _
      rw [← h1] at h2
      injection h2 with h2
      injection h2 with h2
      have : s = t := by
        cases s with | mk a => cases t with | mk b => exact congrArg ByteArray.mk (Array.ext' h2.symm)
      rw [this]
    · cases h2
  · cases h1⟩
theorem boolCodec : Codec boolE := ⟨fun u v d p q h1 h2 => by
  unfold boolE at h1 h2
  split at h1
  · rename_i s
    split at h2
    · rename_i t
      injection h1 with h1
      injection h2 with h2
      injection h1 with h1 _
      injection h2 with h2 _
      rw [← h1] at h2
      injection h2 with h2
      injection h2 with h2
      rw [h2]
    · cases h2
  · cases h1⟩
theorem wf_i64 {z : Int} (h : -9223372036854775808 ≤ z ∧ z ≤ 9223372036854775807) : (Lit.int .i64 z).wf = true := by
  simp [Lit.wf, IntKind.min, IntKind.max, IntKind.signed, IntKind.bits]
  omega
theorem u_int : Tryz.prog.underlying 3 = some (.int .i64) := by kernel_rfl
theorem u_mstr : Tryz.prog.underlying 147 = some (.map 3 9) := by kernel_rfl
theorem u_mbool : Tryz.prog.underlying 148 = some (.map 3 4) := by kernel_rfl
theorem zero_strV (w : World) : (zeroValue 9).run Tryz.prog w = .ok (.string { data := #[] }) w := by kernel_rfl
theorem zero_boolV (w : World) : (zeroValue 4).run Tryz.prog w = .ok (.bool false) w := by kernel_rfl

structure KnAt (w : World) (b k : Nat) (K : Kn) : Prop where
  map : ∃ n f, n + unkC K k ≤ k ∧ MapF Tryz.prog 3 .i64 strE b n f w ∧ ∀ z : Int, 0 ≤ z → z < (k : Int) → f z = (K z).map (fun b => Value.string (S b))
theorem KnAt.lt {w : World} {b k : Nat} {K : Kn} (h : KnAt w b k K) : b < w.heap.size := by
  obtain ⟨n, f, _, hm, _⟩ := h.map
  exact hm.lt
theorem KnAt.fr {w w' : World} {G : Nat → Prop} {b k : Nat} {K : Kn} (h : KnAt w b k K) (hf : Fr G w w') (hb : ¬ G b) : KnAt w' b k K := by
  obtain ⟨n, f, h1, hm, h2⟩ := h.map
  exact ⟨n, f, h1, hm.fr hf hb, h2⟩
theorem KnAt.keep {w w' : World} {b k : Nat} {K : Kn} (h : KnAt w b k K) (hb : Lat w w') : KnAt w' b k K := h.fr (G := fun _ => False) (Fr.lat hb) (fun e => e)
theorem KnAt.look_ok {w : World} {b k : Nat} {K : Kn} (h : KnAt w b k K) (hk : k ≤ 16) (z : Int) (h0 : 0 ≤ z) (h1 : z < (k : Int)) :
    (Instr.lookup 147 (.map (some b)) (.int .i64 z) true).run Tryz.prog w = .ok (.tuple #[.string (S ((K z).getD [])), .bool (K z).isSome]) w := by
  obtain ⟨n, f, _, hm, h2⟩ := h.map
  have := hm.look_ok strCodec u_int u_mstr (zero_strV w) (show strE (.string { data := #[] }) = some (_, _) from rfl) z (wf_i64 (by omega))
  rw [h2 z h0 h1] at this
  rw [this]
  cases K z <;> rfl
theorem KnAt.store {w : World} {b k : Nat} {K : Kn} (h : KnAt w b k K) (hk : k ≤ 16) (z : Int) (h0 : 0 ≤ z) (h1 : z < (k : Int)) (hn : K z = none) (x : Bts) :
    ∃ w', (Instr.mapUpdate 147 (.map (some b)) (.int .i64 z) (.string (S x))).run Tryz.prog w = .ok () w' ∧ KnAt w' b k (updK K z x) ∧ Fr (fun j => j = b) w w' := by
  obtain ⟨n, f, hc, hm, h2⟩ := h.map
  obtain ⟨w', hrun, hm2, hf⟩ := hm.store u_int u_mstr (by omega) z (wf_i64 (by omega)) (val := .string (S x)) (d := .lit (.string (S x).data.toList)) (ps := []) rfl
  have hfz := h2 z h0 h1
  rw [hn] at hfz
  rw [hfz] at hm2
  have hu := unkC_upd (k := k) (K := K) x ⟨h0, h1⟩ hn
  refine ⟨w', hrun, ⟨n + 1, _, by omega, by simpa using hm2, fun y g0 g1 => ?_⟩, hf⟩
  unfold updF updK
  by_cases e : y = z
  · subst e; rw [if_pos rfl, if_pos rfl]; rfl
  · rw [if_neg e, if_neg e]; exact h2 y g0 g1
theorem KnAt.made (w : World) (k : Nat) : KnAt (w.alloc (.map #[] 0)) w.heap.size k (fun _ => none) :=
  ⟨0, fun _ => none, by have := unkC_le (fun _ => none) k; omega, MapF.made w _ _ _ _, fun _ _ _ => rfl⟩

structure TkAt (w : World) (b : Nat) (T : List Int) : Prop where
  most : T.length ≤ 60
  map : ∃ f, MapF Tryz.prog 3 .i64 boolE b T.length f w ∧ ∀ z : Int, f z = if z ∈ T then some (Value.bool true) else none
theorem TkAt.lt {w : World} {b : Nat} {T : List Int} (h : TkAt w b T) : b < w.heap.size := by
  obtain ⟨f, hm, _⟩ := h.map
  exact hm.lt
theorem TkAt.fr {w w' : World} {G : Nat → Prop} {b : Nat} {T : List Int} (h : TkAt w b T) (hf : Fr G w w') (hb : ¬ G b) : TkAt w' b T := by
  obtain ⟨f, hm, h2⟩ := h.map
  exact ⟨h.most, f, hm.fr hf hb, h2⟩
theorem TkAt.keep {w w' : World} {b : Nat} {T : List Int} (h : TkAt w b T) (hb : Lat w w') : TkAt w' b T := h.fr (G := fun _ => False) (Fr.lat hb) (fun e => e)
theorem TkAt.look {w : World} {b : Nat} {T : List Int} (h : TkAt w b T) (z : Int) (h0 : 1 ≤ z) (h1 : z ≤ 10000) :
    (Instr.lookup 148 (.map (some b)) (.int .i64 z) false).run Tryz.prog w = .ok (.bool (decide (z ∈ T))) w := by
  obtain ⟨f, hm, h2⟩ := h.map
  have := hm.look boolCodec u_int u_mbool (zero_boolV w) (show boolE (.bool false) = some (_, _) from rfl) z (wf_i64 (by omega))
  rw [h2 z] at this
  rw [this]
  by_cases e : z ∈ T
  · rw [if_pos e, decide_eq_true e]; rfl
  · rw [if_neg e, decide_eq_false e]; rfl
theorem TkAt.len {w : World} {b : Nat} {T : List Int} (h : TkAt w b T) (ty : TypeId) : (Builtin.len_ #[148] ty #[.map (some b)]).run Tryz.prog w = .ok (.int .i64 T.length) w := by
  obtain ⟨f, hm, _⟩ := h.map
  exact hm.len u_mbool ty
theorem TkAt.store {w : World} {b : Nat} {T : List Int} (h : TkAt w b T) (z : Int) (h0 : 1 ≤ z) (h1 : z ≤ 10000) (hn : z ∉ T) (hl : T.length < 60) :
    ∃ w', (Instr.mapUpdate 148 (.map (some b)) (.int .i64 z) (.bool true)).run Tryz.prog w = .ok () w' ∧ TkAt w' b (T ++ [z]) ∧ Fr (fun j => j = b) w w' := by
  obtain ⟨f, hm, h2⟩ := h.map
  obtain ⟨w', hrun, hm2, hf⟩ := hm.store u_int u_mbool (by omega) z (wf_i64 (by omega)) (val := .bool true) (d := .lit (.bool true)) (ps := []) rfl
  rw [h2 z, if_neg hn] at hm2
  refine ⟨w', hrun, ⟨by rw [List.length_append, List.length_singleton]; omega, _, by rw [List.length_append, List.length_singleton]; simpa using hm2, fun y => ?_⟩, hf⟩
  unfold updF
  by_cases e : y = z
  · subst e; rw [if_pos rfl, if_pos (by simp)]
  · rw [if_neg e, h2 y]
    by_cases g : y ∈ T
    · rw [if_pos g, if_pos (List.mem_append_left _ g)]
    · rw [if_neg g, if_neg (fun h => (List.mem_append.1 h).elim g (fun h => e (List.mem_singleton.1 h)))]
theorem TkAt.made (w : World) : TkAt (w.alloc (.map #[] 0)) w.heap.size [] :=
  ⟨by simp, fun _ => none, MapF.made w _ _ _ _, fun z => by simp⟩

def OffG (G : Nat → Prop) (a : Option Addr) (n : Nat) : Prop := n ≠ 0 → ∀ b o, a = some ⟨b, o, none⟩ → ¬ G b
theorem IntsAt.fr {w w' : World} {G : Nat → Prop} {a : Option Addr} {n cap : Nat} {zs : List Int} (h : IntsAt w a n cap zs) (hf : Fr G w w') (ho : OffG G a n) : IntsAt w' a n cap zs :=
  ⟨h.len, ⟨h.row.le, h.row.cap, fun hn => by
    obtain ⟨b, o, ha, hc⟩ := h.row.at_ hn
    exact ⟨b, o, ha, fun j hj => hf.cell_at (hc j hj) (ho hn b o ha)⟩⟩, h.wf⟩
theorem IntsAt.blk {w : World} {a : Option Addr} {n cap : Nat} {zs : List Int} (h : IntsAt w a n cap zs) (hn : n ≠ 0) {b o : Nat} (ha : a = some ⟨b, o, none⟩) : b < w.heap.size := by
  obtain ⟨b', o', ha', hc⟩ := h.row.at_ hn
  have := hc 0 (by omega)
  have e := ha.symm.trans ha'
  injection e with e
  injection e with e1 _ _
  subst e1
  exact World.block_lt_of_cell? _ _ this

def InG (G : Nat → Prop) (a : Option Addr) (n : Nat) : Prop := n ≠ 0 → ∀ b o, a = some ⟨b, o, none⟩ → G b
structure WtAt (w : World) (N G : Nat → Prop) (r : List Value) (x : Wt) : Prop where
  ex : ∃ a c, r = [.slice a x.1.length c, .string (S x.2)] ∧ IntsAt w a x.1.length c x.1 ∧ OffG N a x.1.length ∧ InG G a x.1.length
theorem WtAt.fr {w w' : World} {N G H : Nat → Prop} {r : List Value} {x : Wt} (h : WtAt w N G r x) (hf : Fr H w w') (hs : ∀ i, i < w.heap.size → H i → G i → N i) : WtAt w' N G r x := by
  obtain ⟨a, c, h1, h2, h3, h4⟩ := h.ex
  exact ⟨a, c, h1, h2.fr hf (fun hn b o ha e => h3 hn b o ha (hs b (h2.blk hn ha) e (h4 hn b o ha))), h3, h4⟩
def WtsAt (w : World) (N G : Nat → Prop) (rows : List (List Value)) (L : List Wt) : Prop := rows.length = L.length ∧ ∀ (j : Nat) (x : Wt), L[j]? = some x → ∃ r, rows[j]? = some r ∧ WtAt w N G r x
theorem WtsAt.nil (w : World) (N G : Nat → Prop) : WtsAt w N G [] [] := ⟨rfl, fun j x h => by simp at h⟩
theorem WtsAt.map {w w' : World} {N N' G G' : Nat → Prop} {rows : List (List Value)} {L : List Wt} (h : WtsAt w N G rows L) (hm : ∀ r x, WtAt w N G r x → WtAt w' N' G' r x) : WtsAt w' N' G' rows L :=
  ⟨h.1, fun j x hx => by
    obtain ⟨r, h1, h2⟩ := h.2 j x hx
    exact ⟨r, h1, hm r x h2⟩⟩
theorem WtsAt.fr {w w' : World} {N G H : Nat → Prop} {rows : List (List Value)} {L : List Wt} (h : WtsAt w N G rows L) (hf : Fr H w w') (hs : ∀ i, i < w.heap.size → H i → G i → N i) : WtsAt w' N G rows L := h.map fun _ _ e => e.fr hf hs
theorem WtsAt.keep {w w' : World} {N G : Nat → Prop} {rows : List (List Value)} {L : List Wt} (h : WtsAt w N G rows L) (hb : Lat w w') : WtsAt w' N G rows L := h.fr (H := fun _ => False) (Fr.lat hb) (fun _ _ e => e.elim)
theorem WtAt.off {w : World} {N N' G G' : Nat → Prop} {r : List Value} {x : Wt} (e : WtAt w N G r x) (hs : ∀ i, i < w.heap.size → G i → N' i → N i) (hg : ∀ i, i < w.heap.size → G i → ¬ N i → G' i) : WtAt w N' G' r x := by
  obtain ⟨a, c, h1, h2, h3, h4⟩ := e.ex
  exact ⟨a, c, h1, h2, fun hn b o ha e => h3 hn b o ha (hs b (h2.blk hn ha) (h4 hn b o ha) e), fun hn b o ha => hg b (h2.blk hn ha) (h4 hn b o ha) (h3 hn b o ha)⟩
theorem WtsAt.off {w : World} {N N' G G' : Nat → Prop} {rows : List (List Value)} {L : List Wt} (h : WtsAt w N G rows L) (hs : ∀ i, i < w.heap.size → G i → N' i → N i) (hg : ∀ i, i < w.heap.size → G i → ¬ N i → G' i) : WtsAt w N' G' rows L := h.map fun _ _ e => e.off hs hg
theorem WtsAt.push {w : World} {N G : Nat → Prop} {rows : List (List Value)} {L : List Wt} (h : WtsAt w N G rows L) {r : List Value} {x : Wt} (hx : WtAt w N G r x) : WtsAt w N G (rows ++ [r]) (L ++ [x]) := by
  refine ⟨by rw [List.length_append, List.length_append, h.1]; rfl, fun j y hy => ?_⟩
  by_cases hj : j < L.length
  · rw [List.getElem?_append_left hj] at hy
    obtain ⟨r2, h1, h2⟩ := h.2 j y hy
    exact ⟨r2, by rw [List.getElem?_append_left (by rw [h.1]; exact hj)]; exact h1, h2⟩
  · rw [List.getElem?_append_right (by omega)] at hy
    have hj2 : j - L.length = 0 := by
      rcases Nat.eq_zero_or_pos (j - L.length) with h | h
      · exact h
      · rw [List.getElem?_eq_none (by rw [List.length_singleton]; omega)] at hy; cases hy
    rw [hj2] at hy
    simp at hy
    subst hy
    exact ⟨r, by rw [List.getElem?_append_right (by rw [h.1]; omega), h.1, hj2]; rfl, hx⟩

def Nb (p kb tb : Nat) (v : Value) (i : Nat) : Prop := i = p ∨ i = kb ∨ i = tb ∨ v.ownBlock = some i
structure PeelIn (G : Nat → Prop) (p kb tb k m : Nat) (K : Kn) (T : List Int) (L : List Wt) (a : Option Addr) (cap : Nat) (w : World) : Prop where
  lt : ∀ i, G i → i < w.heap.size
  gp : G p
  gk : G kb
  gt : G tb
  nk : p ≠ kb
  nt : p ≠ tb
  nkt : kb ≠ tb
  c0 : w.cell? ⟨p, 0, none⟩ = some (.int .i64 k)
  c1 : w.cell? ⟨p, 1, none⟩ = some (.int .i64 m)
  c2 : w.cell? ⟨p, 2, none⟩ = some (.map (some kb))
  c3 : w.cell? ⟨p, 3, none⟩ = some (.map (some tb))
  c4 : w.cell? ⟨p, 4, none⟩ = some (.slice a L.length cap)
  free : w.frozen? ⟨p, 4, none⟩ = false
  kn : KnAt w kb k K
  tk : TkAt w tb T
  row : ∃ rows, OwnR w 0 157 2 (.slice a L.length cap) rows ∧ WtsAt w (Nb p kb tb (.slice a L.length cap)) G rows L
  own : ∀ i, (Value.slice a L.length cap).ownBlock = some i → G i ∧ i ≠ p ∧ i ≠ kb ∧ i ≠ tb
  ok : WOk k m K L
  most : L.length ≤ T.length
def PeelO (G : Nat → Prop) (p k m : Nat) (K : Kn) (T : List Int) (L : List Wt) (w : World) : Prop := ∃ kb tb a cap, PeelIn G p kb tb k m K T L a cap w
theorem PeelIn.fr {G H : Nat → Prop} {p kb tb k m : Nat} {K : Kn} {T : List Int} {L : List Wt} {a : Option Addr} {cap : Nat} {w w' : World} (h : PeelIn G p kb tb k m K T L a cap w) (hf : Fr H w w') (hd : ∀ i, G i → ¬ H i) : PeelIn G p kb tb k m K T L a cap w' := by
  have dp := hd _ h.gp
  obtain ⟨rows, ho, hw⟩ := h.row
  exact ⟨fun i hi => Nat.lt_of_lt_of_le (h.lt i hi) hf.size, h.gp, h.gk, h.gt, h.nk, h.nt, h.nkt, hf.cell_at h.c0 dp, hf.cell_at h.c1 dp, hf.cell_at h.c2 dp, hf.cell_at h.c3 dp, hf.cell_at h.c4 dp, hf.free_at (h.lt _ h.gp) h.free dp,
    h.kn.fr hf (hd _ h.gk), h.tk.fr hf (hd _ h.gt), ⟨rows, ho.fr hf (fun i hi => hd _ (h.own i hi).1), hw.fr hf (fun i _ h1 h2 => absurd h1 (hd i h2))⟩, h.own, h.ok, h.most⟩
theorem PeelIn.keep {G : Nat → Prop} {p kb tb k m : Nat} {K : Kn} {T : List Int} {L : List Wt} {a : Option Addr} {cap : Nat} {w w' : World} (h : PeelIn G p kb tb k m K T L a cap w) (hb : Lat w w') : PeelIn G p kb tb k m K T L a cap w' :=
  h.fr (H := fun _ => False) (Fr.lat hb) (fun _ _ e => e)
theorem PeelIn.grow {G G' : Nat → Prop} {p kb tb k m : Nat} {K : Kn} {T : List Int} {L : List Wt} {a : Option Addr} {cap : Nat} {w : World} (h : PeelIn G p kb tb k m K T L a cap w) (hs : ∀ i, G i → G' i) (hl : ∀ i, G' i → i < w.heap.size) : PeelIn G' p kb tb k m K T L a cap w := by
  obtain ⟨rows, ho, hw⟩ := h.row
  exact ⟨hl, hs _ h.gp, hs _ h.gk, hs _ h.gt, h.nk, h.nt, h.nkt, h.c0, h.c1, h.c2, h.c3, h.c4, h.free, h.kn, h.tk, ⟨rows, ho, hw.off (fun _ _ _ e => e) (fun i _ e _ => hs i e)⟩, fun i hi => ⟨hs _ (h.own i hi).1, (h.own i hi).2⟩, h.ok, h.most⟩
theorem PeelO.fr {G H : Nat → Prop} {p k m : Nat} {K : Kn} {T : List Int} {L : List Wt} {w w' : World} (h : PeelO G p k m K T L w) (hf : Fr H w w') (hd : ∀ i, G i → ¬ H i) : PeelO G p k m K T L w' := by
  obtain ⟨kb, tb, a, cap, h⟩ := h
  exact ⟨kb, tb, a, cap, h.fr hf hd⟩
theorem PeelO.keep {G : Nat → Prop} {p k m : Nat} {K : Kn} {T : List Int} {L : List Wt} {w w' : World} (h : PeelO G p k m K T L w) (hb : Lat w w') : PeelO G p k m K T L w' := by
  obtain ⟨kb, tb, a, cap, h⟩ := h
  exact ⟨kb, tb, a, cap, h.keep hb⟩
structure PeelStep (G : Nat → Prop) (p k m : Nat) (K : Kn) (T : List Int) (L : List Wt) (w w' : World) : Prop where
  fr : Fr G w w'
  obj : ∃ G', PeelO G' p k m K T L w' ∧ ∀ i, G' i → G i ∨ w.heap.size ≤ i
end Go.Proofs.YtheimfdbadjpoaaGreatDoor

namespace Go.Proofs.YtheimfdbadjpoaaGreatDoor
open Go.ChangeShapes Go.WideShapes Go.ChangeAt Go.RowKit

theorem Own.frL {w w' : World} {B b : Nat} {e : TypeId} {v : Value} {xs : List Value} (h : Own w B e v xs) (hf : Fr (fun j => j = b) w w') (hb : b < B) : Own w' B e v xs :=
  Own.grown h ⟨hf.os, hf.tape, hf.output, hf.size, fun k hk hne => hf.block k hk (fun e => hne (by rw [e]))⟩ fun g hg e => by
    have e : b = g := Option.some.inj e
    have := (Own.lt h g hg).1
    omega
structure WB (w : World) (X : Nat) (a : Option Addr) (n cap : Nat) (d : Bts) (wr : World) : Prop where
  lat : Lat w wr
  lo : w.heap.size ≤ X
  lt : X + 1 < wr.heap.size
  c0 : wr.cell? ⟨X, 0, none⟩ = some (.slice a n cap)
  c1 : wr.cell? ⟨X, 1, none⟩ = some (.string (S d))
  f0 : wr.frozen? ⟨X, 0, none⟩ = false
  f1 : wr.frozen? ⟨X, 1, none⟩ = false
  r0 : wr.cell? ⟨X + 1, 0, none⟩ = some (.slice none 0 0)
  r1 : wr.cell? ⟨X + 1, 1, none⟩ = some (.string { data := #[] })
  g0 : wr.frozen? ⟨X + 1, 0, none⟩ = false
  g1 : wr.frozen? ⟨X + 1, 1, none⟩ = false
theorem WB.keep {w : World} {X : Nat} {a : Option Addr} {n cap : Nat} {d : Bts} {wr wx : World} (h : WB w X a n cap d wr) (hb : Lat wr wx) : WB w X a n cap d wx :=
  ⟨h.lat.trans hb, h.lo, Nat.lt_of_lt_of_le h.lt hb.size, hb.cell_at h.c0, hb.cell_at h.c1, hb.free_at (by have := h.lt; simp; omega) h.f0, hb.free_at (by have := h.lt; simp; omega) h.f1, hb.cell_at h.r0, hb.cell_at h.r1, hb.free_at h.lt h.g0, hb.free_at h.lt h.g1⟩
theorem WB.fr {w : World} {X : Nat} {a : Option Addr} {n cap : Nat} {d : Bts} {wr wx : World} {G : Nat → Prop} (h : WB w X a n cap d wr) (hb : Fr G wr wx) (hX : ∀ i, G i → X + 2 ≤ i) : WB w X a n cap d wx := by
  have n0 : ¬ G X := fun e => by have := hX _ e; omega
  have n1 : ¬ G (X + 1) := fun e => by have := hX _ e; omega
  have hlt := h.lt
  exact ⟨hb.lat_of h.lat (fun i e => by have := hX i e; have := h.lo; omega), h.lo, Nat.lt_of_lt_of_le h.lt hb.size, hb.cell_at h.c0 n0, hb.cell_at h.c1 n0, hb.free_at (by simp; omega) h.f0 n0, hb.free_at (by simp; omega) h.f1 n0, hb.cell_at h.r0 n1, hb.cell_at h.r1 n1, hb.free_at h.lt h.g0 n1, hb.free_at h.lt h.g1 n1⟩
theorem WB.put {w : World} {X : Nat} {a : Option Addr} {n cap : Nat} {d : Bts} {wr : World} (h : WB w X a n cap d wr) (e : Bts) : WB w X a n cap e (wr.setCell ⟨X, 1, none⟩ (.string (S e))) := by
  have hs : (wr.setCell ⟨X, 1, none⟩ (.string (S e))).heap.size = wr.heap.size := by simp [World.setCell]
  refine ⟨h.lat.setCell (p := ⟨X, 1, none⟩) h.lo _, h.lo, by rw [hs]; exact h.lt, ?_, World.cell?_setCell_same _ _ _ h.c1, by rw [World.frozen?_setCell]; exact h.f0, by rw [World.frozen?_setCell]; exact h.f1, ?_, ?_, by rw [World.frozen?_setCell]; exact h.g0, by rw [World.frozen?_setCell]; exact h.g1⟩
  · rw [World.cell?_setCell_other _ _ _ _ (by simp)]; exact h.c0
  · rw [World.cell?_setCell_other _ _ _ _ (by intro e; injection e with e _ _; omega)]; exact h.r0
  · rw [World.cell?_setCell_other _ _ _ _ (by intro e; injection e with e _ _; omega)]; exact h.r1

theorem app_intG (wr : World) (B : Nat) {ops : Array Oper} {rest : List Oper} {o : Oper} {a : Act} {Q : Exit → Act → World → Prop}
    (hg : o.guard = none) (s x : Operand) (ho : o.op = .call { callee := .builtin .append, args := #[s, x], argTypes := #[23, 23] })
    (v : Value) (zs : List Int) (z : Int) (hs : a.eval s = v) (hown : OwnInts wr B v zs) (hx : a.eval x = .slice (some ⟨wr.heap.size, 0, none⟩) 1 1)
    (hn : zs.length < 1000000) (hB : B ≤ wr.heap.size)
    (K : ∀ v' w', OwnInts w' B v' (zs ++ [z]) → Fr (fun j => v.ownBlock = some j) wr w' → wpList Tryz.prog ops Q rest (a.put o.dst v') w') :
    wpList Tryz.prog ops Q (o :: rest) a (wr.alloc (.cells #[.int .i64 z] 3)) := by
  have hal : OwnInts (wr.alloc (.cells #[.int .i64 z] 3)) B v zs := Own.alloc hown _
  have hrow1 : RowAt (wr.alloc (.cells #[.int .i64 z] 3)) (some ⟨wr.heap.size, 0, none⟩) 1 1 (fun j => [Value.int .i64 z].getD j undef) := by
    refine ⟨Nat.le_refl _, by unfold maxLen; omega, fun _ => ⟨wr.heap.size, 0, rfl, fun j hj => ?_⟩⟩
    obtain rfl : j = 0 := by omega
    simp
  obtain ⟨v', w', hrun, h2, h3, _⟩ := run_app_many (P := Tryz.prog) (wr.alloc (.cells #[.int .i64 z] 3)) B 23 o.type 3 (.int .i64 0) 8 Tryz.underlying23 info_int rfl (by decide) v _ hal (some ⟨wr.heap.size, 0, none⟩) 1 1 [.int .i64 z] rfl
    hrow1 (fun u hu => by rw [List.mem_singleton.1 hu]; rfl) (by rw [List.length_map]; omega) (by simp; omega)
  refine wpList_plain hg fun K' hK => ?_
  unfold Oper.wp execOp
  simp only [ho, resolve, invoke, builtin, Sem.run_bind, Sem.run_pure, Result.andThen_ok, List.map_toArray, List.map_cons, List.map_nil, hs, hx, hrun]
  refine hK _ _ (K v' w' (by simpa [OwnInts] using h2) ⟨h3.os, h3.tape, h3.output, ?_, fun k hk hne => ?_⟩)
  · have := h3.size; simp at this; omega
  · rw [h3.block k (by simp; omega) (fun e => hne e.symm)]; exact heap_alloc_old wr _ hk
theorem two_put {w : World} {g : Nat} {a b : Value} (c0 : w.cell? ⟨g, 0, none⟩ = some a) (c1 : w.cell? ⟨g, 1, none⟩ = some b) (x y : Value) :
    ((w.setCell ⟨g, 0, none⟩ x).setCell ⟨g, 1, none⟩ y).cell? ⟨g, 0, none⟩ = some x ∧ ((w.setCell ⟨g, 0, none⟩ x).setCell ⟨g, 1, none⟩ y).cell? ⟨g, 1, none⟩ = some y := by
  constructor
  · rw [World.cell?_setCell_other _ _ _ _ (by simp)]; exact World.cell?_setCell_same _ _ _ c0
  · exact World.cell?_setCell_same _ _ _ ((World.cell?_setCell_other _ _ _ _ (by simp)).trans c1)
theorem two_box {w W1 : World} (hz : W1.heap.size = w.heap.size + 1) (v0 v1 : Value) (t : TypeId) :
    ((W1.alloc (.cells #[v0, v1] t)).cell? ⟨w.heap.size + 1, 0, none⟩ = some v0 ∧ (W1.alloc (.cells #[v0, v1] t)).cell? ⟨w.heap.size + 1, 1, none⟩ = some v1) ∧ (W1.alloc (.cells #[v0, v1] t)).frozen? ⟨w.heap.size + 1, 0, none⟩ = false ∧ (W1.alloc (.cells #[v0, v1] t)).frozen? ⟨w.heap.size + 1, 1, none⟩ = false := by
  rw [← hz]; simp
theorem WB.new (w : World) (a : Option Addr) (n cap : Nat) (d : Bts) : WB w w.heap.size a n cap d ((w.alloc (.cells #[.slice a n cap, .string (S d)] 157)).alloc (.cells #[.slice none 0 0, .string { data := #[] }] 157)) := by
  obtain ⟨W1, hW⟩ : ∃ W1, W1 = w.alloc (.cells #[.slice a n cap, .string (S d)] 157) := ⟨_, rfl⟩
  have hz : W1.heap.size = w.heap.size + 1 := by rw [hW]; simp
  have c0 : W1.cell? ⟨w.heap.size, 0, none⟩ = some (.slice a n cap) := by rw [hW]; simp
  have c1 : W1.cell? ⟨w.heap.size, 1, none⟩ = some (.string (S d)) := by rw [hW]; simp
  have f0 : W1.frozen? ⟨w.heap.size, 0, none⟩ = false := by rw [hW]; simp
  have f1 : W1.frozen? ⟨w.heap.size, 1, none⟩ = false := by rw [hW]; simp
  have hl : Lat w W1 := by rw [hW]; exact Lat.alloc _ _
  rw [← hW]
  have h2 := two_box hz (.slice none 0 0) (.string { data := #[] }) 157
  refine ⟨hl.trans (Lat.alloc _ _), Nat.le_refl _, by simp [hz], (Lat.alloc _ _).cell_at c0, (Lat.alloc _ _).cell_at c1, (Lat.alloc _ _).free_at (by simp [hz]) f0, (Lat.alloc _ _).free_at (by simp [hz]) f1, h2.1.1, h2.1.2, h2.2.1, h2.2.2⟩
theorem filt_succ (K : Kn) (zs : List Int) (j : Nat) (hj : j < zs.length) : (zs.take (j + 1)).filter (unkn K) = if unkn K (zs.getD j 0) = true then (zs.take j).filter (unkn K) ++ [zs.getD j 0] else (zs.take j).filter (unkn K) := by
  have e : zs.getD j 0 = zs[j] := by rw [List.getD_eq_getElem?_getD, List.getElem?_eq_getElem hj]; rfl
  rw [List.take_succ_eq_append_getElem hj, List.filter_append, e]
  cases h : unkn K zs[j] <;> simp [h]
theorem fold_succ (K : Kn) (zs : List Int) (d : Bts) (j : Nat) (hj : j < zs.length) : (zs.take (j + 1)).foldl (ovK K) d = ovK K ((zs.take j).foldl (ovK K) d) (zs.getD j 0) := by
  have e : zs.getD j 0 = zs[j] := by rw [List.getD_eq_getElem?_getD, List.getElem?_eq_getElem hj]; rfl
  rw [List.take_succ_eq_append_getElem hj, List.foldl_append, e]; rfl

set_option maxHeartbeats 4000000 in
set_option maxRecDepth 100000 in
theorem without_any (p kb k m : Nat) (K : Kn) (a : Option Addr) (n cap : Nat) (zs : List Int) (d : Bts) (w : World) (hc2 : w.cell? ⟨p, 2, none⟩ = some (.map (some kb))) (hkn : KnAt w kb k K) (hk : k ≤ 16) (hz : IntsAt w a n cap zs) (hn : n ≤ 1000)
    (hin : ∀ z ∈ zs, 0 ≤ z ∧ z < (k : Int)) (hK : ∀ z b, K z = some b → 0 ≤ z ∧ z < (k : Int) ∧ b.length = m) (hd : d.length = m) (hm : m ≤ 8) :
    Calls Tryz.prog 140 #[.pointer (some ⟨p, 0, none⟩), .agg #[.slice a n cap, .string (S d)]] w fun e w' =>
      ∃ a' c', e = .returned (.agg #[.slice a' (wout K (zs, d)).1.length c', .string (S (wout K (zs, d)).2)]) ∧ IntsAt w' a' (wout K (zs, d)).1.length c' (wout K (zs, d)).1 ∧ (∀ b o, a' = some ⟨b, o, none⟩ → w.heap.size ≤ b) ∧ Lat w w' := by
  have hl := hz.len
  have hle := hz.row.le
  have hcm := hz.row.cap
  unfold maxLen at hcm
  have hb0 := WB.new w a n cap d
  have H2 := Lib.hid hc2; have HKN := Lib.hid hkn; have HZ := Lib.hid hz; have HIN := Lib.hid hin; have HKL := Lib.hid hK; have HD := Lib.hid hd; have HL := Lib.hid hl; have HB0 := Lib.hid hb0
  clear hc2 hkn hz hin hK hd hl hb0
  go_enter Tryz.func140, Tryz.ntmps140
  go_wp2
  go_loopw [5, 7, 8, 9, 13] (fun v _ _ _ i wr => ∃ j : Nat, j ≤ n ∧ i = .int .i64 j ∧ Hid (OwnInts wr (w.heap.size + 2) v ((zs.take j).filter (unkn K)) ∧ WB w w.heap.size a n cap ((zs.take j).foldl (ovK K) d) wr)) (fun _ _ _ _ i _ => n - (intOf i).toNat)
  case atStart => exact ⟨0, Nat.zero_le _, rfl, Own.nil _ _ _, HB0.out⟩
  case round =>
    obtain ⟨j, hj, rfl, hrel⟩ := hrel
    by_cases hlt : j < n
    · obtain ⟨hown, hwb⟩ := hrel.out
      obtain ⟨ab, ao, rfl, hc⟩ := (HZ.out.keep hwb.lat).row.at_ (by omega)
      have c1 := hc j hlt
      have hjl : j < zs.length := by rw [HL.out]; exact hlt
      have hzm := HIN.out _ (getD_mem zs j hjl)
      have hfs := filt_succ K zs j hjl
      have hds := fold_succ K zs d j hjl
      have hdl := ovK_len HKL.out (zs.take j) d HD.out
      obtain ⟨z, hz⟩ : ∃ z, z = zs.getD j 0 := ⟨_, rfl⟩
      obtain ⟨dj, hdj⟩ : ∃ dj, dj = (zs.take j).foldl (ovK K) d := ⟨_, rfl⟩
      rw [← hz] at c1 hzm hfs hds
      rw [← hdj] at hds hdl hwb
      have c2 := hwb.lat.cell_at H2.out
      have b0 := hwb.c0
      have b1 := hwb.c1
      have g1 := hwb.f1
      have i1 : (0 : Int) ≤ (j : Int) := by omega
      have i2 : (j : Int) < (n : Int) := by omega
      have hlook := (HKN.out.keep hwb.lat).look_ok hk z hzm.1 hzm.2
      obtain ⟨X, hX⟩ : ∃ X, X = w.heap.size := ⟨_, rfl⟩
      have HFS := Lib.hid hfs; have HDS := Lib.hid hds; have HDL := Lib.hid hdl; have HOW := Lib.hid hown; have HWB := Lib.hid hwb; have HJL := Lib.hid hjl; have HZM := Lib.hid hzm; have HX := Lib.hid hX
      clear hrel hc hjl hzm hfs hds hdl hz hdj hown hwb
      cases hq : K z with
      | some b =>
        have hbl := (HKL.out z b hq).2.2
        have hu : unkn K z = false := by unfold unkn; rw [hq]; rfl
        have ho : ovK K dj z = xorL dj b := by unfold ovK; rw [hq]
        rw [hq] at hlook
        have hlook2 : ∀ W, Lat wr W → (Instr.lookup 147 (.map (some kb)) (.int .i64 z) true).run Tryz.prog W = .ok (.tuple #[.string (S b), .bool true]) W := fun W hW => by
          have := ((HKN.out.keep HWB.out.lat).keep hW).look_ok hk z HZM.out.1 HZM.out.2
          rw [hq] at this; exact this
        have hover := fun W => overS dj (S b) W (by rw [HDL.out]; exact hbl.symm) (by rw [HDL.out]; unfold maxLen; omega)
        have h3 := hlook2 wr (Lat.refl _)
        have HQ := Lib.hid hq; have HBL := Lib.hid hbl; have HU := Lib.hid hu; have HO := Lib.hid ho; have HOV := Lib.hid hover
        clear hq hlook hlook2 hbl hu ho hover
        go_wp2_with (go_at_call 99; refine (HOV.out _).mono ?_; rintro e w5 ⟨rfl, hb5⟩; have hwb5 := HWB.out.keep hb5; have k1 := hwb5.c1; have k2 := hwb5.f1; have HW5 := Lib.hid hwb5; have HB5 := Lib.hid hb5; clear hwb5 hb5)
        go_roundw
        case rel => exact ⟨j + 1, by omega, by go_num, by rw [HFS.out, HU.out, if_neg (by decide)]; exact Own.frL (Own.keep HOW.out HB5.out) (Fr.set (S := fun i => i = w.heap.size) _ ⟨w.heap.size, 1, none⟩ _ rfl) (by omega), by rw [HDS.out, HO.out]; exact HW5.out.put _⟩
        case measure => simp [intOf]; omega
      | none =>
        have hlook2 : (Instr.lookup 147 (.map (some kb)) (.int .i64 z) true).run Tryz.prog wr = .ok (.tuple #[.string { data := #[] }, .bool false]) wr := by
          rw [hq] at hlook; exact hlook
        have hu : unkn K z = true := by unfold unkn; rw [hq]; rfl
        have ho : ovK K dj z = dj := by unfold ovK; rw [hq]
        have HU := Lib.hid hu; have HO := Lib.hid ho
        clear hq hlook hu ho
        have hl : ((zs.take j).filter (unkn K)).length < 1000000 := by
          have h1 := List.length_filter_le (unkn K) (zs.take j)
          rw [List.length_take] at h1
          omega
        have HLL := Lib.hid hl
        have HWZ : Hid (w.heap.size + 2 ≤ wr.heap.size) := HWB.out.lt
        clear hl
        go_wp2_with (at_builtin; refine app_intG wr (w.heap.size + 2) rfl (.tmp 32) (.tmp 34) rfl _ _ z rfl HOW.out rfl HLL.out HWZ.out ?_; intro v' w2 hown' hf2)
        go_roundw
        case rel => exact ⟨j + 1, by omega, by go_num, by rw [HFS.out, HU.out, if_pos rfl]; exact hown', by rw [HDS.out, HO.out]; exact HWB.out.fr hf2 (fun i e => (Own.lt HOW.out i e).1)⟩
        case measure => simp [intOf]; omega
    · obtain rfl : j = n := by omega
      obtain ⟨hown, hwb⟩ := hrel.out
      have b0 := hwb.c0
      have b1 := hwb.c1
      have g0 := hwb.f0
      have g1 := hwb.f1
      have r0 := hwb.r0
      have r1 := hwb.r1
      have s0 := hwb.g0
      have s1 := hwb.g1
      have HWB := Lib.hid hwb
      have ht : zs.take j = zs := List.take_of_length_le (by rw [HL.out]; exact Nat.le_refl _)
      rw [ht] at hown b1 HWB
      obtain ⟨oa, oc, rfl, hat⟩ := OwnInts.slice hown (fun z hz => by have := HIN.out z (List.mem_filter.1 hz).1; omega)
      have hbk : ∀ b o, oa = some ⟨b, o, none⟩ → w.heap.size + 2 ≤ b := fun b o e => (Own.lt hown b (by rw [e]; rfl)).1
      obtain ⟨fs, hfs⟩ : ∃ fs, fs = zs.filter (unkn K) := ⟨_, rfl⟩
      obtain ⟨dd, hdd⟩ : ∃ dd, dd = zs.foldl (ovK K) d := ⟨_, rfl⟩
      have hwo : wout K (zs, d) = (fs, dd) := by unfold wout; rw [hfs, hdd]
      rw [← hfs] at hat
      rw [← hdd] at b1 HWB
      obtain ⟨fl, hfl⟩ : ∃ fl, fl = fs.length := ⟨_, rfl⟩
      rw [← hfs, ← hfl]
      rw [← hfl] at hat
      have HWO := Lib.hid hwo; have HFL := Lib.hid hfl
      have HAT := Lib.hid hat; have HBK := Lib.hid hbk
      obtain ⟨W1, hW1⟩ : ∃ W1, W1 = wr.setCell ⟨w.heap.size, 0, none⟩ (.slice oa fl oc) := ⟨_, rfl⟩
      have q0 : W1.cell? ⟨w.heap.size, 0, none⟩ = some (.slice oa fl oc) := by rw [hW1]; exact World.cell?_setCell_same _ _ _ b0
      have q1 : W1.cell? ⟨w.heap.size, 1, none⟩ = some (.string (S dd)) := by rw [hW1, World.cell?_setCell_other _ _ _ _ (by simp)]; exact b1
      have q2 : W1.cell? ⟨w.heap.size + 1, 0, none⟩ = some (.slice none 0 0) := by rw [hW1, World.cell?_setCell_other _ _ _ _ (by intro e; injection e with e _ _; omega)]; exact r0
      have q3 : W1.cell? ⟨w.heap.size + 1, 1, none⟩ = some (.string { data := #[] }) := by rw [hW1, World.cell?_setCell_other _ _ _ _ (by intro e; injection e with e _ _; omega)]; exact r1
      have q4 : W1.frozen? ⟨w.heap.size + 1, 0, none⟩ = false := by rw [hW1, World.frozen?_setCell]; exact s0
      have q5 : W1.frozen? ⟨w.heap.size + 1, 1, none⟩ = false := by rw [hW1, World.frozen?_setCell]; exact s1
      have hfr : Fr (fun i => i = w.heap.size ∨ i = w.heap.size + 1) wr W1 := by rw [hW1]; exact Fr.set _ _ _ (.inl rfl)
      have HFR := Lib.hid hfr; have HOWN := Lib.hid hown; have HW1 := Lib.hid hW1
      clear hrel hown hwb ht hat hbk hfs hdd hwo hfl hfr
      go_upto_region 11 with fail
      rw [← hW1]
      clear hW1 b0 b1 g0 g1 r0 r1 s0 s1
      go_wp2
      have Q := two_put q2 q3 (.slice oa fl oc) (.string (S dd))
      have hfin : Fr (fun i => i = w.heap.size ∨ i = w.heap.size + 1) wr ((W1.setCell ⟨w.heap.size + 1, 0, none⟩ (.slice oa fl oc)).setCell ⟨w.heap.size + 1, 1, none⟩ (.string (S dd))) := (HFR.out.then_set ⟨w.heap.size + 1, 0, none⟩ _ (.inl (.inr rfl))).then_set ⟨w.heap.size + 1, 1, none⟩ _ (.inl (.inr rfl))
      refine bodyPost_ret (v := .agg #[.slice oa fl oc, .string (S dd)]) (by simp [results, Tryz.results140, go_sem, Q.1, Q.2]) rfl ?_
      rw [HWO.out]
      show ∃ a' c', Ending.returned (.agg #[.slice oa fl oc, .string (S dd)]) = .returned (.agg #[.slice a' fs.length c', .string (S dd)]) ∧ IntsAt _ a' fs.length c' fs ∧ _
      rw [← HFL.out]
      refine ⟨oa, oc, rfl, HAT.out.fr hfin (fun hn b o e h => ?_), fun b o e => ?_, hfin.lat_of HWB.out.lat (fun i e => ?_)⟩
      · have := HBK.out b o e
        omega
      · have := HBK.out b o e
        omega
      · omega
end Go.Proofs.YtheimfdbadjpoaaGreatDoor

