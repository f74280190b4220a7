/- The contract of dropref1.Heal: every answer. -/
import Derived.Test.YtpaoiebngbfbpaaDoorRefHeal
namespace Go.Proofs.YtpaoiebngbfbpaaDoor
open Go.ChangeShapes Go.WideShapes Go.ChangeAt Go.RowKit

set_option maxRecDepth 100000 in
theorem refHeal_chk (a : Option Addr) (n cap : Nat) (xs : List ByteArray) (a2 : Option Addr) (n2 c2 : Nat) (e : Int) (w : World) (h : StrsAt w a n cap xs) (hb : chk xs ≠ 0) :
    Calls Tryd.prog 11 #[.slice a n cap, .slice a2 n2 c2, .int .i64 e] w fun x w' => x = .returned (.tuple #[.slice none 0 0, .int .i64 (chk xs)]) ∧ Lat w w' := by
  have H := Lib.hid h
  obtain ⟨C, hC⟩ : ∃ C, C = chk xs := ⟨_, rfl⟩
  have hk := fun W (hW : Lat w W) => refBlocks a n cap xs W (h.keep hW)
  rw [← hC] at hb hk ⊢
  have HKK := Lib.hid hk
  have d0 : ((C : Int) != 0) = true := by rw [bne_iff_ne]; omega
  clear h hC hk hb
  go_enter Tryd.func11, Tryd.ntmps11
  go_wp2_with (go_at_call 5; refine (HKK.out _ (Lat.refl _)).mono ?_; rintro x w1 ⟨rfl, hb1⟩)
  go_ret2
  exact ⟨rfl, hb1⟩
set_option maxRecDepth 100000 in
theorem refHeal_shape (a : Option Addr) (n cap : Nat) (xs : List ByteArray) (a2 : Option Addr) (n2 c2 : Nat) (e : Int) (w : World) (h : StrsAt w a n cap xs) (hb : chk xs = 0) (hn : n2 ≠ n) :
    Calls Tryd.prog 11 #[.slice a n cap, .slice a2 n2 c2, .int .i64 e] w fun x w' => x = .returned (.tuple #[.slice none 0 0, .int .i64 3]) ∧ Lat w w' := by
  have d0 : ((n2 : Int) != (n : Int)) = true := by simp; omega
  have H := Lib.hid h; have HB := Lib.hid hb
  clear h hb
  go_enter Tryd.func11, Tryd.ntmps11
  go_wp2_with (go_at_call 5; refine (refBlocks _ n cap xs _ H.out).mono ?_; rw [HB.out]; rintro x w1 ⟨rfl, hb1⟩)
  go_ret2
  exact ⟨rfl, hb1⟩
set_option maxRecDepth 100000 in
theorem refHeal_range (a : Option Addr) (n cap : Nat) (xs : List ByteArray) (a2 : Option Addr) (c2 : Nat) (e : Int) (w : World) (h : StrsAt w a n cap xs) (hb : chk xs = 0) (he : e < 1 ∨ 16 < e) :
    Calls Tryd.prog 11 #[.slice a n cap, .slice a2 n c2, .int .i64 e] w fun x w' => x = .returned (.tuple #[.slice none 0 0, .int .i64 1]) ∧ Lat w w' := by
  have d0 : ((n : Int) != (n : Int)) = false := by simp
  have H := Lib.hid h; have HB := Lib.hid hb
  clear h hb
  rcases he with he | he
  · have d1 : decide (e < 1) = true := decide_eq_true he
    go_enter Tryd.func11, Tryd.ntmps11
    go_wp2_with (go_at_call 5; refine (refBlocks _ n cap xs _ H.out).mono ?_; rw [HB.out]; rintro x w1 ⟨rfl, hb1⟩)
    go_ret2
    exact ⟨rfl, hb1⟩
  · have d1 : decide (e < 1) = false := decide_eq_false (by omega)
    have d2 : decide (16 < e) = true := decide_eq_true he
    go_enter Tryd.func11, Tryd.ntmps11
    go_wp2_with (go_at_call 5; refine (refBlocks _ n cap xs _ H.out).mono ?_; rw [HB.out]; rintro x w1 ⟨rfl, hb1⟩)
    go_ret2
    exact ⟨rfl, hb1⟩
set_option maxRecDepth 100000 in
theorem refHeal_data (a : Option Addr) (N cap : Nat) (xs : List ByteArray) (a2 : Option Addr) (c2 : Nat) (e : Nat) (w : World) (h : StrsAt w a N cap xs) (hb : chk xs = 0) (he : 1 ≤ e) (he2 : e ≤ 16) (hd : dat N e = 0) :
    Calls Tryd.prog 11 #[.slice a N cap, .slice a2 N c2, .int .i64 e] w fun x w' => x = .returned (.tuple #[.slice none 0 0, .int .i64 3]) ∧ Lat w w' := by
  have hck := chk_ok hb
  have hl := h.len
  have hN1 : 1 ≤ N := by have := hck.pos; omega
  have hN16 : N ≤ 16 := by have := hck.most; omega
  have d0 : ((N : Int) != (N : Int)) = false := by simp
  have de1 : decide ((e : Int) < 1) = false := decide_eq_false (by omega)
  have de2 : decide ((16 : Int) < (e : Int)) = false := decide_eq_false (by omega)
  have H := Lib.hid h; have HB := Lib.hid hb; have HD := Lib.hid hd
  clear h hb hck hl hd
  go_enter Tryd.func11, Tryd.ntmps11
  go_wp2_with (go_at_call 5; refine (refBlocks _ N cap xs _ H.out).mono ?_; rw [HB.out]; rintro x w1 ⟨rfl, hb1⟩)
  have HB1 := Lib.hid hb1
  clear hb1
  go_loop [9] (fun v => ∃ k : Nat, 1 ≤ k ∧ k ≤ N ∧ v = .int .i64 k ∧ Hid (datF N e (N + 1 - k) k = 0)) (fun v => 20 - (intOf v).toNat)
  case atStart => exact ⟨1, Nat.le_refl _, hN1, rfl, by show _ = _; rw [← HD.out]; rfl⟩
  case round =>
    obtain ⟨k, hk1, hk, rfl, hrel⟩ := hrel
    by_cases hlt : k < N
    · have hst : 0 = if k + grps k e = N then k else datF N e (N + 1 - (k + 1)) (k + 1) := by
        rw [← hrel.out, show N + 1 - k = (N - k) + 1 from by omega, datF, if_pos hlt, show N + 1 - (k + 1) = N - k from by omega]
      have hgm := (grps_mul k e he).2
      have hgk : grps k e ≤ grps k e * e := Nat.le_mul_of_pos_right _ he
      obtain ⟨g, hg⟩ : ∃ g, g = grps k e := ⟨_, rfl⟩
      have hc := fun W => refGroups k e W (by omega) he he2
      rw [← hg] at hst hgm hgk hc
      have hgb : g ≤ 2000 := by omega
      have hne2 : ¬ k + g = N := fun heq => by rw [if_pos heq] at hst; omega
      have HNE : Hid (0 = datF N e (N + 1 - (k + 1)) (k + 1)) := by show _ = _; rw [if_neg hne2] at hst; exact hst
      have HC := Lib.hid hc
      have dk : decide (k < N) = true := decide_eq_true hlt
      have d1 : ((k : Int) + (g : Int) != (N : Int)) = true := by rw [bne_iff_ne]; omega
      clear hst hgm hgk hg hc hrel hne2
      go_wp2_with (go_at_call 6; refine (HC.out _).mono ?_; rintro y w2 ⟨rfl, rfl⟩)
      go_round
      case rel => exact ⟨k + 1, by omega, by omega, by go_num, HNE.out.symm⟩
      case measure => simp [intOf]; omega
    · obtain rfl : k = N := by omega
      have dk : decide (k < k) = false := decide_eq_false (by omega)
      clear hrel
      go_wp2
      go_ret2
      exact ⟨rfl, HB1.out⟩

theorem refHeal_any (a : Option Addr) (n cap : Nat) (xs : List ByteArray) (a2 : Option Addr) (n2 c2 : Nat) (lk : List Bool) (e : Int) (w : World) (h : StrsAt w a n cap xs) (h2 : BoolsAt w a2 n2 c2 lk) :
    Calls Tryd.prog 11 #[.slice a n cap, .slice a2 n2 c2, .int .i64 e] w fun x w' => (∃ v, x = .returned (.tuple #[v, .int .i64 (healE xs lk e)]) ∧ HealOut w' v (healE xs lk e) (healS xs lk e)) ∧ Lat w w' := by
  have hl := h.len
  have hl2 := h2.len
  have key : ∀ k : Nat, k ≠ 0 → healE xs lk e = k → (Calls Tryd.prog 11 #[.slice a n cap, .slice a2 n2 c2, .int .i64 e] w fun x w' => x = .returned (.tuple #[.slice none 0 0, .int .i64 k]) ∧ Lat w w') →
      Calls Tryd.prog 11 #[.slice a n cap, .slice a2 n2 c2, .int .i64 e] w fun x w' => (∃ v, x = .returned (.tuple #[v, .int .i64 (healE xs lk e)]) ∧ HealOut w' v (healE xs lk e) (healS xs lk e)) ∧ Lat w w' :=
    fun k hk he hc => hc.mono fun x w' ⟨hx, hL⟩ => ⟨⟨_, by rw [he]; exact hx, none, 0, 0, rfl, fun h => absurd (he.symm.trans h) hk, fun _ => rfl⟩, hL⟩
  by_cases c1 : chk xs ≠ 0
  · exact key (chk xs) c1 (by unfold healE; rw [if_pos c1]) (refHeal_chk a n cap xs a2 n2 c2 e w h c1)
  by_cases c2' : lk.length ≠ xs.length
  · exact key 3 (by omega) (by unfold healE; rw [if_neg c1, if_pos c2']) (refHeal_shape a n cap xs a2 n2 c2 e w h (by omega) (by omega))
  obtain rfl : n2 = n := by omega
  by_cases c3 : e < 1 ∨ 16 < e
  · exact key 1 (by omega) (by unfold healE; rw [if_neg c1, if_neg c2', if_pos c3]) (refHeal_range a n2 cap xs a2 c2 e w h (by omega) c3)
  obtain ⟨k, rfl⟩ : ∃ k : Nat, e = k := ⟨e.toNat, by omega⟩
  by_cases c4 : dat xs.length k = 0
  · exact key 3 (by omega) (by unfold healE; rw [if_neg c1, if_neg c2', if_neg c3, Int.toNat_natCast, if_pos c4]) (refHeal_data a n2 cap xs a2 c2 k w h (by omega) (by omega) (by omega) (by rw [← hl]; exact c4))
  · have hE : healE xs lk k = hgE xs lk (szAt xs 0) (dat xs.length k) k (grps (dat xs.length k) k) 0 := by unfold healE; rw [if_neg c1, if_neg c2', if_neg c3, Int.toNat_natCast, if_neg c4]
    rw [hE]
    unfold healS
    rw [Int.toNat_natCast]
    have := refHeal_go a n2 cap xs a2 c2 lk k w h h2 (by omega) (by omega) (by omega) (by rw [← hl]; exact c4)
    rw [← hl] at this ⊢
    exact this
end Go.Proofs.YtpaoiebngbfbpaaDoor
