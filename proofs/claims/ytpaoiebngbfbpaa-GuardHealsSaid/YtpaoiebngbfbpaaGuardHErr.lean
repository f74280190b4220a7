/- guard.Heal: every answer in one contract. -/
import Derived.Test.YtpaoiebngbfbpaaGuardHeal
namespace Go.Proofs.Ytpaoiebngbfbpaa
open Go.ChangeShapes Go.WideShapes Go.ChangeAt Go.RowKit

set_option maxRecDepth 100000 in
theorem Heal_chk (a : Option Addr) (n cap : Nat) (xs : List ByteArray) (a2 : Option Addr) (n2 c2 : Nat) (e : Int) (w : World) (h : StrsAt w a n cap xs) (hb : chk xs ≠ 0) :
    Calls Try.prog 5 #[.slice a n cap, .slice a2 n2 c2, .int .i64 e] w fun x w' => x = .returned (.tuple #[.slice none 0 0, eno (chk xs)]) ∧ Lat w w' := by
  have H := Lib.hid h; have HB := Lib.hid hb
  clear h hb
  go_enter Try.func5, Try.ntmps5
  go_wp2_with (go_at_call 7; refine (check_bad _ n cap xs _ H.out HB.out).mono ?_; rintro x w1 ⟨rfl, hb1⟩)
  go_ret2
  exact ⟨rfl, hb1⟩
set_option maxRecDepth 100000 in
theorem Heal_shape (a : Option Addr) (n cap : Nat) (xs : List ByteArray) (a2 : Option Addr) (n2 c2 : Nat) (e : Int) (w : World) (h : StrsAt w a n cap xs) (hb : chk xs = 0) (hn : n2 ≠ n) :
    Calls Try.prog 5 #[.slice a n cap, .slice a2 n2 c2, .int .i64 e] w fun x w' => x = .returned (.tuple #[.slice none 0 0, eno 3]) ∧ Lat w w' := by
  have d0 : ((n2 : Int) != (n : Int)) = true := by simp; omega
  have H := Lib.hid h; have HB := Lib.hid hb
  clear h hb
  go_enter Try.func5, Try.ntmps5
  go_wp2_with (go_at_call 7; refine (check_ok _ n cap xs _ H.out HB.out).mono ?_; rintro x w1 ⟨rfl, hb1⟩)
  go_ret2
  exact ⟨rfl, hb1⟩
set_option maxRecDepth 100000 in
theorem Heal_range (a : Option Addr) (n cap : Nat) (xs : List ByteArray) (a2 : Option Addr) (c2 : Nat) (e : Int) (w : World) (h : StrsAt w a n cap xs) (hb : chk xs = 0) (he : e < 1 ∨ 16 < e) :
    Calls Try.prog 5 #[.slice a n cap, .slice a2 n c2, .int .i64 e] w fun x w' => x = .returned (.tuple #[.slice none 0 0, eno 1]) ∧ Lat w w' := by
  have d0 : ((n : Int) != (n : Int)) = false := by simp
  have H := Lib.hid h; have HB := Lib.hid hb; have HE := Lib.hid he
  clear h hb he
  go_enter Try.func5, Try.ntmps5
  go_wp2_with (first
    | (go_at_call 7; refine (check_ok _ n cap xs _ H.out HB.out).mono ?_; rintro x w1 ⟨rfl, hb1⟩)
    | (go_at_call 8; refine (dblocks_no e _ HE.out).mono ?_; rintro x w2 ⟨rfl, rfl⟩))
  go_ret2
  exact ⟨rfl, hb1⟩
set_option maxRecDepth 100000 in
theorem Heal_data (a : Option Addr) (n cap : Nat) (xs : List ByteArray) (a2 : Option Addr) (c2 : Nat) (e : Nat) (w : World) (h : StrsAt w a n cap xs) (hb : chk xs = 0) (he : 1 ≤ e) (he2 : e ≤ 16) (hd : dat n e = 0) :
    Calls Try.prog 5 #[.slice a n cap, .slice a2 n c2, .int .i64 e] w fun x w' => x = .returned (.tuple #[.slice none 0 0, eno 3]) ∧ Lat w w' := by
  have hck := chk_ok hb
  have hl := h.len
  have hda := fun W => data_any n e W (by have := hck.pos; omega) (by have := hck.most; omega) he he2
  rw [hd] at hda
  have d0 : ((n : Int) != (n : Int)) = false := by simp
  have H := Lib.hid h; have HB := Lib.hid hb; have HDA := Lib.hid hda
  clear h hb hck hl hda hd
  go_enter Try.func5, Try.ntmps5
  go_wp2_with (first
    | (go_at_call 7; refine (check_ok _ n cap xs _ H.out HB.out).mono ?_; rintro x w1 ⟨rfl, hb1⟩)
    | (go_at_call 8; refine (dblocks_yes e _ (by omega) (by omega)).mono ?_; rintro x w2 ⟨rfl, rfl⟩)
    | (go_at_call 13; refine (HDA.out _).mono ?_; rintro x w2 ⟨rfl, rfl⟩))
  go_ret2
  exact ⟨rfl, hb1⟩

/-- guard.Heal's error, and what it gives -/
def healE (xs : List ByteArray) (lk : List Bool) (e : Int) : Nat :=
  if chk xs ≠ 0 then chk xs else if lk.length ≠ xs.length then 3 else if e < 1 ∨ 16 < e then 1 else if dat xs.length e.toNat = 0 then 3
  else hgE xs lk (szAt xs 0) (dat xs.length e.toNat) e.toNat (grps (dat xs.length e.toNat) e.toNat) 0
def healS (xs : List ByteArray) (lk : List Bool) (e : Int) : List ByteArray := hgS xs lk (szAt xs 0) (dat xs.length e.toNat) e.toNat (grps (dat xs.length e.toNat) e.toNat)
theorem Heal_any (a : Option Addr) (n cap : Nat) (xs : List ByteArray) (a2 : Option Addr) (n2 c2 : Nat) (lk : List Bool) (e : Int) (w : World) (h : StrsAt w a n cap xs) (h2 : BoolsAt w a2 n2 c2 lk) :
    Calls Try.prog 5 #[.slice a n cap, .slice a2 n2 c2, .int .i64 e] w fun x w' => (∃ v, x = .returned (.tuple #[v, errv (healE xs lk e)]) ∧
      (healE xs lk e = 0 → OwnStrs w' w.heap.size v (healS xs lk e)) ∧ (healE xs lk e ≠ 0 → v = .slice none 0 0)) ∧ Lat w w' := by
  have hl := h.len
  have hl2 := h2.len
  have key : ∀ k : Nat, k ≠ 0 → healE xs lk e = k → (Calls Try.prog 5 #[.slice a n cap, .slice a2 n2 c2, .int .i64 e] w fun x w' => x = .returned (.tuple #[.slice none 0 0, eno k]) ∧ Lat w w') →
      Calls Try.prog 5 #[.slice a n cap, .slice a2 n2 c2, .int .i64 e] w fun x w' => (∃ v, x = .returned (.tuple #[v, errv (healE xs lk e)]) ∧
      (healE xs lk e = 0 → OwnStrs w' w.heap.size v (healS xs lk e)) ∧ (healE xs lk e ≠ 0 → v = .slice none 0 0)) ∧ Lat w w' := fun k hk he hc => hc.mono fun x w' ⟨hx, hL⟩ => ⟨⟨_, by rw [he, errv_pos hk]; exact hx, fun h => absurd (he.symm.trans h) hk, fun _ => rfl⟩, hL⟩
  by_cases c1 : chk xs ≠ 0
  · exact key (chk xs) c1 (by unfold healE; rw [if_pos c1]) (Heal_chk a n cap xs a2 n2 c2 e w h c1)
  by_cases c2' : lk.length ≠ xs.length
  · exact key 3 (by omega) (by unfold healE; rw [if_neg c1, if_pos c2']) (Heal_shape a n cap xs a2 n2 c2 e w h (by omega) (by omega))
  obtain rfl : n2 = n := by omega
  by_cases c3 : e < 1 ∨ 16 < e
  · exact key 1 (by omega) (by unfold healE; rw [if_neg c1, if_neg c2', if_pos c3]) (Heal_range a n2 cap xs a2 c2 e w h (by omega) c3)
  obtain ⟨k, rfl⟩ : ∃ k : Nat, e = k := ⟨e.toNat, by omega⟩
  by_cases c4 : dat xs.length k = 0
  · exact key 3 (by omega) (by unfold healE; rw [if_neg c1, if_neg c2', if_neg c3, Int.toNat_natCast, if_pos c4]) (Heal_data a n2 cap xs a2 c2 k w h (by omega) (by omega) (by omega) (by rw [← hl]; exact c4))
  · have hE : healE xs lk k = hgE xs lk (szAt xs 0) (dat xs.length k) k (grps (dat xs.length k) k) 0 := by unfold healE; rw [if_neg c1, if_neg c2', if_neg c3, Int.toNat_natCast, if_neg c4]
    rw [hE]
    unfold healS
    rw [Int.toNat_natCast]
    have := Heal_go a n2 cap xs a2 c2 lk k w h h2 (by omega) (by omega) (by omega) (by rw [← hl]; exact c4)
    rw [← hl] at this ⊢
    exact this
end Go.Proofs.Ytpaoiebngbfbpaa
