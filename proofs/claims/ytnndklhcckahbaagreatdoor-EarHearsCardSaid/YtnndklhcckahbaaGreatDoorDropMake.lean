/- The contracts of drop.Set, drop.Make, drop.Check. -/
import Derived.Test.YtnndklhcckahbaaGreatDoorDrop
namespace Go.Proofs.YtnndklhcckahbaaGreatDoor
open Go.ChangeShapes Go.WideShapes Go.ChangeAt Go.RowKit

/-- A drop, as a value. -/
abbrev dropV (seed : Int) (data : ByteArray) : Value := .agg #[.int .i64 seed, .string data]

theorem two_set {w : World} {g : Nat} {a b : Value} (c0 : w.cell? ⟨g, 0, none⟩ = some a) (c1 : w.cell? ⟨g, 1, none⟩ = some b) (x y : Value) :
    ((w.setCell ⟨g, 0, none⟩ x).setCell ⟨g, 1, none⟩ y).cell? ⟨g, 0, none⟩ = some x ∧ ((w.setCell ⟨g, 0, none⟩ x).setCell ⟨g, 1, none⟩ y).cell? ⟨g, 1, none⟩ = some y := by
  constructor
  · rw [World.cell?_setCell_other _ _ _ _ (by simp)]; exact World.cell?_setCell_same _ _ _ c0
  · exact World.cell?_setCell_same _ _ _ ((World.cell?_setCell_other _ _ _ _ (by simp)).trans c1)
theorem lat_two {w w1 : World} {o : Obj} (hb : Lat (w.alloc o) w1) (x y : Value) : Lat w ((w1.setCell ⟨w.heap.size, 0, none⟩ x).setCell ⟨w.heap.size, 1, none⟩ y) :=
  Below.setCell (Below.setCell (Lat.trans (Lat.alloc w o) hb) (Nat.le_refl _) x) (Nat.le_refl _) y
/-- The block of a drop that a call lays for its result. -/
theorem dw_cells {w w1 : World} (hb1 : Lat (w.alloc (.cells #[.int .i64 0, .string .empty] 33)) w1) :
    (w1.cell? ⟨w.heap.size, 0, none⟩ = some (.int .i64 0) ∧ w1.cell? ⟨w.heap.size, 1, none⟩ = some (.string .empty)) ∧ w1.frozen? ⟨w.heap.size, 0, none⟩ = false ∧ w1.frozen? ⟨w.heap.size, 1, none⟩ = false :=
  ⟨⟨hb1.cell_at (by simp), hb1.cell_at (by simp)⟩, hb1.free_at (by simp) (by simp), hb1.free_at (by simp) (by simp)⟩

theorem make_chk (a : Option Addr) (n cap : Nat) (ss : List ByteArray) (seed : Int) (w : World) (h : StrsAt w a n cap ss) (hb : chk ss ≠ 0) :
    Calls Tryz.prog 9 #[.slice a n cap, .int .i64 seed] w fun e w' => e = .returned (.tuple #[dropV 0 .empty, eno (chk ss)]) ∧ Lat w w' := by
  have hw1 := h.keep (Lat.alloc w (.cells #[.int .i64 0, .string .empty] 33))
  have HB := Lib.hid hb
  have H1 := Lib.hid hw1
  clear h hb hw1
  go_enter Tryz.func9, Tryz.ntmps9
  go_wp2_with fail
  refine (check_bad a n cap ss _ H1.out HB.out).mono ?_
  rintro e w1 ⟨rfl, hb1⟩
  obtain ⟨⟨c0, c1⟩, f0, f1⟩ := dw_cells hb1
  have q := two_set c0 c1 (.int .i64 0) (.string { data := #[] })
  go_wp2
  exact bodyPost_ret (v := .tuple #[dropV 0 .empty, eno (chk ss)]) (by simp [results, Tryz.results9, go_sem, World.cell?_setCell_same _ _ _ c0, q.2]; rfl) rfl ⟨rfl, lat_two hb1 _ _⟩
theorem make_seed (a : Option Addr) (n cap : Nat) (ss : List ByteArray) (seed : Int) (w : World) (h : StrsAt w a n cap ss) (hb : chk ss = 0) (hs : seed < 1 ∨ 10000 < seed) :
    Calls Tryz.prog 9 #[.slice a n cap, .int .i64 seed] w fun e w' => e = .returned (.tuple #[dropV 0 .empty, eno 1]) ∧ Lat w w' := by
  have hw1 := h.keep (Lat.alloc w (.cells #[.int .i64 0, .string .empty] 33))
  have HB := Lib.hid hb
  have H1 := Lib.hid hw1
  have HS := Lib.hid hs
  clear h hb hw1 hs
  go_enter Tryz.func9, Tryz.ntmps9
  go_wp2_with fail
  refine (check_ok a n cap ss _ H1.out HB.out).mono ?_
  rintro e w1 ⟨rfl, hb1⟩
  obtain ⟨⟨c0, c1⟩, f0, f1⟩ := dw_cells hb1
  have q := two_set c0 c1 (.int .i64 0) (.string { data := #[] })
  go_wp2_with (go_at_call 26; refine (seed_no seed _ HS.out).mono ?_; rintro e w' ⟨rfl, rfl⟩)
  exact bodyPost_ret (v := .tuple #[dropV 0 .empty, eno 1]) (by simp [results, Tryz.results9, go_sem, World.cell?_setCell_same _ _ _ c0, q.2]; rfl) rfl ⟨rfl, lat_two hb1 _ _⟩
set_option maxHeartbeats 400000 in
theorem make_ok (a : Option Addr) (n cap : Nat) (ss : List ByteArray) (seed : Nat) (w : World) (h : StrsAt w a n cap ss) (hb : chk ss = 0) (h3 : 1 ≤ seed) (h4 : seed ≤ 10000) :
    Calls Tryz.prog 9 #[.slice a n cap, .int .i64 seed] w fun e w' => e = .returned (.tuple #[dropV seed (S (sumTo ss (szAt ss 0) (setZ n seed) (setZ n seed).length)), .nilIface]) ∧ Lat w w' := by
  have hok := chk_ok hb
  have hn1 : 1 ≤ n := by have := hok.pos; have := h.len; omega
  have hn2 : n ≤ 16 := by have := hok.most; have := h.len; omega
  have hw1 := h.keep (Lat.alloc w (.cells #[.int .i64 0, .string .empty] 33))
  obtain ⟨r, hr⟩ : ∃ r, r = S (sumTo ss (szAt ss 0) (setZ n seed) (setZ n seed).length) := ⟨_, rfl⟩
  rw [← hr]
  have HR := Lib.hid hr
  have HB := Lib.hid hb
  have H1 := Lib.hid hw1
  have HOK := Lib.hid hok
  clear h hb hw1 hok hr
  go_enter Tryz.func9, Tryz.ntmps9
  go_wp2_with fail
  refine (check_ok a n cap ss _ H1.out HB.out).mono ?_
  rintro e w1 ⟨rfl, hb1⟩
  go_wp2_with (go_at_call 26; refine (seed_yes seed _ (by omega) (by omega)).mono ?_; rintro e w' ⟨rfl, rfl⟩)
  refine (dropOf_any n seed _ hn1 hn2 h3 h4).mono ?_
  rintro e w2 ⟨a2, cap2, rfl, hat2, hb2⟩
  have hat1 := (H1.out.keep hb1).keep hb2
  have hz := setZ_lt n seed hn1 h3
  go_wp2_with fail
  refine (of_any a n cap ss a2 _ cap2 (setZ n seed) _ hat1 hat2 HOK.out hz).mono ?_
  rw [← HR.out]
  rintro e w3 ⟨rfl, hb3⟩
  have hb13 := Lat.trans (Lat.trans hb1 hb2) hb3
  obtain ⟨⟨c0, c1⟩, f0, f1⟩ := dw_cells hb13
  have q := two_set c0 c1 (.int .i64 seed) (.string r)
  clear hat1 hat2 hz
  go_wp2
  exact bodyPost_ret (v := .tuple #[dropV seed r, .nilIface]) (by simp [results, Tryz.results9, go_sem, World.cell?_setCell_same _ _ _ c0, q.2]) rfl ⟨rfl, lat_two hb13 _ _⟩
end Go.Proofs.YtnndklhcckahbaaGreatDoor
