/- The walk of GuardTwo: it returns true, whatever it is asked. -/
import Derived.Test.YtpaoiebngbfbpaaDoorGuardAny
import Derived.Test.YtpaoiebngbfbpaaDoorGuardPl5
import Derived.Test.YtpaoiebngbfbpaaDoorSame
namespace Go.Proofs.YtpaoiebngbfbpaaDoor
open Go.ChangeShapes Go.WideShapes Go.ChangeAt Go.RowKit

theorem bools_blk {w : World} {b k : Nat} {lk : List Bool} (hb : Blk w b k (fun j => .bool (lk.getD j false))) (hl : lk.length = k) (hk : k ≤ 1000) : BoolsAt w (some ⟨b, 0, none⟩) k k lk :=
  ⟨hl, ⟨Nat.le_refl _, by unfold maxLen; omega, fun _ => ⟨b, 0, rfl, fun j hj => by rw [Nat.zero_add]; exact hb.cell j hj⟩⟩⟩
theorem blk_putB {w : World} {b k i : Nat} {lk : List Bool} (hb : Blk w b k (fun j => .bool (lk.getD j false))) (hl : lk.length = k) (hi : i < k) (t : Bool) : Blk (w.setCell ⟨b, i, none⟩ (.bool t)) b k (fun j => .bool ((lk.set i t).getD j false)) := by
  refine (hb.set hi (.bool t)).congr fun j hj => ?_
  rw [List.getD_eq_getElem?_getD, List.getD_eq_getElem?_getD, List.getElem?_set]
  by_cases e : j = i
  · rw [if_pos e, if_pos e.symm, if_pos (by omega)]; rfl
  · rw [if_neg e, if_neg (fun h => e h.symm)]
theorem blk_falses {w : World} {b k : Nat} (h : Blk w b k (fun _ => .bool false)) : Blk w b k (fun j => .bool ((List.replicate k false).getD j false)) := h.congr fun j hj => by
  rw [List.getD_eq_getElem?_getD, List.getElem?_replicate, if_pos hj]; rfl

set_option maxHeartbeats 2000000 in
set_option maxRecDepth 100000 in
theorem walk_guardTwo (a : Option Addr) (n cap : Nat) (ls : List ByteArray) (e : Int) (w : World) (hgn : Hnd w) (h : StrsAt w a n cap ls) (_ : (Lit.int .i64 e).wf = true) :
    Calls Tryd.prog 4 #[.slice a n cap, .int .i64 e] w fun x w' => x = .returned (.bool true) ∧ Lat w w' := by
  have hlen := h.len
  have k1 := add_any a n cap ls e w h
  have H := Lib.hid h; have HG := Lib.hid hgn
  by_cases h0 : addE ls e = 0
  · obtain ⟨c1, c2, c3, c4⟩ := addE_zero h0
    obtain ⟨f, rfl⟩ : ∃ f : Nat, e = f := ⟨e.toNat, by omega⟩
    have hck := chk_ok c1
    have hal : addL ls f = addS ls f := by unfold addL; rw [if_pos h0, Int.toNat_natCast]
    rw [h0, hal, errv_zero rfl] at k1
    rw [Int.toNat_natCast] at c4
    have hG := grps_pos ls.length f hck.pos (by omega)
    have hx := addS_length ls f
    obtain ⟨N, hN⟩ : ∃ N, N = ls.length + grps ls.length f := ⟨_, rfl⟩
    rw [← hN] at hx c4
    have hnN : n < N := by omega
    have hn1 : 1 ≤ n := by have := hck.pos; omega
    have h8 := healE_two (ls := ls) (f := f) (lk := ((List.replicate N false).set 0 true).set n true) hck (by omega) (by omega) (by omega) (by rw [List.length_set, List.length_set, List.length_replicate, hN])
      (by rw [List.getD_eq_getElem?_getD, List.getElem?_set_ne (by omega), List.getElem?_set, if_pos rfl, if_pos (by rw [List.length_replicate]; omega)]; rfl)
      (by rw [hlen, List.getD_eq_getElem?_getD, List.getElem?_set, if_pos rfl, if_pos (by rw [List.length_set, List.length_replicate]; omega)]; rfl)
    have HK1 := Lib.hid k1; have H8 := Lib.hid h8; have HX := Lib.hid hx
    have d1 : decide ((f : Int) < 1) = false := decide_eq_false (by omega)
    clear h hgn k1 h8 hx hal h0 c1 hck hlen hG hN
    have hN16 : N ≤ 16 := c4
    go_enter Tryd.func4, Tryd.ntmps4
    go_wp2_with fail
    refine HK1.out.mono ?_
    rintro x w1 ⟨⟨xa, xk, xc, rfl, hx1⟩, hb1⟩
    obtain rfl : xk = N := by rw [← hx1.len]; exact HX.out
    have HX1 := Lib.hid hx1; have HB1 := Lib.hid hb1
    have e2 : decide ((xk : Int) < 2) = false := decide_eq_false (by omega)
    have e3 : decide ((n : Int) < 1) = false := decide_eq_false (by omega)
    have e4 : decide (xk ≤ n) = false := decide_eq_false (by omega)
    clear hx1 hb1
    go_wp2_with (at_make; refine wpList_make_blk _ rfl _ _ 23 rfl 4 (.bool false) 1 Tryd.underlying23 info_boolT rfl xk rfl rfl (by omega) (by unfold maxLen; omega) ?_)
    intro g w2 hg hblk hb2
    have hgl : w.heap.size ≤ g := by rw [hg]; exact HB1.out.size
    have hblk0 := blk_falses hblk
    have hl0 : (List.replicate xk false).length = xk := List.length_replicate
    have hblk1 := blk_putB hblk0 hl0 (show 0 < xk by omega) true
    have hl1 : ((List.replicate xk false).set 0 true).length = xk := by rw [List.length_set]; exact hl0
    have hblk2 := blk_putB hblk1 hl1 hnN true
    have hl2 : (((List.replicate xk false).set 0 true).set n true).length = xk := by rw [List.length_set]; exact hl1
    have q0 := hblk0.cell 0 (by omega)
    have f0 := hblk0.free 0 (by omega)
    have q1 := hblk1.cell n hnN
    have f1 := hblk1.free n hnN
    have hb3 : Lat w1 ((w2.setCell ⟨g, 0, none⟩ (.bool true)).setCell ⟨g, n, none⟩ (.bool true)) := (hb2.setCell (p := ⟨g, 0, none⟩) (Nat.le_of_eq hg.symm) _).setCell (p := ⟨g, n, none⟩) (Nat.le_of_eq hg.symm) _
    have hX2 := HX1.out.keep hb3
    have hL2 := bools_blk hblk2 hl2 (by omega)
    have hB3 := Lat.trans HB1.out hb3
    have k5 := Heal_all xa xk xc (addS ls f) (some ⟨g, 0, none⟩) xk xk _ (f : Int) _ hX2 hL2
    rw [H8.out] at k5
    have HK5 := Lib.hid k5; have HB3 := Lib.hid hB3
    have j1 : (0 : Int) < (xk : Int) := by omega
    have j2 : 0 < xk := by omega
    have j3 : (n : Int) < (xk : Int) := by omega
    clear hblk hb2 hgl hblk0 hl0 hblk1 hl1 hblk2 hl2 hb3 hX2 hL2 hB3 k5 hg HX1
    go_wp2_with fail
    refine HK5.out.mono ?_
    rintro x w5 ⟨⟨ra, rk, rc, rfl, -⟩, hb5⟩
    have HB5 := Lib.hid (Lat.trans HB3.out hb5)
    clear hb5
    go_wp2_with fail
    refine (sameErr_any 8 _ (HG.out.keep HB5.out)).mono ?_
    rintro x w6 ⟨rfl, hb6⟩
    have HB6 := Lib.hid (Lat.trans HB5.out hb6)
    clear hb6
    go_wp2_with fail
    go_ret
    exact ⟨rfl, HB6.out⟩
  · rw [errv_pos h0] at k1
    have HK1 := Lib.hid k1
    clear h hgn k1 h0 hlen
    go_enter Tryd.func4, Tryd.ntmps4
    go_wp2_with fail
    refine HK1.out.mono ?_
    rintro x w1 ⟨⟨xa, xk, xc, rfl, -⟩, hb1⟩
    go_wp2_with fail
    go_ret
    exact ⟨rfl, hb1⟩
end Go.Proofs.YtpaoiebngbfbpaaDoor
