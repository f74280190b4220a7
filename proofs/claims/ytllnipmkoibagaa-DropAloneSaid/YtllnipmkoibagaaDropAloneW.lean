/- The walk of DropAlone: it returns true, whatever the blocks and the seed. -/
import Derived.Test.YtllnipmkoibagaaDropMake
namespace Go.Proofs.Ytllnipmkoibagaa
open Go.ChangeShapes Go.WideShapes Go.ChangeAt Go.RowKit

theorem set_1616 (w : World) : Calls Try.prog 32 #[.int .i64 16, .int .i64 16] w fun e w' => ∃ b o cap, e = .returned (.tuple #[.slice (some ⟨b, o, none⟩) 1 cap, .nilIface]) ∧ w'.cell? ⟨b, o, none⟩ = some (.int .i64 15) ∧ Lat w w' := by
  refine (set_ok 16 16 w (by omega) (by omega) (by omega) (by omega)).mono ?_
  have e : setZ 16 16 = [15] := by unfold setZ; rfl
  rw [e]
  rintro e' w' ⟨a, cap, he, hat, hb⟩
  obtain ⟨b, o, rfl, hc⟩ := hat.row.at_ (by simp)
  exact ⟨b, o, cap, he, hc 0 (by simp), hb⟩
theorem sum_single (ss : List ByteArray) (j : Nat) (h : szAt ss j = szAt ss 0) : S (sumTo ss (szAt ss 0) [(j : Int)] 1) = ss.getD j ByteArray.empty := by
  have e : sumTo ss (szAt ss 0) [(j : Int)] 1 = bl ss j := by
    have e1 : sumTo ss (szAt ss 0) [(j : Int)] 1 = xorL (noughts (szAt ss 0)) (bl ss j) := rfl
    rw [e1, xorL_comm]
    have hb : (bl ss j).length = szAt ss 0 := by rw [bl_length]; exact h
    rw [← hb]; exact xorL_noughts _
  rw [e]; rfl
/-- The drop of one of the first seeds is the block. -/
theorem make_alone (a : Option Addr) (n cap : Nat) (ss : List ByteArray) (j : Nat) (w : World) (h : StrsAt w a n cap ss) (hb : chk ss = 0) (hj : j < n) :
    Calls Try.prog 31 #[.slice a n cap, .int .i64 ((j : Int) + 1)] w fun e w' => e = .returned (.tuple #[dropV ((j : Int) + 1) (ss.getD j ByteArray.empty), .nilIface]) ∧ Lat w w' := by
  have hok := chk_ok hb
  have hl := h.len
  have hm := hok.most
  refine (make_ok a n cap ss (j + 1) w h hb (by omega) (by omega)).mono ?_
  have e : setZ n (j + 1) = [(j : Int)] := by unfold setZ; rw [if_pos (by omega)]; rfl
  rw [e]
  have e2 := sum_single ss j (hok.all j (by omega))
  rintro e' w' ⟨he, hb'⟩
  refine ⟨?_, hb'⟩
  rw [he]
  show Ending.returned (.tuple #[dropV ((j + 1 : Nat) : Int) (S (sumTo ss (szAt ss 0) [(j : Int)] 1)), .nilIface]) = _
  rw [e2]; rfl

set_option maxHeartbeats 1000000 in
set_option maxRecDepth 100000 in
theorem walk_dropAlone (a : Option Addr) (n cap : Nat) (ss : List ByteArray) (seed : Int) (w : World) (h : StrsAt w a n cap ss) (_ : (Lit.int .i64 seed).wf = true) :
    Calls Try.prog 13 #[.slice a n cap, .int .i64 seed] w fun e w' => e = .returned (.bool true) ∧ Lat w w' := by
  have hl := h.len
  have H := Lib.hid h
  have HL := Lib.hid hl
  clear h hl
  by_cases hc : chk ss = 0
  case neg =>
    have HC := Lib.hid hc
    clear hc
    go_enter Try.func13, Try.ntmps13
    go_wp2_with fail
    refine (make_chk a n cap ss seed _ H.out HC.out).mono ?_
    rintro e w1 ⟨rfl, hb1⟩
    go_wp2_with fail
    refine (set_1616 _).mono ?_
    rintro e w2 ⟨b, o, cp, rfl, c15, hb2⟩
    go_wp2
    go_ret
    exact ⟨rfl, Lat.trans (Lat.trans hb1 (Lat.alloc _ _)) hb2⟩
  have hok := chk_ok hc
  have hn16 : n ≤ 16 := by have := hok.most; have := HL.out; omega
  have HC := Lib.hid hc
  have HOK := Lib.hid hok
  clear hc hok
  by_cases hs : seed < 1 ∨ 10000 < seed
  · have HS := Lib.hid hs
    clear hs
    go_enter Try.func13, Try.ntmps13
    go_wp2_with fail
    refine (make_seed a n cap ss seed _ H.out HC.out HS.out).mono ?_
    rintro e w1 ⟨rfl, hb1⟩
    go_wp2_with fail
    refine (set_1616 _).mono ?_
    rintro e w2 ⟨b, o, cp, rfl, c15, hb2⟩
    go_wp2
    go_ret
    exact ⟨rfl, Lat.trans (Lat.trans hb1 (Lat.alloc _ _)) hb2⟩
  obtain ⟨s, rfl⟩ := Int.eq_ofNat_of_zero_le (show 0 ≤ seed by omega)
  by_cases hn : s ≤ n
  case neg =>
    have d1 : decide (n < s) = true := decide_eq_true (by omega)
    have s1 : 1 ≤ s := by omega
    have s2 : s ≤ 10000 := by omega
    clear hs hn
    go_enter Try.func13, Try.ntmps13
    go_wp2_with fail
    refine (make_ok a n cap ss s _ H.out HC.out s1 s2).mono ?_
    rintro e w1 ⟨rfl, hb1⟩
    go_wp2_with fail
    refine (set_1616 _).mono ?_
    rintro e w2 ⟨b, o, cp, rfl, c15, hb2⟩
    go_wp2
    go_ret
    exact ⟨rfl, Lat.trans (Lat.trans hb1 (Lat.alloc _ _)) hb2⟩
  obtain ⟨j, rfl⟩ : ∃ j, s = j + 1 := ⟨s - 1, by omega⟩
  have hjn : j < n := by omega
  clear hs hn
  have d1 : decide ((n : Int) < (j : Int) + 1) = false := decide_eq_false (by omega)
  obtain ⟨r, hr⟩ : ∃ r, r = ss.getD j ByteArray.empty := ⟨_, rfl⟩
  have HR := Lib.hid hr
  clear hr
  have e1 : ((j + 1 : Nat) : Int) = (j : Int) + 1 := by omega
  rw [e1]
  clear e1
  go_enter Try.func13, Try.ntmps13
  go_wp2_with fail
  refine (make_alone a n cap ss j _ H.out HC.out hjn).mono ?_
  rw [← HR.out]
  rintro e w1 ⟨rfl, hb1⟩
  go_wp2_with fail
  refine (set_1616 _).mono ?_
  rintro e w2 ⟨b, o, cp, rfl, c15, hb2⟩
  have hb12 := Lat.trans (Lat.trans hb1 (Lat.alloc _ _)) hb2
  have k0 : w2.cell? ⟨w1.heap.size, 0, none⟩ = some (.int .i64 ((j : Int) + 1)) := hb2.cell_at (by simp)
  have k1 : w2.cell? ⟨w1.heap.size, 1, none⟩ = some (.string r) := hb2.cell_at (by simp)
  have hat := H.out.keep hb12
  obtain ⟨bb, oo, rfl, hcc⟩ := hat.row.at_ (by omega)
  have kj := hcc j hjn
  rw [← HR.out] at kj
  have d2 : decide ((1 : Int) ≤ (j : Int) + 1) = true := decide_eq_true (by omega)
  clear hcc hat
  go_wp2
  go_quiet (fail)
  go_wp2
  go_ret
  exact ⟨rfl, Lat.trans hb12 (Lat.drewN _ _)⟩
end Go.Proofs.Ytllnipmkoibagaa
