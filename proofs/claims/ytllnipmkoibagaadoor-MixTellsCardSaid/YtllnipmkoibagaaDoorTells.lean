/- An error by its number (0: none), and the contracts of mix.Xor, mix.Sum, mix.Zero, blocks.Check without a premise on the error. -/
import Derived.Test.YtllnipmkoibagaaDoorSame
import Derived.Test.YtllnipmkoibagaaDoorMixSum
namespace Go.Proofs.YtllnipmkoibagaaDoor
open Go.ChangeShapes Go.WideShapes Go.ChangeAt Go.RowKit

def errv (n : Nat) : Value := if n = 0 then .nilIface else eno n
theorem errv_pos {n : Nat} (h : n ≠ 0) : errv n = eno n := if_neg h
theorem sameErr_any (n : Nat) (w : World) (hg : Hnd w) : Calls Tryd.prog 14 #[errv n, .int .i64 n] w fun e w' => e = .returned (.bool true) ∧ Lat w w' := by
  by_cases h : n = 0
  · subst h; exact sameErr_nil w
  · rw [errv_pos h]; exact sameErr_eno n w hg

def xorE (A B : ByteArray) : Nat := if 120 < A.size ∨ 120 < B.size then 4 else if A.size ≠ B.size then 3 else 0
def xorR (A B : ByteArray) : ByteArray := if xorE A B = 0 then S (xorL A.data.toList B.data.toList) else .empty
theorem xor_tells (A B : ByteArray) (w : World) :
    Calls Tryd.prog 26 #[.string A, .string B] w fun e w' => e = .returned (.tuple #[.string (xorR A B), errv (xorE A B)]) ∧ Lat w w' := by
  by_cases h : 120 < A.size ∨ 120 < B.size
  · have e : xorE A B = 4 := if_pos h
    rw [xorR, e]; exact xor_full A B w h
  · by_cases h2 : A.size = B.size
    · have e : xorE A B = 0 := by unfold xorE; rw [if_neg h, if_neg (fun q => q h2)]
      rw [xorR, e]; exact xor_ok A B w (by omega) h2
    · have e : xorE A B = 3 := by unfold xorE; rw [if_neg h, if_pos h2]
      rw [xorR, e]; exact xor_shape A B w (by omega) (by omega) h2

def sumE (ss : List ByteArray) (zs : List Int) : Nat := if chk ss ≠ 0 then chk ss else if zs.length = 0 then 5 else ofErr ss.length zs zs.length
def sumR (ss : List ByteArray) (zs : List Int) : ByteArray := if sumE ss zs = 0 then S (sumTo ss (szAt ss 0) zs zs.length) else .empty
theorem sum_tells (a : Option Addr) (n cap : Nat) (ss : List ByteArray) (a2 : Option Addr) (k cap2 : Nat) (zs : List Int) (w : World) (h : StrsAt w a n cap ss) (h2 : IntsAt w a2 k cap2 zs) :
    Calls Tryd.prog 30 #[.slice a n cap, .slice a2 k cap2] w fun e w' => e = .returned (.tuple #[.string (sumR ss zs), errv (sumE ss zs)]) ∧ Lat w w' := by
  have hl := h2.len
  by_cases h0 : chk ss = 0
  · by_cases h3 : k = 0
    · have e : sumE ss zs = 5 := by unfold sumE; rw [if_neg (fun q => q h0), if_pos (by omega)]
      subst h3
      rw [sumR, e]; exact sum_none a n cap ss a2 cap2 w h h0
    · have e : sumE ss zs = ofErr n zs k := by unfold sumE; rw [if_neg (fun q => q h0), if_neg (by omega), hl, h.len]
      by_cases h4 : ofErr n zs k = 0
      · rw [sumR, e, if_pos h4, h4, hl]; exact sum_ok a n cap ss a2 k cap2 zs w h h2 h0 h3 h4
      · rw [sumR, e, if_neg h4, errv_pos h4]; exact sum_bad a n cap ss a2 k cap2 zs w h h2 h0 h3 h4
  · have e : sumE ss zs = chk ss := if_pos h0
    rw [sumR, e, if_neg h0, errv_pos h0]; exact sum_chk a n cap ss _ w h h0

def zeroE (n : Int) : Nat := if n < 1 ∨ 8 < n then 1 else 0
def zeroR (n : Int) : ByteArray := if zeroE n = 0 then S (noughts n.toNat) else .empty
theorem zero_tells (n : Int) (w : World) :
    Calls Tryd.prog 32 #[.int .i64 n] w fun e w' => e = .returned (.tuple #[.string (zeroR n), errv (zeroE n)]) ∧ Lat w w' := by
  by_cases h : n < 1 ∨ 8 < n
  · have e : zeroE n = 1 := if_pos h
    rw [zeroR, e]
    have H := Lib.hid h
    clear h e
    go_enter Tryd.func32, Tryd.ntmps32
    go_wp2_with (go_at_call 61; refine (size_no n _ H.out).mono ?_; rintro e w1 ⟨rfl, rfl⟩)
    go_ret2
    exact ⟨rfl, Lat.refl _⟩
  · have e : zeroE n = 0 := if_neg h
    rw [zeroR, e]
    obtain ⟨n, rfl⟩ := Int.eq_ofNat_of_zero_le (show 0 ≤ n by omega)
    have h1 : 1 ≤ (n : Int) := by omega
    have h2 : (n : Int) ≤ 8 := by omega
    clear h e
    go_enter Tryd.func32, Tryd.ntmps32
    go_wp2_with (first | (go_at_call 61; refine (size_yes n _ h1 h2).mono ?_; rintro e w1 ⟨rfl, rfl⟩) | (go_at_call 62; refine (noughts_any n _ (by omega)).mono ?_; rintro e w1 ⟨rfl, hb⟩))
    go_ret2
    exact ⟨rfl, hb⟩
end Go.Proofs.YtllnipmkoibagaaDoor
