/- drop.Set, Make, Check and the reference's Drop: one answer each for every input. -/
import Derived.Test.YtnndklhcckahbaaGreatDoorDropCheck
namespace Go.Proofs.YtnndklhcckahbaaGreatDoor
open Go.ChangeShapes Go.WideShapes Go.ChangeAt Go.RowKit

def dsetE (k seed : Int) : Nat := if k < 1 ∨ 16 < k ∨ seed < 1 ∨ 10000 < seed then 1 else 0
def dsetR (k seed : Int) : List Int := if k < 1 ∨ 16 < k ∨ seed < 1 ∨ 10000 < seed then [] else setZ k.toNat seed.toNat
/-- what is wrong with a drop of blocks; what it is -/
def dmkE (ss : List ByteArray) (seed : Int) : Nat := if chk ss ≠ 0 then chk ss else if seed < 1 ∨ 10000 < seed then 1 else 0
def dmkD (ss : List ByteArray) (seed : Int) : ByteArray := if dmkE ss seed = 0 then S (sumTo ss (szAt ss 0) (setZ ss.length seed.toNat) (setZ ss.length seed.toNat).length) else .empty
def dmkS (ss : List ByteArray) (seed : Int) : Int := if dmkE ss seed = 0 then seed else 0
theorem dmkE_zero {ss : List ByteArray} {seed : Int} (h : dmkE ss seed = 0) : chk ss = 0 ∧ 1 ≤ seed ∧ seed ≤ 10000 := by
  unfold dmkE at h
  split at h
  · omega
  · split at h
    · omega
    · omega
theorem make_tells (a : Option Addr) (n cap : Nat) (ss : List ByteArray) (seed : Int) (w : World) (h : StrsAt w a n cap ss) :
    Calls Tryz.prog 9 #[.slice a n cap, .int .i64 seed] w fun e w' => e = .returned (.tuple #[dropV (dmkS ss seed) (dmkD ss seed), errv (dmkE ss seed)]) ∧ Lat w w' := by
  by_cases h1 : chk ss = 0
  · by_cases h2 : seed < 1 ∨ 10000 < seed
    · have e1 : dmkE ss seed = 1 := by unfold dmkE; rw [if_neg (by omega), if_pos h2]
      have e2 : dmkD ss seed = .empty := by unfold dmkD; rw [if_neg (by omega)]
      have e3 : dmkS ss seed = 0 := by unfold dmkS; rw [if_neg (by omega)]
      rw [e1, e2, e3]
      exact make_seed a n cap ss seed w h h1 h2
    · have e1 : dmkE ss seed = 0 := by unfold dmkE; rw [if_neg (by omega), if_neg h2]
      obtain ⟨Z, rfl⟩ := Int.eq_ofNat_of_zero_le (show 0 ≤ seed by omega)
      have hl := h.len
      have e2 : dmkD ss Z = S (sumTo ss (szAt ss 0) (setZ n Z) (setZ n Z).length) := by unfold dmkD; rw [if_pos e1, hl]; rfl
      have e3 : dmkS ss Z = Z := by unfold dmkS; rw [if_pos e1]
      rw [e1, e2, e3]
      exact make_ok a n cap ss Z w h h1 (by omega) (by omega)
  · have e1 : dmkE ss seed = chk ss := by unfold dmkE; rw [if_pos h1]
    have e2 : dmkD ss seed = .empty := by unfold dmkD; rw [if_neg (by omega)]
    have e3 : dmkS ss seed = 0 := by unfold dmkS; rw [if_neg (by omega)]
    rw [e1, e2, e3, errv_pos h1]
    exact make_chk a n cap ss seed w h h1

/-- what is wrong with a drop -/
def drpE (k size seed : Int) (d : ByteArray) : Nat := if k < 1 ∨ 16 < k ∨ size < 1 ∨ 8 < size ∨ seed < 1 ∨ 10000 < seed then 1 else if (d.size : Int) ≠ size then 3 else 0
theorem drpE_zero {k size seed : Int} {d : ByteArray} (h : drpE k size seed d = 0) : 1 ≤ k ∧ k ≤ 16 ∧ 1 ≤ size ∧ size ≤ 8 ∧ 1 ≤ seed ∧ seed ≤ 10000 ∧ (d.size : Int) = size := by
  unfold drpE at h
  split at h
  · omega
  · split at h <;> omega
theorem dchk_tells (k size seed : Int) (d : ByteArray) (w : World) :
    Calls Tryz.prog 16 #[.int .i64 k, .int .i64 size, dropV seed d] w fun e w' => e = .returned (errv (drpE k size seed d)) ∧ Lat w w' := by
  by_cases h1 : k < 1 ∨ 16 < k ∨ size < 1 ∨ 8 < size ∨ seed < 1 ∨ 10000 < seed
  · have e1 : drpE k size seed d = 1 := if_pos h1
    rw [e1]
    exact dchk_range k size seed d w h1
  · by_cases h2 : (d.size : Int) = size
    · have e1 : drpE k size seed d = 0 := by unfold drpE; rw [if_neg h1, if_neg (fun h => h h2)]
      rw [e1]
      exact dchk_ok k size seed d w (by omega) (by omega) (by omega) (by omega) (by omega) (by omega) h2
    · have e1 : drpE k size seed d = 3 := by unfold drpE; rw [if_neg h1, if_pos h2]
      rw [e1]
      exact dchk_shape k size seed d w (by omega) (by omega) (by omega) (by omega) (by omega) (by omega) h2

/-- one of six, or none -/
theorem six_ways (k size seed : Int) (P : Prop)
    (p1 : k < 1 → P) (p2 : 1 ≤ k → 16 < k → P) (p3 : 1 ≤ k → k ≤ 16 → size < 1 → P) (p4 : 1 ≤ k → k ≤ 16 → 1 ≤ size → 8 < size → P) (p5 : 1 ≤ k → k ≤ 16 → 1 ≤ size → size ≤ 8 → seed < 1 → P)
    (p6 : 1 ≤ k → k ≤ 16 → 1 ≤ size → size ≤ 8 → 1 ≤ seed → 10000 < seed → P) (p7 : 1 ≤ k → k ≤ 16 → 1 ≤ size → size ≤ 8 → 1 ≤ seed → seed ≤ 10000 → P) : P := by
  by_cases h1 : k < 1
  · exact p1 h1
  by_cases h2 : 16 < k
  · exact p2 (by omega) h2
  by_cases h3 : size < 1
  · exact p3 (by omega) (by omega) h3
  by_cases h4 : 8 < size
  · exact p4 (by omega) (by omega) (by omega) h4
  by_cases h5 : seed < 1
  · exact p5 (by omega) (by omega) (by omega) (by omega) h5
  by_cases h6 : 10000 < seed
  · exact p6 (by omega) (by omega) (by omega) (by omega) (by omega) h6
  exact p7 (by omega) (by omega) (by omega) (by omega) (by omega) (by omega)

end Go.Proofs.YtnndklhcckahbaaGreatDoor
