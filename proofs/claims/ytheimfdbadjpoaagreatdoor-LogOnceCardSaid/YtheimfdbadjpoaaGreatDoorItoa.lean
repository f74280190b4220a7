/- strconv.Itoa in this work's words; the library's table of powers of ten. -/
import Derived.Test.YtheimfdbadjpoaaGreatDoorShelfItoa
import Derived.Test.YtheimfdbadjpoaaGreatDoorLogPl
import Derived.Test.YtheimfdbadjpoaaGreatDoorAppOne
namespace Go.Proofs.YtheimfdbadjpoaaGreatDoor
open Go.ChangeShapes Go.WideShapes Go.ChangeAt Go.RowKit

/-- the table lies there -/
def Pow (w : World) : Prop := Lib.TabIs Tryz.prog w "internal/strconv.uint64pow10" .u64 Lib.pow10Tab
theorem pow_at : Tryz.prog.globalNamed "internal/strconv.uint64pow10" = some 4 := by kernel_rfl
theorem var_lat {P : Program} {w w' : World} {name : String} {g : Nat} {cs : Array Value} (hg : P.globalNamed name = some g) (h : w.var? P name = some cs) (hb : Lat w w') : w'.var? P name = some cs := by
  unfold World.var? at h ⊢
  rw [hg] at h ⊢
  simp only [Option.bind_some] at h ⊢
  have hlt : g < w.heap.size := by
    cases hh : w.heap[g]? with
    | none => rw [hh] at h; simp at h
    | some o => exact (Array.getElem?_eq_some_iff.1 hh).1
  rw [hb.block g hlt]
  exact h
theorem Pow.keep {w w' : World} (h : Pow w) (hb : Lat w w') : Pow w' := var_lat pow_at h hb
theorem lat_grow (w : World) (k : Nat) (os : Array Obj) : Lat w (Sort.grow (w.drewN k) os) := by
  refine ⟨rfl, rfl, rfl, ?_, fun i hi => ?_⟩
  · show w.heap.size ≤ (w.heap ++ os).size
    rw [Array.size_append]; omega
  · show (w.heap ++ os)[i]? = w.heap[i]?
    rw [Array.getElem?_append_left hi]
theorem itoa_any (n : Nat) (hn : n ≤ 9223372036854775807) (w : World) (h : Pow w) :
    Calls Tryz.prog 114 #[.int .i64 n] w fun e w' => e = .returned (.string (S (Lib.itoa (n : Int)))) ∧ Lat w w' := by
  refine (Tryz.strconv_Itoa n (by omega) (by omega) w h).mono ?_
  rintro e w' ⟨rfl, k, os, rfl⟩
  exact ⟨rfl, lat_grow w k os⟩
end Go.Proofs.YtheimfdbadjpoaaGreatDoor
