/- The listed variables of LogOnce: the tables of math/bits and strconv, errors.errorType: from the row's condition to what the walk asks; a world that meets it. -/
import Derived.Test.YtheimfdbadjpoaaGreatDoorDoor
import Derived.Test.YtheimfdbadjpoaaGreatDoorItoa
import Derived.Lib.LaidTab
namespace Go.Proofs.YtheimfdbadjpoaaGreatDoor
open Go.ChangeShapes Go.WideShapes Go.ChangeAt Go.RowKit

def tabs : List (String × DataW Unit) := [("math/bits.deBruijn32tab", Rows.laid_math_bits_deBruijn32tab), ("math/bits.deBruijn64tab", Rows.laid_math_bits_deBruijn64tab), ("internal/strconv.uint64pow10", Rows.laid_internal_strconv_uint64pow10)]
theorem pow_type : (Tryz.prog.globals[4]?).map (·.type) = some 271 := by kernel_rfl
theorem pow_data : (Rows.laid_internal_strconv_uint64pow10 : DataW Unit) = Lib.tabData .u64 Lib.pow10Tab := rfl
theorem pow_of_laid {W : World} (h : laidMet Tryz.prog tabs W) : Pow W := by
  obtain ⟨ps, hv, _⟩ := h
  obtain ⟨_, _, _, _, _, _, _, _, _, _, h2, _⟩ := hv
  obtain ⟨_, _, _, _, _, _, _, _, _, _, h3, _⟩ := h2
  obtain ⟨g, t, cs, fuel, p, q, hg, ht, hvar, hd, _⟩ := h3
  obtain rfl := Option.some.inj (pow_at.symm.trans hg)
  obtain rfl := Option.some.inj (pow_type.symm.trans ht)
  rw [pow_data] at hd
  unfold Pow Lib.TabIs
  rw [hvar, ← Lib.cells_of_tab Tryz.underlying271 Tryz.underlying200 (by kernel_rfl) (by kernel_rfl) hd]
theorem once_of_laid {W : World} (h : laidMetH Tryz.prog [("math/bits.deBruijn32tab", Rows.laid_math_bits_deBruijn32tab), ("math/bits.deBruijn64tab", Rows.laid_math_bits_deBruijn64tab), ("internal/strconv.uint64pow10", Rows.laid_internal_strconv_uint64pow10), ("errors.errorType", Rows.laid_errors_errorType)] W) : Hnd W ∧ Pow W := by
  have h' : laidMet Tryz.prog tabs W ∧ handlesMet Tryz.prog [("errors.errorType", Rows.laid_errors_errorType)] W := h
  exact ⟨handle_of_laid ⟨laidMet_nil _ _, h'.2⟩, pow_of_laid h'.1⟩
/-- what a datum of an array of integers lays -/
def laidInts : DataW Unit → Array Value
  | .agg l => (l.map fun d => match d with | .lit (.int k z) => Value.int k z | _ => undef).toArray
  | _ => #[]
def layTab (d : DataW Unit) : Obj → Obj
  | .cells _ t frozen => .cells (laidInts d) t frozen
  | o => o
/-- A world that meets the condition. -/
noncomputable def laidWorldL (os : Os) : World :=
  { laidWorld os with heap := (((laidWorld os).heap.modify 7 (layTab Rows.laid_math_bits_deBruijn32tab)).modify 8 (layTab Rows.laid_math_bits_deBruijn64tab)).modify 4 (layTab Rows.laid_internal_strconv_uint64pow10) }
theorem laidWorldL_met (os : Os) (args : Array Value) : laidMetH Tryz.prog [("math/bits.deBruijn32tab", Rows.laid_math_bits_deBruijn32tab), ("math/bits.deBruijn64tab", Rows.laid_math_bits_deBruijn64tab), ("internal/strconv.uint64pow10", Rows.laid_internal_strconv_uint64pow10), ("errors.errorType", Rows.laid_errors_errorType)] ((laidWorldL os).forCall (fun _ _ => 0) ⟨#[], args, []⟩).memory :=
  laidMetH_of_parts (laidMet_of_run' (l := tabs) 8 (by kernel_rfl) (by kernel_rfl)) (by kernel_rfl)
end Go.Proofs.YtheimfdbadjpoaaGreatDoor
