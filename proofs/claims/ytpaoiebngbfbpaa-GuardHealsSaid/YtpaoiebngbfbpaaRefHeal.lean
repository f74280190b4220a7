/- The contract of dropref1.Heal where the number of blocks may be. -/
import Derived.Test.YtpaoiebngbfbpaaGuardPl4
import Derived.Test.YtpaoiebngbfbpaaRefGroups
import Derived.Deep.CutRange
import Derived.Deep.CutBlock
namespace Go.Proofs.Ytpaoiebngbfbpaa
open Go.ChangeShapes Go.WideShapes Go.ChangeAt Go.RowKit

/-- the slice behind the document's healing -/
def HealOut (w' : World) (v : Value) (E : Nat) (L : List ByteArray) : Prop := ∃ a k cap, v = .slice a k cap ∧ (E = 0 → StrsAt w' a k cap L) ∧ (E ≠ 0 → v = .slice none 0 0)

theorem StrsAt.take {w : World} {a : Option Addr} {n cap : Nat} {zs : List ByteArray} (h : StrsAt w a n cap zs) (k : Nat) (hk : k ≤ n) : StrsAt w a k cap (zs.take k) := by
  have hl := h.len
  have hle := h.row.le
  refine ⟨by rw [List.length_take]; omega, ⟨by omega, h.row.cap, fun hk0 => ?_⟩, fun s hs => h.sz s (List.mem_of_mem_take hs)⟩
  obtain ⟨b, o, ha, hc⟩ := h.row.at_ (by omega)
  refine ⟨b, o, ha, fun j hj => ?_⟩
  rw [hc j (by omega), List.getD_eq_getElem?_getD, List.getD_eq_getElem?_getD, List.getElem?_take_of_lt hj]

end Go.Proofs.Ytpaoiebngbfbpaa
