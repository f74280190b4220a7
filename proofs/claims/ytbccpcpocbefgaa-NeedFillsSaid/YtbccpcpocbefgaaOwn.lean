/- Slices of strings that a call makes itself, element by element. -/
import Derived.Test.YtbccpcpocbefgaaBytePlain
import Derived.Test.YtbccpcpocbefgaaOwnC
namespace Go.Proofs.Ytbccpcpocbefgaa
open Go.ChangeShapes Go.WideShapes Go.ChangeAt Go.RowKit

theorem info_string : (Try.prog.info? 9).map (fun i => (i.zero, i.size, i.bytes)) = some (some (.string .empty), 1, 16) := by kernel_rfl
abbrev OwnStrs (w : World) (B : Nat) (v : Value) (ss : List ByteArray) : Prop := Own w B 9 v (ss.map Value.string)
theorem OwnStrs.slice {w : World} {B : Nat} {v : Value} {ss : List ByteArray} (h : OwnStrs w B v ss) (hwf : ∀ z ∈ ss, z.size ≤ maxLen) : ∃ a cap, v = .slice a ss.length cap ∧ StrsAt w a ss.length cap ss := by
  obtain ⟨a, cap, hv, hr⟩ := Own.slice h
  rw [List.length_map] at hv hr
  refine ⟨a, cap, hv, rfl, ⟨hr.le, hr.cap, fun hn => ?_⟩, hwf⟩
  obtain ⟨b, off, ha, hc⟩ := hr.at_ hn
  exact ⟨b, off, ha, fun j hj => by rw [hc j hj]; simp [List.getD, hj]⟩
end Go.Proofs.Ytbccpcpocbefgaa
