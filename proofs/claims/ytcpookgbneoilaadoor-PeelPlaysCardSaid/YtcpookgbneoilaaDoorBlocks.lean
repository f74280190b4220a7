/- The contracts of blocks.Size, blocks.Check. -/
import Derived.Test.YtcpookgbneoilaaDoorOwn
namespace Go.Proofs.YtcpookgbneoilaaDoor
open Go.ChangeShapes Go.WideShapes Go.ChangeAt Go.RowKit

/-- how long string j is -/
def szAt (ss : List ByteArray) (j : Nat) : Nat := (ss.getD j ByteArray.empty).size
/-- what is wrong with blocks, as a number; 0: nothing -/
def chk (ss : List ByteArray) : Nat :=
  if ss.length = 0 then 5 else if 16 < ss.length then 4 else if szAt ss 0 < 1 ∨ 8 < szAt ss 0 then 1 else if ∃ j, j < ss.length ∧ szAt ss j ≠ szAt ss 0 then 3 else 0
structure ChkOk (ss : List ByteArray) : Prop where
  pos : 1 ≤ ss.length
  most : ss.length ≤ 16
  one : 1 ≤ szAt ss 0
  eight : szAt ss 0 ≤ 8
  all : ∀ j, j < ss.length → szAt ss j = szAt ss 0
theorem chk_ok {ss : List ByteArray} (h : chk ss = 0) : ChkOk ss := by
  unfold chk at h
  repeat' split at h
  all_goals first | omega | skip
  rename_i h1 h2 h3 h4
  exact ⟨by omega, by omega, by omega, by omega, fun j hj => Classical.byContradiction fun hne => h4 ⟨j, hj, hne⟩⟩
theorem chk_of {ss : List ByteArray} (h : ChkOk ss) : chk ss = 0 := by
  obtain ⟨h1, h2, h3, h4, h5⟩ := h
  unfold chk
  rw [if_neg (by omega), if_neg (by omega), if_neg (by omega), if_neg (by rintro ⟨j, hj, hne⟩; exact hne (h5 j hj))]

theorem size_yes (n : Int) (w : World) (h0 : 1 ≤ n) (h1 : n ≤ 8) :
    Calls Tryd.prog 28 #[.int .i64 n] w fun e w' => e = .returned (.bool true) ∧ w = w' := by
  have hd : decide (n ≤ 8) = true := decide_eq_true (by omega)
  go_enter Tryd.func28, Tryd.ntmps28
  go_wp2
  go_ret
  exact ⟨rfl, rfl⟩
theorem size_no (n : Int) (w : World) (h : n < 1 ∨ 8 < n) :
    Calls Tryd.prog 28 #[.int .i64 n] w fun e w' => e = .returned (.bool false) ∧ w = w' := by
  have hc : decide (1 ≤ n) = false ∨ (decide (1 ≤ n) = true ∧ decide (n ≤ 8) = false) := by
    by_cases h : 1 ≤ n
    · exact .inr ⟨decide_eq_true h, decide_eq_false (by omega)⟩
    · exact .inl (decide_eq_false h)
  clear h
  rcases hc with h4 | ⟨h4, h5⟩
  all_goals
    go_enter Tryd.func28, Tryd.ntmps28
    go_wp2
    go_ret
    exact ⟨rfl, rfl⟩

theorem szAt_zero {w : World} {bb o : Nat} {ss : List ByteArray} (h : w.cell? ⟨bb, o + 0, none⟩ = some (.string (ss.getD 0 ByteArray.empty))) : w.cell? ⟨bb, o, none⟩ = some (.string (ss.getD 0 ByteArray.empty)) := h

end Go.Proofs.YtcpookgbneoilaaDoor
