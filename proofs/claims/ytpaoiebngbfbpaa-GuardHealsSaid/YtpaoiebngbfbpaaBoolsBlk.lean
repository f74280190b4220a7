/- A slice of bools of the call's own as a block. -/
import Derived.Test.YtpaoiebngbfbpaaOwnC
namespace Go.Proofs.Ytpaoiebngbfbpaa
open Go.ChangeShapes Go.WideShapes Go.ChangeAt Go.RowKit

theorem bools_blk {w : World} {b k : Nat} {lk : List Bool} (hb : Blk w b k (fun j => .bool (lk.getD j false))) (hl : lk.length = k) (hk : k ≤ 1000) : BoolsAt w (some ⟨b, 0, none⟩) k k lk :=
  ⟨hl, ⟨Nat.le_refl _, by unfold maxLen; omega, fun _ => ⟨b, 0, rfl, fun j hj => by rw [Nat.zero_add]; exact hb.cell j hj⟩⟩⟩
theorem blk_putB {w : World} {b k i : Nat} {lk : List Bool} (hb : Blk w b k (fun j => .bool (lk.getD j false))) (hl : lk.length = k) (hi : i < k) (t : Bool) : Blk (w.setCell ⟨b, i, none⟩ (.bool t)) b k (fun j => .bool ((lk.set i t).getD j false)) := by
  refine (hb.set hi (.bool t)).congr fun j hj => ?_
  rw [List.getD_eq_getElem?_getD, List.getD_eq_getElem?_getD, List.getElem?_set]
  by_cases e : j = i
  · rw [if_pos e, if_pos e.symm, if_pos (by omega)]; rfl
  · rw [if_neg e, if_neg (fun h => e h.symm)]
theorem blk_falses {w : World} {b k : Nat} (h : Blk w b k (fun _ => .bool false)) : Blk w b k (fun j => .bool ((List.replicate k false).getD j false)) := h.congr fun j hj => by
  rw [List.getD_eq_getElem?_getD, List.getElem?_replicate, if_pos hj]; rfl

end Go.Proofs.Ytpaoiebngbfbpaa
