/- The contract of film.Encode: one answer whatever is asked. -/
import Derived.Test.YtooepflfofgnnaaDoorFilmRow
import Derived.Test.YtooepflfofgnnaaDoorErrv
import Derived.Test.YtooepflfofgnnaaDoorPic2
import Derived.Deep.DeepCutAuto
import Derived.Deep.CutBlock
namespace Go.Proofs.YtooepflfofgnnaaDoor
open Go.ChangeShapes Go.WideShapes Go.ChangeAt Go.RowKit

theorem alkE_self (wd hg : Int) (zs : List Int) : alkE wd hg zs wd hg zs = chkPic wd hg zs := by
  unfold alkE
  by_cases h : chkPic wd hg zs = 0
  · rw [if_neg (by omega), if_neg (by omega), if_neg (by simp), h]
  · rw [if_pos h]
theorem pts_getD {ps : List Pc} {k : Nat} (h : k < ps.length) : (ps.map Pc.pt).getD k default = (ps.getD k default).pt := by
  rw [List.getD_eq_getElem?_getD, List.getD_eq_getElem?_getD, List.getElem?_map, List.getElem?_eq_getElem h]; rfl
theorem getElem?_getD {α : Type} [Inhabited α] {l : List α} {k : Nat} (h : k < l.length) : l[k]? = some (l.getD k default) := by
  rw [List.getD_eq_getElem?_getD, List.getElem?_eq_getElem h]; rfl
theorem pcs_at {w : World} {a : Option Addr} {n cap : Nat} {ps : List Pc} (h : PicsAt w a n cap ps) (hn : n ≠ 0) : ∃ b off, a = some ⟨b, off, none⟩ ∧ b < w.heap.size ∧ ∀ j, j < n → Cells3 w b (off + j * 3) (.int .i64 (ps.getD j default).wd) (.int .i64 (ps.getD j default).hg) (.slice (ps.getD j default).a (ps.getD j default).n (ps.getD j default).cap) ∧
    IntsAt w (ps.getD j default).a (ps.getD j default).n (ps.getD j default).cap (ps.getD j default).zs := by
  obtain ⟨b, off, rfl, hc⟩ := h.at_ hn
  have hj : ∀ j, j < n → ps[j]? = some (ps.getD j default) := fun j hj => getElem?_getD (by rw [h.len]; exact hj)
  refine ⟨b, off, rfl, World.block_lt_of_cell? _ _ (hc 0 _ (hj 0 (by omega))).c0, fun j hlt => ⟨hc j _ (hj j hlt), (h.pix _ (List.mem_of_getElem? (hj j hlt))).pix⟩⟩

end Go.Proofs.YtooepflfofgnnaaDoor
