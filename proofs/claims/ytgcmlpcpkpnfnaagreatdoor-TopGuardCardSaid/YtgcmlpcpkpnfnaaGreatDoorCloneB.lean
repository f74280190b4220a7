/- slices.Clone at bools: the call's own copy. -/
import Derived.Test.YtgcmlpcpkpnfnaaGreatDoorAppM
import Derived.Laws.Cover3
namespace Go.Proofs.YtgcmlpcpkpnfnaaGreatDoor
open Go.ChangeShapes Go.WideShapes Go.ChangeAt Go.RowKit

theorem info_boolT : (Tryz.prog.info? 4).map (fun i => (i.zero, i.size, i.bytes)) = some (some (.bool false), 1, 1) := by kernel_rfl
abbrev OwnBools (w : World) (B : Nat) (v : Value) (bs : List Bool) : Prop := Own w B 4 v (bs.map Value.bool)
theorem RowAt.ofBools {w : World} {a : Option Addr} {n cap : Nat} {bs : List Bool} (h : BoolsAt w a n cap bs) : RowAt w a n cap (fun j => (bs.map Value.bool).getD j undef) :=
  ⟨h.row.le, h.row.cap, fun hn => by
    obtain ⟨b, o, ha, hc⟩ := h.row.at_ hn
    refine ⟨b, o, ha, fun j hj => ?_⟩
    have hl := h.len
    have e : (bs.map Value.bool).getD j undef = .bool (bs.getD j false) := by
      rw [List.getD_eq_getElem?_getD, List.getElem?_map, List.getD_eq_getElem?_getD, List.getElem?_eq_getElem (by omega)]; rfl
    rw [e]; exact hc j hj⟩
theorem OwnBools.slice {w : World} {B : Nat} {v : Value} {bs : List Bool} (h : OwnBools w B v bs) : ∃ a cap, v = .slice a bs.length cap ∧ BoolsAt w a bs.length cap bs := by
  obtain ⟨a, cap, hv, hr⟩ := Own.slice h
  rw [List.length_map] at hv hr
  refine ⟨a, cap, hv, rfl, ⟨hr.le, hr.cap, fun hn => ?_⟩⟩
  obtain ⟨b, off, ha, hc⟩ := hr.at_ hn
  exact ⟨b, off, ha, fun j hj => by rw [hc j hj]; simp [List.getD, hj]⟩

set_option maxRecDepth 100000 in
theorem clone_bool (a : Option Addr) (n cap : Nat) (bs : List Bool) (w : World) (h : BoolsAt w a n cap bs) (hn : 1 ≤ n) (hn2 : n ≤ 1000) :
    Calls Tryz.prog 44 #[.slice a n cap] w fun e w' => ∃ v, e = .returned v ∧ OwnBools w' w.heap.size v bs ∧ Lat w w' := by
  have hl := h.len
  obtain ⟨b, o, rfl, _⟩ := h.row.at_ (by omega)
  have H := Lib.hid h
  have hnil : (binOp .eql 45 (.slice (some ⟨b, o, none⟩) n cap) (.slice none 0 0)).run Tryz.prog w = .ok (.bool false) w := by
    simp only [binOp]
    simp [run_equal_slice_nil (P := Tryz.prog) w 45 4 (some ⟨b, o, none⟩) n cap Tryz.underlying45]
  have hb1 : Lat w (w.alloc (.cells #[] 4)) := Lat.alloc _ _
  have hown : OwnBools (w.alloc (.cells #[] 4)) w.heap.size (.slice (some ⟨w.heap.size, 0, none⟩) 0 0) [] := World.ownsRow_made w #[] 0 (Nat.le_refl _) (by unfold maxLen; omega) rfl
  have HO := Lib.hid hown; have HL := Lib.hid hl
  clear h hown hl
  go_enter Tryz.func44, Tryz.ntmps44
  go_wp2_with (at_builtin; refine wpList_appM _ w w.heap.size rfl _ _ 45 rfl 4 (.bool false) 1 Tryz.underlying45 info_boolT rfl (by decide) _ _ rfl HO.out (some ⟨b, o, none⟩) n cap (bs.map Value.bool) rfl (by rw [List.length_map]; exact HL.out) (RowAt.ofBools (H.out.keep hb1)) (fun u hu => by obtain ⟨s, _, rfl⟩ := List.mem_map.1 hu; rfl) (by simp; omega) rfl hb1 ?_; intro v' w' hown' hb' _)
  go_ret
  exact ⟨_, rfl, by simpa [OwnBools] using hown', hb'⟩
end Go.Proofs.YtgcmlpcpkpnfnaaGreatDoor
