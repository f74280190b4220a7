/- slices.Clone at strings: the call's own copy. -/
import Derived.Test.YtgcmlpcpkpnfnaaGreatDoorAppM
import Derived.Test.YtgcmlpcpkpnfnaaGreatDoorOwn
import Derived.Laws.Cover3
namespace Go.Proofs.YtgcmlpcpkpnfnaaGreatDoor
open Go.ChangeShapes Go.WideShapes Go.ChangeAt Go.RowKit

set_option maxRecDepth 100000 in
theorem clone_str (a : Option Addr) (n cap : Nat) (ss : List ByteArray) (w : World) (h : StrsAt w a n cap ss) (hn : 1 ≤ n) (hn2 : n ≤ 1000) :
    Calls Tryz.prog 25 #[.slice a n cap] w fun e w' => ∃ v, e = .returned v ∧ OwnStrs w' w.heap.size v ss ∧ Lat w w' := by
  have hl := h.len
  obtain ⟨b, o, rfl, _⟩ := h.row.at_ (by omega)
  have H := Lib.hid h
  have hnil : (binOp .eql 22 (.slice (some ⟨b, o, none⟩) n cap) (.slice none 0 0)).run Tryz.prog w = .ok (.bool false) w := by
    simp only [binOp]
    simp [run_equal_slice_nil (P := Tryz.prog) w 22 9 (some ⟨b, o, none⟩) n cap Tryz.underlying22]
  have hb1 : Lat w (w.alloc (.cells #[] 9)) := Lat.alloc _ _
  have hown : OwnStrs (w.alloc (.cells #[] 9)) w.heap.size (.slice (some ⟨w.heap.size, 0, none⟩) 0 0) [] := World.ownsRow_made w #[] 0 (Nat.le_refl _) (by unfold maxLen; omega) rfl
  have HO := Lib.hid hown; have HL := Lib.hid hl
  clear h hown hl
  go_enter Tryz.func25, Tryz.ntmps25
  go_wp2_with (at_builtin; refine wpList_appM _ w w.heap.size rfl _ _ 22 rfl 9 (.string .empty) 16 Tryz.underlying22 info_string rfl (by decide) _ _ rfl HO.out (some ⟨b, o, none⟩) n cap (ss.map Value.string) rfl (by rw [List.length_map]; exact HL.out) (RowAt.ofStrs (H.out.keep hb1)) (fun u hu => by obtain ⟨s, _, rfl⟩ := List.mem_map.1 hu; rfl) (by simp; omega) rfl hb1 ?_; intro v' w' hown' hb' _)
  go_ret
  exact ⟨_, rfl, by simpa [OwnStrs] using hown', hb'⟩
end Go.Proofs.YtgcmlpcpkpnfnaaGreatDoor
