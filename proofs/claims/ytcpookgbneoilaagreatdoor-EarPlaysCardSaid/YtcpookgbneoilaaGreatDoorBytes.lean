/- Laws for []byte(s), string(b), and one string over another (mix.Over, mix.Xor). -/
import Derived.Test.YtcpookgbneoilaaGreatDoorBytePlain
import Derived.Test.YtcpookgbneoilaaGreatDoorOwnB
import Derived.Lib.ConvBytes
import Derived.Laws.BytesArg
import Derived.Laws.BitsAllLaws
namespace Go.Proofs.YtcpookgbneoilaaGreatDoor
open Go.ChangeShapes Go.WideShapes Go.ChangeAt Go.RowKit
/-- What the string reads as behind k rounds. -/
def ovr (a b : ByteArray) (k j : Nat) : Nat := if j < k then bt a j ^^^ bt b j else bt a j
theorem ovr_lt (a b : ByteArray) (k j : Nat) : ovr a b k j < 256 := by
  unfold ovr; split
  · exact Nat.xor_lt_two_pow (n := 8) (bt_lt a j) (bt_lt b j)
  · exact bt_lt a j
/-- What a round leaves. -/
theorem ovr_step {a b : ByteArray} {w wr : World} {g k : Nat} (hk : k < a.size) (hkb : k < b.size) (hg : w.heap.size ≤ g)
    (h : Lat w wr ∧ g < wr.heap.size ∧ (∀ j, j < a.size → wr.cell? ⟨g, j, none⟩ = some (.int .u8 (ovr a b k j))) ∧ (∀ j, j < a.size → wr.frozen? ⟨g, j, none⟩ = false)) :
    Lat w (wr.setCell ⟨g, k, none⟩ (.int .u8 (bits .xor .u8 (ovr a b k k) b[k].toNat))).drew ∧ g < (wr.setCell ⟨g, k, none⟩ (.int .u8 (bits .xor .u8 (ovr a b k k) b[k].toNat))).drew.heap.size ∧
      (∀ j, j < a.size → (wr.setCell ⟨g, k, none⟩ (.int .u8 (bits .xor .u8 (ovr a b k k) b[k].toNat))).drew.cell? ⟨g, j, none⟩ = some (.int .u8 (ovr a b (k + 1) j))) ∧
      (∀ j, j < a.size → (wr.setCell ⟨g, k, none⟩ (.int .u8 (bits .xor .u8 (ovr a b k k) b[k].toNat))).drew.frozen? ⟨g, j, none⟩ = false) := by
  obtain ⟨h1, h2, h3, h4⟩ := h
  have e : bits .xor .u8 (ovr a b k k) b[k].toNat = ((ovr a b (k + 1) k : Nat) : Int) := by
    rw [bt_get b k hkb, u8_xor_nat _ _ (ovr_lt _ _ _ _) (bt_lt _ _)]
    simp [ovr]
  rw [e]
  refine ⟨(Below.setCell h1 hg _).drew, by simpa [World.setCell] using h2, fun j hj => ?_, fun j hj => ?_⟩
  · show (wr.setCell _ _).cell? _ = _
    by_cases hjk : j = k
    · subst hjk; exact World.cell?_setCell_same _ _ _ (h3 j hj)
    · rw [World.cell?_setCell_other _ _ _ _ (by first | (simp; done) | (simp; omega)), h3 j hj]
      have : (j < k + 1) = (j < k) := by apply propext; omega
      simp [ovr, this]
  · show (wr.setCell _ _).frozen? _ = _
    rw [World.frozen?_setCell]; exact h4 j hj
theorem strF_ovr (a b : ByteArray) (hab : a.size = b.size) : strF a.size (ovr a b a.size) = ⟨(xorL a.data.toList b.data.toList).toArray⟩ := by
  unfold strF xorL
  have ha : a.data.toList.length = a.size := by simp
  have hb : b.data.toList.length = a.size := by rw [hab]; simp
  congr 2
  apply List.ext_getElem
  · simp [ha, hb]
  · intro j h1 h2
    have hj : j < a.size := by simpa using h1
    simp only [List.getElem_map, List.getElem_range, List.getElem_zipWith]
    unfold ovr bt
    rw [if_pos hj, List.getD_eq_getElem?_getD, List.getD_eq_getElem?_getD, List.getElem?_eq_getElem (by omega), List.getElem?_eq_getElem (by omega)]
    simp only [Option.getD_some]
    apply UInt8.toNat_inj.1
    rw [UInt8.toNat_ofNat', UInt8.toNat_xor]
    exact Nat.mod_eq_of_lt (Nat.xor_lt_two_pow (n := 8) (UInt8.toNat_lt _) (UInt8.toNat_lt _))
set_option maxHeartbeats 400000 in
set_option maxRecDepth 100000 in
theorem over_any (a b : ByteArray) (w : World) (hab : a.size = b.size) (ha : a.size ≤ maxLen) :
    Calls Tryz.prog 77 #[.string a, .string b] w fun e w' => e = .returned (.string ⟨(xorL a.data.toList b.data.toList).toArray⟩) ∧ Lat w w' := by
  have hm : a.size ≤ 9223372036854775807 := by unfold maxLen at ha; omega
  have HAB := Lib.hid hab; clear hab
  go_enter Tryz.func77, Tryz.ntmps77
  go_wp2_with (refine wpList_conv_bytes _ rfl _ _ _ 5 rfl Tryz.underlying9 Tryz.underlying134 Tryz.underlying5 _ rfl ?_)
  intro g cap w1 hg hcap hb hsz hcell hfr
  have HG := Lib.hid hg; clear hg
  have HS := Lib.hid hsz; clear hsz
  have HC := Lib.hid hcell; clear hcell
  have HF := Lib.hid hfr; clear hfr
  go_wp2
  go_loopw [6, 11] (fun _ i wr => ∃ k : Nat, k ≤ a.size ∧ i = .int .i64 k ∧ Hid (Lat w wr ∧ g < wr.heap.size ∧ (∀ j, j < a.size → wr.cell? ⟨g, j, none⟩ = some (.int .u8 (ovr a b k j))) ∧ (∀ j, j < a.size → wr.frozen? ⟨g, j, none⟩ = false)))
    (fun _ i _ => a.size - (intOf i).toNat)
  case atStart => exact ⟨0, Nat.zero_le _, rfl, hb, by rw [HG.out, HS.out]; omega, fun j hj => by rw [HC.out j hj]; simp [ovr], HF.out⟩
  case round =>
    obtain ⟨k, hk, rfl, hrel⟩ := hrel
    by_cases hlt : k < a.size
    · have c1 := hrel.out.2.2.1 k hlt
      have f1 := hrel.out.2.2.2 k hlt
      have hbk : k < b.size := by rw [← HAB.out]; exact hlt
      go_wp2
      go_region
      go_wp2
      go_roundw
      case rel =>
        refine ⟨k + 1, by omega, by go_num, ?_⟩
        exact ovr_step hlt hbk (Nat.le_of_eq HG.out.symm) hrel.out
      case measure => simp [intOf]; omega
    · obtain rfl : k = a.size := by omega
      have hcv := run_conv_str (P := Tryz.prog) wr 134 5 9 Tryz.underlying134 Tryz.underlying5 Tryz.underlying9 g 0 a.size cap (ovr a b a.size) (fun j hj => by rw [Nat.zero_add]; exact hrel.out.2.2.1 j hj)
      go_wp2
      go_ret
      exact ⟨congrArg (fun s => Ending.returned (.string s)) (strF_ovr a b HAB.out), hrel.out.1⟩
end Go.Proofs.YtcpookgbneoilaaGreatDoor
