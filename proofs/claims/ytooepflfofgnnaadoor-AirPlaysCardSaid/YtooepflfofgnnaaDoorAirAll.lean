/- The contract of air.All, over drops as they lie. -/
import Derived.Test.YtooepflfofgnnaaDoorOpenDrop
namespace Go.Proofs.YtooepflfofgnnaaDoor
open Go.ChangeShapes Go.WideShapes Go.ChangeAt Go.RowKit

set_option maxRecDepth 100000
set_option maxHeartbeats 1000000 in
theorem air_all_at (p : Nat) (a : Option Addr) (n cap : Nat) (ds : List Dr) (w : World) (hc : w.cell? ⟨p, 0, none⟩ = some (.slice a n cap)) (hr : RowsAt w 2 a n cap (ds.map Dr.row)) (hn : n = ds.length) (hlen : n ≤ 1000000) (hwf : ∀ d ∈ ds, I64 d.s) :
    Calls Tryd.prog 21 #[.pointer (some ⟨p, 0, none⟩)] w fun e w' => ∃ a cap, e = .returned (.slice a n cap) ∧ IntsAt w' a n cap (ds.map Dr.s) ∧ Lat w w' := by
  have HN := Lib.hid hn; have HR := Lib.hid hr; have HWF := Lib.hid hwf
  have hnc := hr.le
  have hcm := hr.cap
  clear hr hn hwf
  unfold maxLen at hcm
  go_enter Tryd.func21, Tryd.ntmps21
  go_wp2
  clear hc
  go_loopw [3, 11] (fun v i wr => ∃ j : Nat, j ≤ n ∧ i = .int .i64 j ∧ Hid (OwnInts wr w.heap.size v ((ds.map Dr.s).take j) ∧ Lat w wr)) (fun _ i _ => n - (intOf i).toNat)
  case atStart => exact ⟨0, Nat.zero_le _, rfl, by rw [List.take_zero]; exact Own.nil _ _ _, Lat.refl _⟩
  case round =>
    obtain ⟨j, hj, rfl, hrel⟩ := hrel
    by_cases hlt : j < n
    · obtain ⟨b, o, rfl, hcell⟩ := HR.out.at_ (by omega)
      have hjl : j < ds.length := by rw [← HN.out]; exact hlt
      obtain ⟨V, hV⟩ : ∃ V, V = ds[j] := ⟨_, rfl⟩
      have hd : ds[j]? = some V := by rw [hV]; exact List.getElem?_eq_getElem hjl
      have hr2 : (ds.map Dr.row)[j]? = some V.row := by rw [List.getElem?_map, hd]; rfl
      have c0 := (hcell j _ hr2).2 0 _ rfl
      have c1 := (hcell j _ hr2).2 1 _ rfl
      rw [Nat.add_zero] at c0
      rw [← Nat.add_assoc] at c1
      have c0 := hrel.out.2.cell_at c0
      have c1 := hrel.out.2.cell_at c1
      have hst : (ds.map Dr.s).take (j + 1) = (ds.map Dr.s).take j ++ [V.s] := by
        rw [List.take_succ_eq_append_getElem (by rw [List.length_map]; exact hjl), List.getElem_map, ← hV]
      have hl : ((ds.map Dr.s).take j).length < 1000000000000 := by rw [List.length_take]; omega
      obtain ⟨s, t⟩ := V
      simp only at c0 c1 hst
      have HST := Lib.hid hst; have HL := Lib.hid hl
      have i1 : (0 : Int) ≤ (j : Int) := by omega
      have i2 : (j : Int) < (n : Int) := by omega
      clear hst hl hcell hd hV hjl hr2
      go_wp2_with (at_builtin; refine app_int (wr.alloc (.cells #[.int .i64 s, .string t] 24)) w _ rfl _ _ rfl _ _ s rfl (Own.keep hrel.out.1 (Lat.alloc _ _)) (by rw [show (wr.alloc (.cells #[.int .i64 s, .string t] 24)).heap.size = wr.heap.size + 1 from by simp]; rfl) HL.out rfl (Lat.trans hrel.out.2 (Lat.alloc _ _)) ?_; intro v' w2 hown' hb' _)
      go_roundw
      case rel => exact ⟨j + 1, by omega, by go_num, by rw [HST.out]; exact hown', hb'⟩
      case measure => simp [intOf]; omega
    · obtain rfl : j = n := by omega
      have hfin : (ds.map Dr.s).take j = ds.map Dr.s := List.take_of_length_le (by rw [List.length_map, HN.out]; exact Nat.le_refl _)
      have hrl := hrel.out
      rw [hfin] at hrl
      obtain ⟨a, cap, rfl, hat⟩ := OwnInts.sliceN (n := j) hrl.1 (fun z hz => by obtain ⟨d, hd, rfl⟩ := List.mem_map.1 hz; exact HWF.out d hd) (by rw [List.length_map, HN.out])
      have HA := Lib.hid hat; have HB := Lib.hid hrl.2
      clear hfin hrl hrel hat
      go_wp2
      go_ret
      exact ⟨a, cap, rfl, HA.out, HB.out⟩
end Go.Proofs.YtooepflfofgnnaaDoor
