/- The contract of dropref1's Air.Out. -/
import Derived.Test.YtooepflfofgnnaaDoorRefAir
import Derived.Test.YtooepflfofgnnaaDoorAppRM
namespace Go.Proofs.YtooepflfofgnnaaDoor
open Go.ChangeShapes Go.WideShapes Go.ChangeAt Go.RowKit

set_option maxRecDepth 100000
set_option maxHeartbeats 2000000 in
theorem refAirOut (S : Nat → Prop) (p : Nat) (ds : List Dr) (k : Nat) (w : World) (h : AirO S p ds w) (hk : k < ds.length) (hlen : ds.length ≤ 1000000) :
    Calls Tryd.prog 26 #[.pointer (some ⟨p, 0, none⟩), .int .i64 k] w fun e w' => (∃ v, e = .returned v) ∧ AirStep S p (ds.eraseIdx k) w w' := by
  obtain ⟨b, cap, hc, ho, hSb, hbp, hnc, hcm, _⟩ := row_cells h hk
  obtain ⟨n, hn⟩ : ∃ n, n = ds.length := ⟨_, rfl⟩
  rw [← hn] at hc ho hk hlen hnc
  obtain ⟨a', cap', hv, hr⟩ := OwnR.slice ho (show (ds.map Dr.row).length = n by rw [List.length_map, hn])
  injection hv with e1 e2 e3
  subst e1
  subst e3
  have hplt := h.lt _ h.at_
  have hfp := h.free
  have hone : ∀ r ∈ ds.map Dr.row, ∀ u ∈ r, u.oneCell' = true := fun r hr u hu => by
    obtain ⟨d, _, rfl⟩ := List.mem_map.1 hr
    simp [Dr.row] at hu
    rcases hu with rfl | rfl <;> rfl
  have ht : RowsAt w 2 (some ⟨b, 0, none⟩) k cap ((ds.map Dr.row).take k) := hr.take (by omega)
  have hd : RowsAt w 2 (if cap = k + 1 then some ⟨b, 0, none⟩ else (some ⟨b, 0, none⟩ : Option Addr).map (·.add ((k + 1) * 2))) (n - (k + 1)) (cap - (k + 1)) ((ds.map Dr.row).drop (k + 1)) := hr.from_ (k + 1) (by omega)
  obtain ⟨A2, hA2⟩ : ∃ A2, A2 = (if cap = k + 1 then some ⟨b, 0, none⟩ else (some ⟨b, 0, none⟩ : Option Addr).map (·.add ((k + 1) * 2))) := ⟨_, rfl⟩
  have hls : ((ds.map Dr.row).take k ++ (ds.map Dr.row).drop (k + 1)).length = n - 1 := by rw [List.length_append, List.length_take, List.length_drop, List.length_map, ← hn]; omega
  have hlt : ((ds.map Dr.row).take k).length = k := by rw [List.length_take, List.length_map, ← hn]; omega
  have herase : ds.eraseIdx k = ds.take k ++ ds.drop (k + 1) := List.eraseIdx_eq_take_drop_succ ds k
  have hlenE : (ds.eraseIdx k).length = n - 1 := by rw [List.length_eraseIdx_of_lt (by rw [← hn]; exact hk), ← hn]
  rw [← hA2] at hd
  unfold maxLen at hcm
  have hrun : ∀ W : World, (Instr.slice 48 (.slice (some ⟨b, 0, none⟩) n cap) (some (.int .i64 ((k : Int) + 1))) none none).run Tryd.prog W = .ok (.slice A2 (n - (k + 1)) (cap - (k + 1))) W := fun W => by
    rw [hA2]
    have h0 : 0 ≤ (k : Int) + 1 := by omega
    have h1 : (k : Int) + 1 ≤ (n : Int) := by omega
    have h2 : ((k : Int) + 1).toNat = k + 1 := by omega
    simp [go_sem, h0, h1, h2]
  have HT := Lib.hid ht; have HD := Lib.hid hd; have HLS := Lib.hid hls; have HLT := Lib.hid hlt; have HER := Lib.hid herase; have HLE := Lib.hid hlenE; have HONE := Lib.hid hone; have HH := Lib.hid h; have HC := Lib.hid hc; have HN := Lib.hid hn; have HFP := Lib.hid hfp
  have i1 : (0 : Int) ≤ (k : Int) := by omega
  have i2 : (k : Int) ≤ (cap : Int) := by omega
  clear hA2 hd ht hls hlt herase hlenE hone h hr ho hn hfp
  have one1 : ∀ r ∈ (ds.map Dr.row).take k, ∀ u ∈ r, u.oneCell' = true := fun r hr => HONE.out r (List.mem_of_mem_take hr)
  have one2 : ∀ r ∈ (ds.map Dr.row).drop (k + 1), ∀ u ∈ r, u.oneCell' = true := fun r hr => HONE.out r (List.mem_of_mem_drop hr)
  have O1 := Lib.hid one1; have O2 := Lib.hid one2
  clear one1 one2
  go_enter Tryd.func26, Tryd.ntmps26
  go_upto_region 2 with (at_builtin; refine wpList_appRM _ w.heap.size rfl (.tmp 5) (.tmp 11) 48 rfl 24 _ 2 24 Tryd.underlying48 info_Drop rfl (by decide) (by decide) (.slice none 0 0) [] rfl (OwnR.nil _ _ _ _) _ k _ ((ds.map Dr.row).take k) rfl HT.out O1.out (by simp; omega) (Nat.le_refl _) ?_; intro v1 w1 hown1 hfr1 hloc1)
  rw [List.nil_append] at hown1
  have hl1 : Lat w w1 := ⟨hfr1.os, hfr1.tape, hfr1.output, hfr1.size, fun i hi => hfr1.block i hi (fun e => by cases e)⟩
  have HL1 := Lib.hid hl1; have HO1 := Lib.hid hown1; have HLC1 := Lib.hid hloc1
  have c1 := hl1.cell_at HC.out
  clear hl1 hown1 hloc1 hfr1 hc
  go_wp2_with (at_builtin; refine wpList_appRM _ w.heap.size rfl (.tmp 14) (.tmp 21) 48 rfl 24 _ 2 24 Tryd.underlying48 info_Drop rfl (by decide) (by decide) v1 ((ds.map Dr.row).take k) rfl HO1.out A2 (n - (k + 1)) _ ((ds.map Dr.row).drop (k + 1)) rfl (HD.out.keep HL1.out) O2.out (by rw [HLT.out]; omega) HL1.out.size ?_; intro v2 w2 hown2 hfr2 hloc2; obtain ⟨a2, cp2, rfl, hrr⟩ := OwnR.slice hown2 HLS.out; clear hrr; have hpn : ¬ v1.ownBlock = some p := (fun e => by have h1 := (OwnR.lt HO1.out p e).1; omega); have c2 := hfr2.cell_at c1 hpn; have f2 := hfr2.free_at (Nat.lt_of_lt_of_le hplt HL1.out.size) (HL1.out.free_at hplt HFP.out) hpn; have HO2 := Lib.hid hown2; have HF2 := Lib.hid hfr2; have HLC2 := Lib.hid hloc2; clear hown2 hfr2 hloc2 hpn)
  go_end0
  have HFS := HF2.out
  have hv1 : ∀ i, v1.ownBlock = some i → w.heap.size ≤ i := fun i e => (OwnR.lt HO1.out i e).1
  have f12 : Fr S w w2 := (Fr.lat HL1.out : Fr S w w1).trans HF2.out (fun i hi e => by have := hv1 i e; omega)
  have f13 : Fr S w (w2.setCell ⟨p, 0, none⟩ (.slice a2 (n - 1) cp2)) := f12.then_set ⟨p, 0, none⟩ _ (.inl HH.out.at_)
  have hnew : ∀ i, (Value.slice a2 (n - 1) cp2).ownBlock = some i → w.heap.size ≤ i ∧ i < w2.heap.size := fun i e => OwnR.lt HO2.out i e
  refine ⟨⟨_, rfl⟩, f13, fun i => i = p ∨ (Value.slice a2 (n - 1) cp2).ownBlock = some i, ⟨fun i hi => ?_, .inl rfl, by rw [World.frozen?_setCell]; exact f2, a2, cp2, ?_, ?_, fun i hi => ?_⟩, fun i hi => ?_⟩
  · have hz : (w2.setCell ⟨p, 0, none⟩ (.slice a2 (n - 1) cp2)).heap.size = w2.heap.size := by simp [World.setCell]
    rw [hz]
    rcases hi with rfl | hi
    · exact World.block_lt_of_cell? _ _ c2
    · exact (hnew i hi).2
  · rw [HLE.out]; exact World.cell?_setCell_same _ _ _ c2
  · rw [HLE.out, HER.out, map_eraseIdx]
    exact OwnR.base (OwnR.fr HO2.out (Fr.set (S := fun i => i = p) w2 ⟨p, 0, none⟩ _ rfl) (fun i hi e => by have := (hnew i hi).1; omega)) (Nat.zero_le _)
  · rw [HLE.out] at hi
    exact ⟨.inr hi, fun e => by have := (hnew i hi).1; omega⟩
  · rcases hi with rfl | hi
    · exact .inl HH.out.at_
    · exact .inr (hnew i hi).1
end Go.Proofs.YtooepflfofgnnaaDoor
