/- Lines of the document's tables as they lie in memory, and the contracts of Of and over. -/
import Derived.Test.YtcpookgbneoilaaDoorRefTabPl
import Derived.Test.YtcpookgbneoilaaDoorBitsW
import Derived.Test.YtcpookgbneoilaaDoorRefMix
import Derived.Test.YtcpookgbneoilaaDoorFr
import Derived.Deep.MidRow
import Derived.Deep.LoopGhost
import Derived.Deep.DeepCutAuto
import Derived.Deep.CutBlock
import Derived.StillTailTactics
namespace Go.Proofs.YtcpookgbneoilaaDoor
open Go.ChangeShapes Go.WideShapes Go.ChangeAt Go.RowKit

/-- a line's cells: which blocks it has, what it makes -/
def lineF (v : Vec) (j : Nat) : Value := if j < 16 then .bool (v.1.testBit j) else .string (S v.2)
def lineC (v : Vec) : List Value := (List.range 17).map (lineF v)
theorem lineC_len (v : Vec) : (lineC v).length = 17 := by unfold lineC; rw [List.length_map, List.length_range]
theorem lineC_get (v : Vec) {j : Nat} (h : j < 17) : (lineC v)[j]? = some (lineF v j) := by
  unfold lineC
  rw [List.getElem?_map, List.getElem?_range h]; rfl
theorem lineF_one (v : Vec) (j : Nat) : (lineF v j).oneCell' = true := by unfold lineF; split <;> rfl
theorem lineC_one (v : Vec) : ∀ u ∈ lineC v, u.oneCell' = true := fun u hu => by
  unfold lineC at hu
  obtain ⟨j, _, rfl⟩ := List.mem_map.1 hu
  exact lineF_one v j
abbrev lineV (v : Vec) : Value := .agg (lineC v).toArray
theorem blk_new (w : World) (cs : List Value) (n : Nat) (F : Nat → Value) (t : TypeId) (h : ∀ j, j < n → cs[j]? = some (F j)) : Blk (w.alloc (.cells cs.toArray t)) w.heap.size n F :=
  ⟨by simp, fun j hj => by rw [World.cell?_alloc_at _ _ _ _ rfl]; simpa using h j hj, fun j _ => World.frozen?_alloc_new ..⟩
theorem blk_line (w : World) (v : Vec) (t : TypeId) : Blk (w.alloc (.cells (lineC v).toArray t)) w.heap.size 17 (lineF v) := blk_new w _ 17 _ t fun _ h => lineC_get v h
theorem Blk.range {w : World} {g : Nat} {v : Vec} (h : Blk w g 17 (lineF v)) : w.rangeAt g 0 (lineC v) := fun j u hu => by
  have hj : j < 17 := by rw [← lineC_len v]; exact (List.getElem?_eq_some_iff.1 hu).1
  rw [lineC_get v hj] at hu
  injection hu with hu
  rw [Nat.zero_add, ← hu]; exact h.cell j hj
theorem Blk.there {w : World} {g n : Nat} {F : Nat → Value} (h : Blk w g n F) : w.there g 0 n := fun j hj => by
  rw [Nat.zero_add]
  exact ⟨by rw [h.cell j hj]; rfl, h.free j hj⟩
/-- the line a, its first i blocks over those of b -/
def ovF (u v : Vec) (i j : Nat) : Value := if j < 16 then .bool (if j < i then (u.1.testBit j != v.1.testBit j) else u.1.testBit j) else .string (S u.2)

def Ov (w : World) (u v : Vec) (i : Nat) (W : World) : Prop := Lat w W ∧ Blk W w.heap.size 17 (ovF u v i) ∧ Blk W (w.heap.size + 1) 17 (lineF v) ∧ Blk W (w.heap.size + 1 + 1) 17 (lineF (0, []))
theorem ov_start (w : World) (u v : Vec) (t : TypeId) : Ov w u v 0 (((w.alloc (.cells (lineC u).toArray t)).alloc (.cells (lineC v).toArray t)).alloc (.cells (lineC (0, [])).toArray t)) := by
  have h1 := blk_line w u t
  have h2 := blk_line (w.alloc (.cells (lineC u).toArray t)) v t
  have h3 := blk_line ((w.alloc (.cells (lineC u).toArray t)).alloc (.cells (lineC v).toArray t)) (0, []) t
  rw [World.size_alloc] at h2
  rw [World.size_alloc, World.size_alloc] at h3
  have k1 : Lat (w.alloc (.cells (lineC u).toArray t)) (((w.alloc (.cells (lineC u).toArray t)).alloc (.cells (lineC v).toArray t)).alloc (.cells (lineC (0, [])).toArray t)) := (Lat.alloc _ _).trans (Lat.alloc _ _)
  refine ⟨(Lat.alloc _ _).trans k1, (h1.keep k1).congr fun j _ => ?_, h2.keep (Lat.alloc _ _), h3⟩
  unfold lineF ovF
  simp
theorem blk_oth {w : World} {g n h : Nat} {F : Nat → Value} (hb : Blk w g n F) (hne : g ≠ h) (o : Nat) (v : Value) : Blk (w.setCell ⟨h, o, none⟩ v) g n F :=
  ⟨by simpa [World.setCell] using hb.lt, fun j hj => by rw [World.cell?_setCell_other _ _ _ _ (by intro e; injection e with e1 _ _; exact hne e1.symm)]; exact hb.cell j hj, fun j hj => by rw [World.frozen?_setCell]; exact hb.free j hj⟩
theorem Ov.keep {w W W' : World} {u v : Vec} {i : Nat} (h : Ov w u v i W) (hb : Lat W W') : Ov w u v i W' := ⟨h.1.trans hb, h.2.1.keep hb, h.2.2.1.keep hb, h.2.2.2.keep hb⟩
theorem Ov.next {w W : World} {u v : Vec} {i : Nat} (h : Ov w u v i W) (hi : i < 16) : Ov w u v (i + 1) (W.setCell ⟨w.heap.size, i, none⟩ (.bool (u.1.testBit i != v.1.testBit i))) := by
  refine ⟨h.1.setCell (p := ⟨w.heap.size, i, none⟩) (Nat.le_refl _) _, (h.2.1.set (by omega) _).congr fun j _ => ?_, blk_oth h.2.2.1 (by omega) _ _, blk_oth h.2.2.2 (by omega) _ _⟩
  unfold ovF
  by_cases e : j = i
  · subst e; rw [if_pos rfl, if_pos hi, if_pos (by omega)]
  · rw [if_neg e]
    by_cases g : j < i
    · rw [if_pos g, if_pos (show j < i + 1 by omega)]
    · rw [if_neg g, if_neg (show ¬ j < i + 1 by omega)]
theorem ov_end {w W : World} {u v : Vec} (h : Ov w u v 16 W) : Blk (W.setCell ⟨w.heap.size, 16, none⟩ (.string (S (xorL u.2 v.2)))) w.heap.size 17 (lineF (vx u v)) := by
  refine (h.2.1.set (by omega) _).congr fun j hj => ?_
  unfold ovF lineF
  by_cases e : j = 16
  · rw [if_pos e, if_neg (by omega)]; rfl
  · rw [if_neg e, if_pos (by omega), if_pos (by omega), if_pos (by omega), vx_bit]
theorem zero_cells : (lineC (0, [])).toArray = #[Value.bool false, Value.bool false, Value.bool false, Value.bool false, Value.bool false, Value.bool false, Value.bool false, Value.bool false, Value.bool false, Value.bool false, Value.bool false, Value.bool false, Value.bool false, Value.bool false, Value.bool false, Value.bool false, Value.string { data := #[] }] := by kernel_rfl

theorem line_u : ∃ d, Tryd.prog.underlying 78 = some d ∧ d.isRow = true := ⟨_, Tryd.underlying78, rfl⟩
theorem line_i (v : Vec) : (Tryd.prog.info? 78).map (·.size) = some (lineC v).length := by rw [lineC_len]; kernel_rfl
theorem line_load {w : World} {b o : Nat} {v : Vec} (h : w.rangeAt b o (lineC v)) : (loadVar 78 ⟨b, o, none⟩).run Tryd.prog w = .ok (lineV v) w := by
  obtain ⟨d, hu, hd⟩ := line_u
  exact run_loadVar_mid w b o _ _ d h hu hd (line_i v)
/-- a line is read from a place in the walk's list -/
theorem at_load {ops : Array Oper} {rest : List Oper} {op : Oper} {a : Act} {w : World} {Q : Exit → Act → World → Prop} (hgd : op.guard = none) (x : Operand) (ho : op.op = .load 78 x)
    (b o : Nat) (hx : a.eval x = .pointer (some ⟨b, o, none⟩)) (v : Vec) (hc : w.rangeAt b o (lineC v)) (h : wpList Tryd.prog ops Q rest (a.put op.dst (lineV v)) w) : wpList Tryd.prog ops Q (op :: rest) a w := by
  obtain ⟨d, hu, hd⟩ := line_u
  exact wpList_load_mid hgd _ x ho b o hx _ d hc hu hd (line_i v) h
theorem at_store {ops : Array Oper} {rest : List Oper} {op : Oper} {a : Act} {w : World} {Q : Exit → Act → World → Prop} (hgd : op.guard = none) (x y : Operand) (ho : op.op = .store 78 x y)
    (b o : Nat) (v : Vec) (hx : a.eval x = .pointer (some ⟨b, o, none⟩)) (hy : a.eval y = lineV v) (ht : w.there b o 17) (h : wpList Tryd.prog ops Q rest (a.put op.dst undef) (w.setCells b o (lineC v))) : wpList Tryd.prog ops Q (op :: rest) a w :=
  wpList_store_mid hgd _ x y ho b o (lineC v).toArray hx hy (by rw [List.size_toArray, lineC_len]; exact ht) (by rw [List.size_toArray]; exact line_i v) (all_oneCell_toArray (lineC_one v)) (by simpa using h)

theorem results_cell1 {P : Program} {fn : Func} {tmps : Array Value} {i : Nat} {t : TypeId} {ad : Addr} {v : Value} {w : World} (hr : fn.results = #[.cell i t]) (ha : tmps.getD i undef = .pointer (some ad)) (h : (loadVar t ad).run P w = .ok v w) :
    (results fn tmps).run P w = .ok v w := by
  rw [Array.getD_eq_getD_getElem?] at ha
  unfold results
  rw [hr]
  simp [ha, asAddr, h]
theorem results_tmp_cell {P : Program} {fn : Func} {tmps : Array Value} {i j : Nat} {t : TypeId} {ad : Addr} {u v : Value} {w : World} (hr : fn.results = #[.tmp j, .cell i t]) (hu : tmps.getD j undef = u) (ha : tmps.getD i undef = .pointer (some ad)) (h : (loadVar t ad).run P w = .ok v w) :
    (results fn tmps).run P w = .ok (.tuple #[u, v]) w := by
  rw [Array.getD_eq_getD_getElem?] at ha hu
  unfold results
  rw [hr]
  simp [hu, ha, asAddr, h]

set_option maxHeartbeats 2000000 in
set_option maxRecDepth 100000 in
theorem refOver (u v : Vec) (w : World) (h : u.2.length = v.2.length) (hl : u.2.length ≤ 1000000) :
    Calls Tryd.prog 59 #[lineV u, lineV v] w fun e w' => e = .returned (lineV (vx u v)) ∧ Lat w w' := by
  have hst := ov_start w u v 78
  rw [zero_cells] at hst
  have HST := Lib.hid hst; have HH := Lib.hid h; have HLN := Lib.hid hl
  clear hst h hl
  go_enter Tryd.func59, Tryd.ntmps59
  go_upto_region 1 with fail
  go_wp2_with fail
  go_loopg [5] 16 (fun f iv wr => ∃ i : Nat, i + f = 16 ∧ iv = .int .i64 i ∧ Hid (Ov w u v i wr))
  case atStart => exact ⟨0, rfl, rfl, HST.out⟩
  case round =>
    clear HST
    obtain ⟨i, hi, rfl, hrel⟩ := hrel
    by_cases hlt : i < 16
    · obtain ⟨f, rfl⟩ : ∃ f, gk = f + 1 := ⟨gk - 1, by omega⟩
      have di : decide ((i : Int) < 16) = true := decide_eq_true (by omega)
      have cA : wr.cell? ⟨w.heap.size, i, none⟩ = some (.bool (u.1.testBit i)) := by
        have := hrel.out.2.1.cell i (by omega)
        rw [this]; unfold ovF; rw [if_pos hlt, if_neg (by omega)]
      have fA := hrel.out.2.1.free i (by omega)
      have cB : wr.cell? ⟨w.heap.size + 1, i, none⟩ = some (.bool (v.1.testBit i)) := by
        have := hrel.out.2.2.1.cell i (by omega)
        rw [this]; unfold lineF; rw [if_pos hlt]
      have i0 : (0 : Int) ≤ (i : Int) := by omega
      have i1 : (i : Int) < 16 := by omega
      have HNX := Lib.hid ((hrel.out.keep (Lat.drew wr)).next hlt)
      go_wp2_with fail
      go_still_tail 12, (by kernel_rfl)
      clear hrel
      go_wp2_with fail
      go_roundg f
      case measure => omega
      case rel => exact ⟨i + 1, by omega, by go_num, HNX.out⟩
    · obtain rfl : i = 16 := by omega
      have hr := hrel.out
      have HR := Lib.hid hr
      have cA : wr.cell? ⟨w.heap.size, 16, none⟩ = some (.string (S u.2)) := hr.2.1.cell 16 (by decide)
      have cB : wr.cell? ⟨w.heap.size + 1, 16, none⟩ = some (.string (S v.2)) := hr.2.2.1.cell 16 (by decide)
      clear hrel hr
      go_wp2_with fail
      refine (refXor (S u.2) (S v.2) _ (by rw [S_size, S_size]; exact HH.out) (by rw [S_size]; exact HLN.out)).mono ?_
      rintro e w2 ⟨rfl, hb2⟩
      have hr2 := HR.out.keep hb2
      have cA2 := hr2.2.1.cell 16 (by decide)
      have fA2 := hr2.2.1.free 16 (by decide)
      have HE := Lib.hid (ov_end hr2)
      have HR2 := Lib.hid hr2
      clear hr2 HR hb2 cA cB
      go_upto_region 6 with fail
      refine wp_region_lit ?_
      refine at_load rfl (.tmp 2) rfl w.heap.size 0 rfl (vx u v) HE.out.range ?_
      refine at_store rfl (.tmp 4) (.tmp 28) rfl (w.heap.size + 1 + 1) 0 (vx u v) rfl rfl (blk_oth HR2.out.2.2.2 (by omega) _ _).there ?_
      have hW := HE.out.lt
      obtain ⟨W3, hW3⟩ : ∃ W3, W3 = (w2.setCell ⟨w.heap.size, 16, none⟩ (.string (S (xorL u.2 v.2)))).setCells (w.heap.size + 1 + 1) 0 (lineC (vx u v)) := ⟨_, rfl⟩
      have hth := (blk_oth HR2.out.2.2.2 (show w.heap.size + 1 + 1 ≠ w.heap.size by omega) 16 (.string (S (xorL u.2 v.2)))).there
      have hld := line_load (World.rangeAt_setCells_same _ (w.heap.size + 1 + 1) 0 (lineC (vx u v)) (by rw [lineC_len]; exact hth))
      have hlat : Lat w W3 := by
        rw [hW3]
        exact (Fr.setCells _ _ _ _).lat_of (HR2.out.1.setCell (p := ⟨w.heap.size, 16, none⟩) (Nat.le_refl _) _) (fun k e => by rw [e]; omega)
      rw [← hW3] at hld ⊢
      have HLAT := Lib.hid hlat
      clear hW hth hlat hW3
      go_wp2_with fail
      refine bodyPost_ret (v := lineV (vx u v)) ?_ rfl ⟨rfl, HLAT.out⟩
      exact results_cell1 Tryd.results59 rfl hld

def Ofs (w : World) (zs : List Int) (i : Nat) (W : World) : Prop := Lat w W ∧ Blk W (w.heap.size + 1) 17 (lineF (bitsTo zs i, [])) ∧ Blk W w.heap.size 17 (lineF (0, []))
theorem ofs_start (w : World) (zs : List Int) (t : TypeId) : Ofs w zs 0 ((w.alloc (.cells (lineC (0, [])).toArray t)).alloc (.cells (lineC (0, [])).toArray t)) := by
  have h1 := blk_line w (0, []) t
  have h2 := blk_line (w.alloc (.cells (lineC (0, [])).toArray t)) (0, []) t
  rw [World.size_alloc] at h2
  exact ⟨(Lat.alloc _ _).trans (Lat.alloc _ _), h2, h1.keep (Lat.alloc _ _)⟩
theorem Ofs.next {w W : World} {zs : List Int} {i z : Nat} (h : Ofs w zs i W) (hz : zs.getD i 0 = (z : Int)) (hz2 : z < 16) : Ofs w zs (i + 1) (W.setCell ⟨w.heap.size + 1, z, none⟩ (.bool true)) := by
  refine ⟨h.1.setCell (p := ⟨w.heap.size + 1, z, none⟩) (Nat.le_succ _) _, (h.2.1.set (by omega) _).congr fun j _ => ?_, blk_oth h.2.2 (by omega) _ _⟩
  show _ = lineF (bitsTo zs i ||| bitP (zs.getD i 0).toNat, []) j
  rw [hz, Int.toNat_natCast]
  unfold lineF bitP
  rw [Nat.testBit_or, Nat.testBit_two_pow]
  by_cases e : j = z
  · subst e; rw [if_pos rfl, if_pos hz2, decide_eq_true rfl, Bool.or_true]
  · rw [if_neg e, decide_eq_false (fun h => e h.symm), Bool.or_false]

set_option maxHeartbeats 2000000 in
set_option maxRecDepth 100000 in
theorem refOf (a : Option Addr) (n cap : Nat) (zs : List Int) (d : List UInt8) (w : World) (h : IntsAt w a n cap zs) (hz : ∀ z ∈ zs, 0 ≤ z ∧ z < 16) (hn : n ≤ 1000000) :
    Calls Tryd.prog 37 #[.slice a n cap, .string (S d)] w fun e w' => e = .returned (lineV (bitsN zs, d)) ∧ Lat w w' := by
  have hst := ofs_start w zs 78
  rw [zero_cells] at hst
  have hlen := h.len
  have HST := Lib.hid hst; have HH := Lib.hid h; have HZ := Lib.hid hz; have HLEN := Lib.hid hlen
  clear hst h hz hlen
  go_enter Tryd.func37, Tryd.ntmps37
  go_upto_region 2 with fail
  go_wp2_with fail
  go_loopg [6] n (fun f iv wr => ∃ i : Nat, i + f = n ∧ iv = .int .i64 i ∧ Hid (Ofs w zs i wr))
  case atStart => exact ⟨0, by omega, rfl, HST.out⟩
  case round =>
    clear HST
    obtain ⟨i, hi, rfl, hrel⟩ := hrel
    by_cases hlt : i < n
    · obtain ⟨f, rfl⟩ : ∃ f, gk = f + 1 := ⟨gk - 1, by omega⟩
      have di : decide (i < n) = true := decide_eq_true hlt
      have hzi := HZ.out _ (getD_mem zs i (by rw [HLEN.out]; exact hlt))
      obtain ⟨z, hzz⟩ : ∃ z : Nat, zs.getD i 0 = (z : Int) := ⟨(zs.getD i 0).toNat, by omega⟩
      obtain ⟨b, o, rfl, hc⟩ := (HH.out.keep hrel.out.1).row.at_ (by omega)
      have c0 := hc i hlt
      rw [hzz] at hzi c0
      have z1 : (0 : Int) ≤ (z : Int) := by omega
      have z2 : (z : Int) < 16 := by omega
      have hzn : z < 16 := by omega
      have cB := hrel.out.2.1.cell z (by omega)
      have fB := hrel.out.2.1.free z (by omega)
      have i0 : (0 : Int) ≤ (i : Int) := by omega
      have i1 : (i : Int) < (n : Int) := by omega
      have HNX := Lib.hid (hrel.out.next hzz hzn)
      clear hrel hc hzi hzz
      go_wp2_with fail
      go_roundg f
      case measure => omega
      case rel => exact ⟨i + 1, by omega, by go_num, HNX.out⟩
    · obtain rfl : i = n := by omega
      have hr := hrel.out
      have HR := Lib.hid hr
      have cB := hr.2.1.cell 16 (by decide)
      have fB := hr.2.1.free 16 (by decide)
      have dn : decide (i < i) = false := decide_eq_false (by omega)
      have he : Blk (wr.setCell ⟨w.heap.size + 1, 16, none⟩ (.string (S d))) (w.heap.size + 1) 17 (lineF (bitsN zs, d)) := by
        refine (hr.2.1.set (by omega) _).congr fun j hj => ?_
        unfold lineF bitsN
        rw [HLEN.out]
        by_cases e : j = 16
        · rw [if_pos e, if_neg (by omega)]
        · rw [if_neg e, if_pos (by omega), if_pos (by omega)]
      have HE := Lib.hid he
      clear hrel hr he
      go_upto_region 7 with fail
      refine wp_region_lit ?_
      refine at_load rfl (.tmp 5) rfl (w.heap.size + 1) 0 rfl (bitsN zs, d) HE.out.range ?_
      refine at_store rfl (.tmp 4) (.tmp 21) rfl w.heap.size 0 (bitsN zs, d) rfl rfl (blk_oth HR.out.2.2 (by omega) _ _).there ?_
      obtain ⟨W3, hW3⟩ : ∃ W3, W3 = (wr.setCell ⟨w.heap.size + 1, 16, none⟩ (.string (S d))).setCells w.heap.size 0 (lineC (bitsN zs, d)) := ⟨_, rfl⟩
      have hth := (blk_oth HR.out.2.2 (show w.heap.size ≠ w.heap.size + 1 by omega) 16 (.string (S d))).there
      have hld := line_load (World.rangeAt_setCells_same _ w.heap.size 0 (lineC (bitsN zs, d)) (by rw [lineC_len]; exact hth))
      have hlat : Lat w W3 := by
        rw [hW3]
        exact (Fr.setCells _ _ _ _).lat_of (HR.out.1.setCell (p := ⟨w.heap.size + 1, 16, none⟩) (Nat.le_succ _) _) (fun k e => by rw [e]; omega)
      rw [← hW3] at hld ⊢
      have HLAT := Lib.hid hlat
      clear hth hlat hW3
      go_wp2_with fail
      refine bodyPost_ret (v := lineV (bitsN zs, d)) ?_ rfl ⟨rfl, HLAT.out⟩
      exact results_cell1 Tryd.results37 rfl hld
end Go.Proofs.YtcpookgbneoilaaDoor
