/- The contract of dropref1.Clear: block by block one line is chosen, and taken out of all others. Printed by gen_clear.py. -/
import Derived.Test.YtcpookgbneoilaaDoorRefRank
namespace Go.Proofs.YtcpookgbneoilaaDoor
open Go.ChangeShapes Go.WideShapes Go.ChangeAt Go.RowKit

theorem usedB_top {m k b : Nat} {L A : List Vec} {at_ : Nat → Option Nat} (h : Cl m k L A at_ b) (hb : b ≤ 16) : usedB at_ b = usedB at_ 16 := by
  funext i
  cases e : usedB at_ b i with
  | false => exact (usedB_of (usedB_false e fun c j hc => (h.lt c j hc).1)).symm
  | true =>
    unfold usedB at *
    rw [List.any_eq_true] at e
    obtain ⟨c, hc, hd⟩ := e
    exact (List.any_eq_true.2 ⟨c, List.mem_range.2 (by have := List.mem_range.1 hc; omega), hd⟩).symm
theorem usedB_upd {at_ : Nat → Option Nat} {b p : Nat} (hb : b < 16) (hn : at_ b = none) (j : Nat) : usedB (updA at_ b p) 16 j = if j = p then true else usedB at_ 16 j := by
  by_cases e : j = p
  · subst e
    rw [if_pos rfl]
    unfold usedB
    rw [List.any_eq_true]
    exact ⟨b, List.mem_range.2 hb, by unfold updA; rw [if_pos rfl]; simp⟩
  · rw [if_neg e]
    unfold usedB
    refine congrArg (fun f => List.any (List.range 16) f) (funext fun c => ?_)
    unfold updA
    by_cases ec : c = b
    · subst ec
      rw [if_pos rfl, hn]
      have h1 : (some p == some j) = false := by simpa using fun h : p = j => e h.symm
      rw [h1]; rfl
    · rw [if_neg ec]
/-- the array of which line each block has -/
def arrC (at_ : Nat → Option Nat) : List Value := (List.range 16).map fun j => .int .i64 (atI (at_ j))
theorem arrC_len (at_ : Nat → Option Nat) : (arrC at_).length = 16 := by unfold arrC; rw [List.length_map, List.length_range]
theorem arrC_get (at_ : Nat → Option Nat) {j : Nat} (h : j < 16) : (arrC at_)[j]? = some (.int .i64 (atI (at_ j))) := by
  unfold arrC
  rw [List.getElem?_map, List.getElem?_range h]; rfl
theorem arrC_one (at_ : Nat → Option Nat) : ∀ u ∈ arrC at_, u.oneCell' = true := fun u hu => by
  unfold arrC at hu
  obtain ⟨j, _, rfl⟩ := List.mem_map.1 hu
  rfl
abbrev arrV (at_ : Nat → Option Nat) : Value := .agg (arrC at_).toArray
theorem arr_u : ∃ d, Tryd.prog.underlying 80 = some d ∧ d.isRow = true := ⟨_, Tryd.underlying80, rfl⟩
theorem arr_i (at_ : Nat → Option Nat) : (Tryd.prog.info? 80).map (·.size) = some (arrC at_).length := by rw [arrC_len]; kernel_rfl
theorem Blk.arr {w : World} {g : Nat} {at_ : Nat → Option Nat} (h : Blk w g 16 (fun j => .int .i64 (atI (at_ j)))) : w.rangeAt g 0 (arrC at_) := fun j u hu => by
  have hj : j < 16 := by rw [← arrC_len at_]; exact (List.getElem?_eq_some_iff.1 hu).1
  rw [arrC_get at_ hj] at hu
  injection hu with hu
  rw [Nat.zero_add, ← hu]; exact h.cell j hj
theorem arr_load {w : World} {b o : Nat} {at_ : Nat → Option Nat} (h : w.rangeAt b o (arrC at_)) : (loadVar 80 ⟨b, o, none⟩).run Tryd.prog w = .ok (arrV at_) w := by
  obtain ⟨d, hu, hd⟩ := arr_u
  exact run_loadVar_mid w b o _ _ d h hu hd (arr_i at_)
theorem arr_yields {ops : Array Oper} {S : World → Prop} {op : Oper} {a : Act} (hw : Region.wanted op (yielded ops a.tmps) = true) (x : Operand) (ho : op.op = .load 80 x)
    (b o : Nat) (hx : a.eval x = .pointer (some ⟨b, o, none⟩)) (at_ : Nat → Option Nat) (hS : ∀ w, S w → w.rangeAt b o (arrC at_)) : YieldsIf Tryd.prog ops S op (arrV at_) a := by
  obtain ⟨d, hu, hd⟩ := arr_u
  exact yieldsIf_load_mid hw _ x ho b o hx _ d hS hu hd (arr_i at_)
theorem arr_store {op : Oper} {a : Act} {w : World} {K : Act → World → Prop} {Q : Exit → Act → World → Prop} (x y : Operand) (ho : op.op = .store 80 x y)
    (b o : Nat) (at_ : Nat → Option Nat) (hx : a.eval x = .pointer (some ⟨b, o, none⟩)) (hy : a.eval y = arrV at_) (ht : w.there b o 16) (h : K (a.put op.dst undef) (w.setCells b o (arrC at_))) : op.wp Tryd.prog a w K Q :=
  wp_store_mid _ x y ho b o (arrC at_).toArray hx hy (by rw [List.size_toArray, arrC_len]; exact ht) (by rw [List.size_toArray]; exact arr_i at_) (all_oneCell_toArray (arrC_one at_)) (by simpa using h)
theorem at_storeA {ops : Array Oper} {rest : List Oper} {op : Oper} {a : Act} {w : World} {Q : Exit → Act → World → Prop} (hgd : op.guard = none) (x y : Operand) (ho : op.op = .store 80 x y)
    (b o : Nat) (at_ : Nat → Option Nat) (hx : a.eval x = .pointer (some ⟨b, o, none⟩)) (hy : a.eval y = arrV at_) (ht : w.there b o 16) (h : wpList Tryd.prog ops Q rest (a.put op.dst undef) (w.setCells b o (arrC at_))) : wpList Tryd.prog ops Q (op :: rest) a w :=
  wpList_store_mid hgd _ x y ho b o (arrC at_).toArray hx hy (by rw [List.size_toArray, arrC_len]; exact ht) (by rw [List.size_toArray]; exact arr_i at_) (all_oneCell_toArray (arrC_one at_)) (by simpa using h)

/-- What the clearing has in memory. -/
structure CS (w : World) (v : Value) (A : List Vec) (at_ : Nat → Option Nat) (W : World) : Prop where
  lat : Lat w W
  own : OwnL W (w.heap.size + 3) v A
  res : Blk W w.heap.size 16 (fun _ => .int .i64 0)
  arr : Blk W (w.heap.size + 1) 16 (fun j => .int .i64 (atI (at_ j)))
  used : Blk W (w.heap.size + 2) 60 (fun j => .bool (usedB at_ 16 j))
theorem CS.keep {w W W' : World} {v : Value} {A : List Vec} {at_ : Nat → Option Nat} (h : CS w v A at_ W) (hb : Lat W W') : CS w v A at_ W' :=
  ⟨h.lat.trans hb, h.own.keep hb, h.res.keep hb, h.arr.keep hb, h.used.keep hb⟩
theorem CS.line {w W : World} {g n cap : Nat} {A : List Vec} {at_ : Nat → Option Nat} (h : CS w (.slice (some ⟨g, 0, none⟩) n cap) A at_ W) {i : Nat} (hi : i < n) (x : Vec) : CS w (.slice (some ⟨g, 0, none⟩) n cap) (A.set i x) at_ (W.setCells g (i * 17) (lineC x)) := by
  have hg : w.heap.size + 3 ≤ g := (h.own.lt g rfl).1
  have hb : ∀ (b m : Nat) (F : Nat → Value), b < w.heap.size + 3 → Blk W b m F → Blk (W.setCells g (i * 17) (lineC x)) b m F := fun b m F hb hB =>
    ⟨Nat.lt_of_lt_of_le hB.lt (Fr.setCells g (lineC x) (i * 17) W).size, fun j hj => (Fr.setCells g (lineC x) (i * 17) W).cell_at (hB.cell j hj) (by show ¬ b = g; omega), fun j hj => by rw [World.frozen?_setCells]; exact hB.free j hj⟩
  exact ⟨h.own.lat_put h.lat (by omega) i x, h.own.put hi x, hb _ _ _ (by omega) h.res, hb _ _ _ (by omega) h.arr, hb _ _ _ (by omega) h.used⟩
theorem CS.found {w W : World} {v : Value} {A : List Vec} {at_ : Nat → Option Nat} (h : CS w v A at_ W) {b p : Nat} (hb : b < 16) (hp : p < 60) (hn : at_ b = none) :
    CS w v A (updA at_ b p) ((W.setCell ⟨w.heap.size + 1, b, none⟩ (.int .i64 p)).setCell ⟨w.heap.size + 2, p, none⟩ (.bool true)) := by
  have hf : Fr (fun k => k = w.heap.size + 1 ∨ k = w.heap.size + 2) W ((W.setCell ⟨w.heap.size + 1, b, none⟩ (.int .i64 p)).setCell ⟨w.heap.size + 2, p, none⟩ (.bool true)) :=
    (Fr.set (S := fun k => k = w.heap.size + 1 ∨ k = w.heap.size + 2) W ⟨w.heap.size + 1, b, none⟩ (.int .i64 p) (.inl rfl)).then_set ⟨w.heap.size + 2, p, none⟩ (.bool true) (.inl (.inr rfl))
  refine ⟨hf.lat_of h.lat (fun k e => by rcases e with e | e <;> omega), OwnR.fr h.own hf (fun k hk e => by have := (h.own.lt k hk).1; rcases e with e | e <;> omega), blk_oth (blk_oth h.res (by omega) _ _) (by omega) _ _, (blk_oth (h.arr.set hb _) (by omega) _ _).congr fun j _ => ?_, ((blk_oth h.used (by omega) _ _).set hp _).congr fun j _ => ?_⟩
  · unfold updA
    by_cases e : j = b
    · rw [if_pos e, if_pos e]; rfl
    · rw [if_neg e, if_neg e]
  · rw [usedB_upd hb hn]
    by_cases e : j = p
    · rw [if_pos e, if_pos e]
    · rw [if_neg e, if_neg e]
theorem zint : (List.replicate 16 (Value.int .i64 0)).toArray = #[Value.int .i64 0, Value.int .i64 0, Value.int .i64 0, Value.int .i64 0, Value.int .i64 0, Value.int .i64 0, Value.int .i64 0, Value.int .i64 0, Value.int .i64 0, Value.int .i64 0, Value.int .i64 0, Value.int .i64 0, Value.int .i64 0, Value.int .i64 0, Value.int .i64 0, Value.int .i64 0] := by kernel_rfl
theorem zbool : (List.replicate 60 (Value.bool false)).toArray = #[Value.bool false, Value.bool false, Value.bool false, Value.bool false, Value.bool false, Value.bool false, Value.bool false, Value.bool false, Value.bool false, Value.bool false, Value.bool false, Value.bool false, Value.bool false, Value.bool false, Value.bool false, Value.bool false, Value.bool false, Value.bool false, Value.bool false, Value.bool false, Value.bool false, Value.bool false, Value.bool false, Value.bool false, Value.bool false, Value.bool false, Value.bool false, Value.bool false, Value.bool false, Value.bool false, Value.bool false, Value.bool false, Value.bool false, Value.bool false, Value.bool false, Value.bool false, Value.bool false, Value.bool false, Value.bool false, Value.bool false, Value.bool false, Value.bool false, Value.bool false, Value.bool false, Value.bool false, Value.bool false, Value.bool false, Value.bool false, Value.bool false, Value.bool false, Value.bool false, Value.bool false, Value.bool false, Value.bool false, Value.bool false, Value.bool false, Value.bool false, Value.bool false, Value.bool false, Value.bool false] := by kernel_rfl
theorem clr_start (w : World) (t t2 t3 : TypeId) : Lat w (((w.alloc (.cells (List.replicate 16 (Value.int .i64 0)).toArray t)).alloc (.cells (List.replicate 16 (Value.int .i64 0)).toArray t2)).alloc (.cells (List.replicate 60 (Value.bool false)).toArray t3)) ∧
    Blk (((w.alloc (.cells (List.replicate 16 (Value.int .i64 0)).toArray t)).alloc (.cells (List.replicate 16 (Value.int .i64 0)).toArray t2)).alloc (.cells (List.replicate 60 (Value.bool false)).toArray t3)) w.heap.size 16 (fun _ => .int .i64 0) ∧
    Blk (((w.alloc (.cells (List.replicate 16 (Value.int .i64 0)).toArray t)).alloc (.cells (List.replicate 16 (Value.int .i64 0)).toArray t2)).alloc (.cells (List.replicate 60 (Value.bool false)).toArray t3)) (w.heap.size + 1) 16 (fun _ => .int .i64 0) ∧
    Blk (((w.alloc (.cells (List.replicate 16 (Value.int .i64 0)).toArray t)).alloc (.cells (List.replicate 16 (Value.int .i64 0)).toArray t2)).alloc (.cells (List.replicate 60 (Value.bool false)).toArray t3)) (w.heap.size + 2) 60 (fun _ => .bool false) ∧
    (((w.alloc (.cells (List.replicate 16 (Value.int .i64 0)).toArray t)).alloc (.cells (List.replicate 16 (Value.int .i64 0)).toArray t2)).alloc (.cells (List.replicate 60 (Value.bool false)).toArray t3)).heap.size = w.heap.size + 3 := by
  have hr : ∀ (m : Nat) (u : Value) (j : Nat), j < m → (List.replicate m u)[j]? = some u := fun m u j h => by rw [List.getElem?_replicate, if_pos h]
  have h1 := blk_new w (List.replicate 16 (Value.int .i64 0)) 16 (fun _ => .int .i64 0) t (fun j h => hr 16 _ j h)
  have h2 := blk_new (w.alloc (.cells (List.replicate 16 (Value.int .i64 0)).toArray t)) (List.replicate 16 (Value.int .i64 0)) 16 (fun _ => .int .i64 0) t2 (fun j h => hr 16 _ j h)
  have h3 := blk_new ((w.alloc (.cells (List.replicate 16 (Value.int .i64 0)).toArray t)).alloc (.cells (List.replicate 16 (Value.int .i64 0)).toArray t2)) (List.replicate 60 (Value.bool false)) 60 (fun _ => .bool false) t3 (fun j h => hr 60 _ j h)
  rw [World.size_alloc] at h2
  rw [World.size_alloc, World.size_alloc] at h3
  exact ⟨((Lat.alloc _ _).trans (Lat.alloc _ _)).trans (Lat.alloc _ _), (h1.keep (Lat.alloc _ _)).keep (Lat.alloc _ _), h2.keep (Lat.alloc _ _), h3, by rw [World.size_alloc, World.size_alloc, World.size_alloc]⟩

set_option maxHeartbeats 40000000 in
set_option maxRecDepth 100000 in
theorem refClear (a : Option Addr) (n cap k m : Nat) (L : List Vec) (w : World) (h : LinesAt w a n cap L) (hL : Ln m 16 L) (hn : n ≤ 60) (hk : k ≤ 16) (hm : m ≤ 1000) :
    Calls Tryd.prog 38 #[.slice a n cap, .int .i64 k] w fun e w' => ∃ aa cc, e = .returned (.tuple #[.slice aa n cc, arrV (clrF L k).2]) ∧ LinesAt w' aa n cc (clrF L k).1 ∧ Lat w w' := by
  have hlen := h.len
  have hst := clr_start w 80 80 105
  rw [zint, zbool] at hst
  have hcl : ∀ b, Cl m 16 L (clrF L b).1 (clrF L b).2 b := fun b => clrF_cl hL b
  have HH := Lib.hid h; have HLEN := Lib.hid hlen; have HST := Lib.hid hst; have HCL := Lib.hid hcl
  clear h hlen hst hcl hL
  go_enter Tryd.func38, Tryd.ntmps38
  go_upto_region 3 with fail
  obtain ⟨W0, hW0⟩ : ∃ W0, W0 = (((w.alloc (.cells #[Value.int .i64 0, Value.int .i64 0, Value.int .i64 0, Value.int .i64 0, Value.int .i64 0, Value.int .i64 0, Value.int .i64 0, Value.int .i64 0, Value.int .i64 0, Value.int .i64 0, Value.int .i64 0, Value.int .i64 0, Value.int .i64 0, Value.int .i64 0, Value.int .i64 0, Value.int .i64 0] 80)).alloc (.cells #[Value.int .i64 0, Value.int .i64 0, Value.int .i64 0, Value.int .i64 0, Value.int .i64 0, Value.int .i64 0, Value.int .i64 0, Value.int .i64 0, Value.int .i64 0, Value.int .i64 0, Value.int .i64 0, Value.int .i64 0, Value.int .i64 0, Value.int .i64 0, Value.int .i64 0, Value.int .i64 0] 80)).alloc (.cells #[Value.bool false, Value.bool false, Value.bool false, Value.bool false, Value.bool false, Value.bool false, Value.bool false, Value.bool false, Value.bool false, Value.bool false, Value.bool false, Value.bool false, Value.bool false, Value.bool false, Value.bool false, Value.bool false, Value.bool false, Value.bool false, Value.bool false, Value.bool false, Value.bool false, Value.bool false, Value.bool false, Value.bool false, Value.bool false, Value.bool false, Value.bool false, Value.bool false, Value.bool false, Value.bool false, Value.bool false, Value.bool false, Value.bool false, Value.bool false, Value.bool false, Value.bool false, Value.bool false, Value.bool false, Value.bool false, Value.bool false, Value.bool false, Value.bool false, Value.bool false, Value.bool false, Value.bool false, Value.bool false, Value.bool false, Value.bool false, Value.bool false, Value.bool false, Value.bool false, Value.bool false, Value.bool false, Value.bool false, Value.bool false, Value.bool false, Value.bool false, Value.bool false, Value.bool false, Value.bool false] 105)) := ⟨_, rfl⟩
  rw [← hW0]
  have hst := HST.out
  rw [← hW0] at hst
  obtain ⟨hl0, hr0, ha0, hu0, hsz0⟩ := hst
  have HL0 := Lib.hid hl0; have HR0 := Lib.hid hr0; have HA0 := Lib.hid ha0; have HU0 := Lib.hid hu0; have HSZ := Lib.hid hsz0
  clear hW0 HST hl0 hr0 ha0 hu0 hsz0
  go_wp2_with fail
  go_loopg [8] 16 (fun f iv wx => ∃ i : Nat, i + f = 16 ∧ iv = .int .i64 i ∧ Hid (Lat w wx ∧ Blk wx w.heap.size 16 (fun _ => .int .i64 0) ∧ Blk wx (w.heap.size + 1) 16 (fun j => .int .i64 (if j < i then -1 else 0)) ∧ Blk wx (w.heap.size + 2) 60 (fun _ => .bool false) ∧ wx.heap.size = w.heap.size + 3))
  case atStart => exact ⟨0, rfl, rfl, HL0.out, HR0.out, HA0.out.congr fun j _ => by rw [if_neg (by omega)], HU0.out, HSZ.out⟩
  case round =>
    clear HL0 HR0 HA0 HU0 HSZ
    obtain ⟨i, hi, rfl, hrel⟩ := hrel
    by_cases hlt : i < 16
    · obtain ⟨f, rfl⟩ : ∃ f, gk = f + 1 := ⟨gk - 1, by omega⟩
      have di : decide ((i : Int) < 16) = true := decide_eq_true (by omega)
      have cA := hrel.out.2.2.1.cell i hlt
      have fA := hrel.out.2.2.1.free i hlt
      have i0 : (0 : Int) ≤ (i : Int) := by omega
      have i1 : (i : Int) < 16 := by omega
      obtain ⟨h1, h2, h3, h4, h5⟩ := hrel.out
      have k3 : Blk (wr.setCell ⟨w.heap.size + 1, i, none⟩ (.int .i64 (-1))) (w.heap.size + 1) 16 (fun j => .int .i64 (if j < i + 1 then -1 else 0)) := (h3.set hlt _).congr fun j _ => by
        by_cases e : j = i
        · subst e; rw [if_pos rfl, if_pos (by omega)]
        · rw [if_neg e]
          by_cases g : j < i
          · rw [if_pos g, if_pos (by omega)]
          · rw [if_neg g, if_neg (by omega)]
      have HNX := Lib.hid (And.intro (h1.setCell (p := ⟨w.heap.size + 1, i, none⟩) (Nat.le_succ _) (.int .i64 (-1))) (And.intro (blk_oth h2 (show w.heap.size ≠ w.heap.size + 1 by omega) i (.int .i64 (-1))) (And.intro k3 (And.intro (blk_oth h4 (show w.heap.size + 2 ≠ w.heap.size + 1 by omega) i (.int .i64 (-1))) (show (wr.setCell ⟨w.heap.size + 1, i, none⟩ (.int .i64 (-1))).heap.size = w.heap.size + 3 by simp [World.setCell, h5])))))
      clear hrel h1 h2 h3 h4 h5 k3
      go_wp2_with fail
      go_roundg f
      case measure => omega
      case rel => exact ⟨i + 1, by omega, by go_num, HNX.out⟩
    · obtain rfl : i = 16 := by omega
      obtain ⟨h1, h2, h3, h4, h5⟩ := hrel.out
      have h3' : Blk wr (w.heap.size + 1) 16 (fun _ => .int .i64 (-1)) := h3.congr fun j hj => by rw [if_pos hj]
      have H1 := Lib.hid h1; have H2 := Lib.hid h2; have H3 := Lib.hid h3'; have H4 := Lib.hid h4; have H5 := Lib.hid h5
      clear hrel h1 h2 h3 h4 h5 h3'
      go_wp2_with (at_builtin; refine wpList_appRM wr wr.heap.size rfl (.tmp 19) (.tmp 20) 76 rfl 78 (lineV (0, [])) 17 32 Tryd.underlying76 line_info line_z (by decide) (by decide) (.slice none 0 0) [] rfl (OwnR.nil wr _ _ _) a n cap (L.map lineC) rfl (HH.out.keep H1.out) (ones_lines L) (by simp; omega) (Nat.le_refl _) ?_; intro v1 w1 hown hfr hloc)
      rw [List.nil_append, H5.out] at hown
      obtain ⟨aa, cc, rfl, hform, hnc, hcm⟩ := OwnL.form hown HLEN.out
      have hl1 : Lat wr w1 := hfr.lat_of (Lat.refl wr) (fun k e => by cases e)
      have hcs : CS w (.slice aa n cc) L (fun _ => none) w1 := ⟨H1.out.trans hl1, hown, H2.out.keep hl1, H3.out.keep hl1, (H4.out.keep hl1).congr fun j _ => by
        have : usedB (fun _ => none) 16 j = false := usedB_of fun c e => by cases e
        rw [this]⟩
      have HC0 := Lib.hid hcs; have HF := Lib.hid hform
      clear hown hfr hloc hl1 hcs hform H1 H2 H3 H4 H5
      go_wp2_with fail
      go_loopg [10] k (fun f bv wx => ∃ b : Nat, b + f = k ∧ bv = .int .i64 b ∧ Hid (CS w (.slice aa n cc) (clrF L b).1 (clrF L b).2 wx))
      case atStart => exact ⟨0, by omega, rfl, HC0.out⟩
      case round =>
        clear HC0
        obtain ⟨b, hb, rfl, hrel⟩ := hrel
        by_cases hlt : b < k
        · obtain ⟨f, rfl⟩ : ∃ f, gk = f + 1 := ⟨gk - 1, by omega⟩
          have db : decide (b < k) = true := decide_eq_true hlt
          have hT := HCL.out b
          have hAl : (clrF L b).1.length = n := hT.len.trans HLEN.out
          have hwf := hT.ln
          have hbn : (clrF L b).2 b = none := by
            cases e : (clrF L b).2 b with
            | none => rfl
            | some i => exact absurd (hT.lt b i e).1 (by omega)
          have hus := usedB_top hT (by omega)
          have hsk := fun h => (clrF_none (L := L) (b := b) h).trans (Prod.ext rfl rfl : clrF L b = ((clrF L b).1, (clrF L b).2))
          have htk := fun p h => clrF_some (L := L) (b := b) (p := p) h
          rw [hus] at hsk htk
          obtain ⟨A, hA⟩ : ∃ A, A = (clrF L b).1 := ⟨_, rfl⟩
          obtain ⟨at_, hat⟩ : ∃ c, c = (clrF L b).2 := ⟨_, rfl⟩
          rw [← hA, ← hat] at hrel hsk htk
          rw [← hA] at hAl hwf
          rw [← hat] at hbn
          rw [hAl] at hsk htk
          obtain ⟨pk, hpk⟩ : ∃ pk, pk = pick A (usedB at_ 16) b n 0 := ⟨_, rfl⟩
          rw [← hpk] at hsk htk
          obtain ⟨at2, hat2⟩ : ∃ at2, at2 = (match pk with | none => at_ | some p => updA at_ b p) := ⟨_, rfl⟩
          have HAL := Lib.hid hAl; have HWF := Lib.hid hwf; have HSK := Lib.hid hsk; have HTK := Lib.hid htk; have HPK := Lib.hid hpk; have HREL := Lib.hid hrel.out; have HBN := Lib.hid hbn; have HAT := Lib.hid hat2
          have hb16 : b < 16 := by omega
          have b0 : (0 : Int) ≤ (b : Int) := by omega
          have b1 : (b : Int) < 16 := by omega
          clear hT hAl hwf hus hsk htk hpk hrel hA hat hat2 hbn
          go_upto_block 4 with fail
          go_cut [11] from 27 to 60 (fun _ wx => Hid (CS w (.slice aa n cc) A at2 wx))
          case first =>
            go_wp2_with fail
            go_loopg [11] n (fun f iv wx => ∃ i : Nat, i + f = n ∧ iv = .int .i64 i ∧ ((Hid (pick A (usedB at_ 16) b (n - i) i = pk) ∧ Hid (CS w (.slice aa n cc) A at_ wx)) ∨ ∃ p : Nat, Hid (pk = some p) ∧ Hid (CS w (.slice aa n cc) A (updA at_ b p) wx)))
            case atStart => exact ⟨0, by omega, rfl, .inl ⟨HPK.out.symm, HREL.out⟩⟩
            case round =>
              clear HREL
              obtain ⟨i, hi, rfl, hav⟩ := hrel
              rcases hav with ⟨hpi, hcs⟩ | ⟨p, hpp, hcs⟩
              · have cat : wr.cell? ⟨w.heap.size + 1, b, none⟩ = some (.int .i64 (-1)) := by
                  rw [hcs.out.arr.cell b hb16, HBN.out]; rfl
                by_cases hin : i < n
                · obtain ⟨f, rfl⟩ : ∃ f, gk = f + 1 := ⟨gk - 1, by omega⟩
                  have di : decide (i < n) = true := decide_eq_true hin
                  have di2 : decide ((i : Int) < 60) = true := decide_eq_true (by omega)
                  obtain ⟨g, rfl, hg1, hg2⟩ := HF.out (by omega)
                  have cb := hcs.out.own.bit hin hb16
                  have cu := hcs.out.used.cell i (by omega)
                  have fu : wr.frozen? ⟨w.heap.size + 2, i, none⟩ = false := hcs.out.used.free i (by omega)
                  have fat : wr.frozen? ⟨w.heap.size + 1, b, none⟩ = false := hcs.out.arr.free b hb16
                  have cu2 : (wr.setCell ⟨w.heap.size + 1, b, none⟩ (.int .i64 i)).cell? ⟨w.heap.size + 2, i, none⟩ = some (.bool (usedB at_ 16 i)) := by
                    rw [World.cell?_setCell_other _ _ _ _ (by intro e; injection e with e1 _ _; omega)]; exact cu
                  have fu2 : (wr.setCell ⟨w.heap.size + 1, b, none⟩ (.int .i64 i)).frozen? ⟨w.heap.size + 2, i, none⟩ = false := by rw [World.frozen?_setCell]; exact fu
                  have i0 : (0 : Int) ≤ (i : Int) := by omega
                  have i1 : (i : Int) < (n : Int) := by omega
                  have i2 : (i : Int) < 60 := by omega
                  have hp2 := hpi.out
                  rw [show n - i = (n - (i + 1)) + 1 by omega, pick_succ] at hp2
                  obtain ⟨T, hT⟩ : ∃ T, T = (rowG A i).1.testBit b := ⟨_, rfl⟩
                  obtain ⟨U, hU⟩ : ∃ U, U = usedB at_ 16 i := ⟨_, rfl⟩
                  rw [← hT] at cb hp2
                  rw [← hU] at cu cu2 hp2
                  have HFO := Lib.hid (hcs.out.found hb16 (show i < 60 by omega) HBN.out); have HCS := Lib.hid hcs.out
                  clear hpi hT hU hcs
                  cases T with
                  | true =>
                    cases U with
                    | false =>
                      rw [if_pos ⟨rfl, rfl⟩] at hp2
                      have HP2 := Lib.hid hp2.symm
                      clear hp2
                      go_wp2_with fail
                      go_roundg f
                      case measure => omega
                      case rel => exact ⟨i + 1, by omega, by go_num, .inr ⟨i, HP2.out, HFO.out⟩⟩
                    | true =>
                      rw [if_neg (fun e => Bool.noConfusion e.2)] at hp2
                      have HP2 := Lib.hid hp2
                      clear hp2
                      go_wp2_with fail
                      go_roundg f
                      case measure => omega
                      case rel => exact ⟨i + 1, by omega, by go_num, .inl ⟨HP2.out, HCS.out⟩⟩
                  | false =>
                    rw [if_neg (fun e => Bool.noConfusion e.1)] at hp2
                    have HP2 := Lib.hid hp2
                    clear hp2
                    go_wp2_with fail
                    go_roundg f
                    case measure => omega
                    case rel => exact ⟨i + 1, by omega, by go_num, .inl ⟨HP2.out, HCS.out⟩⟩
                · obtain rfl : i = n := by omega
                  have di : decide (i < i) = false := decide_eq_false (by omega)
                  have hp2 := hpi.out
                  rw [Nat.sub_self] at hp2
                  have HP2 := Lib.hid (show none = pk from hp2); have HCS := Lib.hid hcs.out
                  clear hpi hp2 hcs
                  go_wp2_with fail
                  go_meet
                  rw [HAT.out, ← HP2.out]
                  exact HCS.out
              · have cat : wr.cell? ⟨w.heap.size + 1, b, none⟩ = some (.int .i64 p) := by
                  have := hcs.out.arr.cell b hb16
                  rw [this]; unfold updA; rw [if_pos rfl]; rfl
                have dp : decide ((p : Int) < 0) = false := decide_eq_false (by omega)
                have hfin : CS w (.slice aa n cc) A at2 wr := by
                  rw [HAT.out, hpp.out]; exact hcs.out
                have HFI := Lib.hid hfin
                clear hpp hcs hfin
                by_cases hin : i < n
                · have di : decide (i < n) = true := decide_eq_true hin
                  have di2 : decide ((i : Int) < 60) = true := decide_eq_true (by omega)
                  go_wp2_with fail
                  go_meet
                  exact HFI.out
                · have di : decide (i < n) = false := decide_eq_false hin
                  go_wp2_with fail
                  go_meet
                  exact HFI.out
          case rest =>
            clear HREL
            cases pk with
            | none =>
              have hnx := HSK.out rfl
              have hc2 : CS w (.slice aa n cc) A at_ wc := by
                have := hcut.out
                rw [HAT.out] at this; exact this
              have HNX := Lib.hid hnx; have HC2 := Lib.hid hc2
              have cat : wc.cell? ⟨w.heap.size + 1, b, none⟩ = some (.int .i64 (-1)) := by
                rw [hc2.arr.cell b hb16, HBN.out]; rfl
              clear HSK HTK HPK hcut hnx hc2 HAT
              go_wp2_with fail
              refine wp_loop_rounds 1 ?_
              rw [rounds_succ]
              by_cases hn0 : 0 < n
              · have dn : decide (0 < n) = true := decide_eq_true hn0
                go_wp2_with fail
                go_roundg f
                case measure => omega
                case rel => exact ⟨b + 1, by omega, by go_num, by rw [HNX.out]; exact HC2.out⟩
              · have dn : decide (0 < n) = false := decide_eq_false hn0
                go_wp2_with fail
                go_roundg f
                case measure => omega
                case rel => exact ⟨b + 1, by omega, by go_num, by rw [HNX.out]; exact HC2.out⟩
            | some p =>
              obtain ⟨_, hpn, _, _⟩ := pick_some HPK.out.symm
              rw [Nat.zero_add] at hpn
              have hnx := HTK.out p rfl
              have hc2 : CS w (.slice aa n cc) A (updA at_ b p) wc := by
                have := hcut.out
                rw [HAT.out] at this; exact this
              obtain ⟨g, rfl, hg1, hg2⟩ := HF.out (by omega)
              have HNX := Lib.hid hnx; have HC2 := Lib.hid hc2; have HPN := Lib.hid hpn
              have dp : decide ((0 : Int) ≤ (p : Int)) = true := decide_eq_true (by omega)
              have p0 : (0 : Int) ≤ (p : Int) := by omega
              have p1 : (p : Int) < (n : Int) := by omega
              obtain ⟨at3, hat3⟩ : ∃ c, c = updA at_ b p := ⟨_, rfl⟩
              have hatb : at3 b = some p := by rw [hat3]; unfold updA; rw [if_pos rfl]
              rw [← hat3] at HNX HC2
              have HATB := Lib.hid hatb
              clear HSK HTK HPK hcut hnx hc2 HAT hg1 hg2 hpn hat3 hatb HBN
              go_wp2_with fail
              go_loopg [12] n (fun f iv wx => ∃ i : Nat, i + f = n ∧ iv = .int .i64 i ∧ Hid (CS w (.slice (some ⟨g, 0, none⟩) n cc) (clrTo A p b 0 i) at3 wx))
              case atStart => exact ⟨0, by omega, rfl, by rw [clrTo_zero _ _ (Nat.le_refl _)]; exact HC2.out⟩
              case round =>
                clear HC2
                obtain ⟨i, hi, rfl, hrel⟩ := hrel
                have cat : wr.cell? ⟨w.heap.size + 1, b, none⟩ = some (.int .i64 p) := by
                  rw [hrel.out.arr.cell b hb16, HATB.out]; rfl
                by_cases hin : i < n
                · obtain ⟨f, rfl⟩ : ∃ f, gk = f + 1 := ⟨gk - 1, by omega⟩
                  have di : decide (i < n) = true := decide_eq_true hin
                  have hil : i < A.length := by rw [HAL.out]; exact hin
                  have hpl : p < A.length := by rw [HAL.out]; exact HPN.out
                  have hrow : rowG (clrTo A p b 0 i) i = rowG A i := by rw [clrTo_row _ _ _ _ hil, if_neg (by omega)]
                  have hrop : rowG (clrTo A p b 0 i) p = rowG A p := by rw [clrTo_row _ _ _ _ hpl, if_neg (by omega)]
                  have cb := hrel.out.own.bit hin hb16
                  have hr := hrel.out.own.row hin
                  have hrp := hrel.out.own.row HPN.out
                  rw [hrow] at cb hr
                  rw [hrop] at hrp
                  have i0 : (0 : Int) ≤ (i : Int) := by omega
                  have i1 : (i : Int) < (n : Int) := by omega
                  have hcs := clrTo_succ (A := A) (p := p) (b := b) (s := 0) (j := i) (Nat.zero_le _) hil
                  obtain ⟨T, hT⟩ : ∃ T, T = (rowG A i).1.testBit b := ⟨_, rfl⟩
                  rw [← hT] at cb hcs
                  by_cases hip : i = p
                  · have dip : ((i : Int) != (p : Int)) = false := by rw [hip]; simp
                    rw [if_neg (fun e => e.1 hip)] at hcs
                    have HCS := Lib.hid hcs; have HR := Lib.hid hrel.out
                    clear hrel hr hrp hT hrow hrop hcs hip
                    go_wp2_with fail
                    go_roundg f
                    case measure => omega
                    case rel => exact ⟨i + 1, by omega, by go_num, by rw [HCS.out]; exact HR.out⟩
                  · have dip : ((i : Int) != (p : Int)) = true := by rw [bne_iff_ne]; omega
                    cases T with
                    | true =>
                      rw [if_pos ⟨hip, rfl⟩] at hcs
                      have hov := fun W => refOver (rowG A i) (rowG A p) W (by rw [(HWF.out.row hil).1, (HWF.out.row hpl).1]) (by rw [(HWF.out.row hil).1]; omega)
                      have HOV := Lib.hid hov; have HCS := Lib.hid hcs; have HCC := Lib.hid hrel.out
                      have hG : wr.drew.rangeAt g (i * 17) (lineC (rowG A i)) ∧ wr.drew.rangeAt g (p * 17) (lineC (rowG A p)) ∧ wr.drew.cell? ⟨w.heap.size + 1, b, none⟩ = some (.int .i64 p) := ⟨range_keep hr (Lat.drew _), range_keep hrp (Lat.drew _), (Lat.drew _).cell_at cat⟩
                      clear hrel hr hrp hT hrow hrop hov hcs hip
                      go_wp2_with fail
                      refine wp_region_gate (fun _ => True) (fun w' => w'.rangeAt g (i * 17) (lineC (rowG A i)) ∧ w'.rangeAt g (p * 17) (lineC (rowG A p)) ∧ w'.cell? ⟨w.heap.size + 1, b, none⟩ = some (.int .i64 p)) 14 (by kernel_rfl) ?_
                      refine gate_takeG (i := 0) (v := ?_) rfl (by kernel_rfl) (by kernel_rfl) (by kernel_rfl) (fun _ _ _ h => h) (by decide) (by kernel_rfl) (by kernel_rfl) ⟨trivial, fun _ => hG⟩ (Or.inl ⟨by kernel_rfl, ?_⟩) ?_
                      rotate_left
                      · intro wq hSw; obtain ⟨-, s0, s1, s2⟩ := hSw; go_simp; rfl
                      simp only [Act.put]
                      refine gate_takeG (i := 1) (v := ?_) rfl (by kernel_rfl) (by kernel_rfl) (by kernel_rfl) (fun _ _ _ h => h) (by decide) (by kernel_rfl) (by kernel_rfl) ⟨trivial, fun _ => hG⟩ (Or.inl ⟨by kernel_rfl, ?_⟩) ?_
                      rotate_left
                      · intro wq hSw; obtain ⟨-, s0, s1, s2⟩ := hSw; go_simp; rfl
                      simp only [Act.put]
                      refine gate_takeG (i := 2) (v := ?_) rfl (by kernel_rfl) (by kernel_rfl) (by kernel_rfl) (fun _ _ _ h => h) (by decide) (by kernel_rfl) (by kernel_rfl) ⟨trivial, fun _ => hG⟩ (Or.inl ⟨by kernel_rfl, ?_⟩) ?_
                      rotate_left
                      · intro wq hSw; obtain ⟨-, s0, s1, s2⟩ := hSw; go_simp; rfl
                      simp only [Act.put]
                      refine gate_takeG (i := 3) (v := ?_) rfl (by kernel_rfl) (by kernel_rfl) (by kernel_rfl) (fun _ _ _ h => h) (by decide) (by kernel_rfl) (by kernel_rfl) ⟨trivial, fun _ => hG⟩ (Or.inl ⟨by kernel_rfl, ?_⟩) ?_
                      rotate_left
                      · intro wq hSw; obtain ⟨-, s0, s1, s2⟩ := hSw; go_simp; rfl
                      simp only [Act.put]
                      refine gate_takeG (i := 4) (v := ?_) rfl (by kernel_rfl) (by kernel_rfl) (by kernel_rfl) (fun _ _ _ h => h) (by decide) (by kernel_rfl) (by kernel_rfl) ⟨trivial, fun _ => hG⟩ (Or.inl ⟨by kernel_rfl, ?_⟩) ?_
                      rotate_left
                      · intro wq hSw; obtain ⟨-, s0, s1, s2⟩ := hSw; go_simp; rfl
                      simp only [Act.put]
                      refine gate_takeG (i := 5) (v := lineV (rowG A i)) rfl (by kernel_rfl) (by kernel_rfl) (by kernel_rfl) (fun _ _ _ h => h) (by decide) (by kernel_rfl) (by kernel_rfl) ⟨trivial, fun _ => hG⟩ (line_yields (by kernel_rfl) (.tmp 91) rfl g (i * 17) (by go_simp) (rowG A i) (fun _ h => h.2.1)) ?_
                      simp only [Act.put]
                      refine gate_takeG (i := 6) (v := ?_) rfl (by kernel_rfl) (by kernel_rfl) (by kernel_rfl) (fun _ _ _ h => h) (by decide) (by kernel_rfl) (by kernel_rfl) ⟨trivial, fun _ => hG⟩ (Or.inl ⟨by kernel_rfl, ?_⟩) ?_
                      rotate_left
                      · intro wq hSw; obtain ⟨-, s0, s1, s2⟩ := hSw; go_simp; rfl
                      simp only [Act.put]
                      refine gate_takeG (i := 7) (v := ?_) rfl (by kernel_rfl) (by kernel_rfl) (by kernel_rfl) (fun _ _ _ h => h) (by decide) (by kernel_rfl) (by kernel_rfl) ⟨trivial, fun _ => hG⟩ (Or.inl ⟨by kernel_rfl, ?_⟩) ?_
                      rotate_left
                      · intro wq hSw; obtain ⟨-, s0, s1, s2⟩ := hSw; go_simp; rfl
                      simp only [Act.put]
                      refine gate_takeG (i := 8) (v := ?_) rfl (by kernel_rfl) (by kernel_rfl) (by kernel_rfl) (fun _ _ _ h => h) (by decide) (by kernel_rfl) (by kernel_rfl) ⟨trivial, fun _ => hG⟩ (Or.inl ⟨by kernel_rfl, ?_⟩) ?_
                      rotate_left
                      · intro wq hSw; obtain ⟨-, s0, s1, s2⟩ := hSw; go_simp; rfl
                      simp only [Act.put]
                      refine gate_takeG (i := 9) (v := ?_) rfl (by kernel_rfl) (by kernel_rfl) (by kernel_rfl) (fun _ _ _ h => h) (by decide) (by kernel_rfl) (by kernel_rfl) ⟨trivial, fun _ => hG⟩ (Or.inl ⟨by kernel_rfl, ?_⟩) ?_
                      rotate_left
                      · intro wq hSw; obtain ⟨-, s0, s1, s2⟩ := hSw; go_simp; rfl
                      simp only [Act.put]
                      refine gate_takeG (i := 10) (v := ?_) rfl (by kernel_rfl) (by kernel_rfl) (by kernel_rfl) (fun _ _ _ h => h) (by decide) (by kernel_rfl) (by kernel_rfl) ⟨trivial, fun _ => hG⟩ (Or.inl ⟨by kernel_rfl, ?_⟩) ?_
                      rotate_left
                      · intro wq hSw; obtain ⟨-, s0, s1, s2⟩ := hSw; go_simp; rfl
                      simp only [Act.put]
                      refine gate_takeG (i := 11) (v := lineV (rowG A p)) rfl (by kernel_rfl) (by kernel_rfl) (by kernel_rfl) (fun _ _ _ h => h) (by decide) (by kernel_rfl) (by kernel_rfl) ⟨trivial, fun _ => hG⟩ (line_yields (by kernel_rfl) (.tmp 97) rfl g (p * 17) (by go_simp) (rowG A p) (fun _ h => h.2.2.1)) ?_
                      simp only [Act.put]
                      refine gate_one (i := 12) (by kernel_rfl) rfl (fun K hK => ?_)
                      go_simp
                      refine (HOV.out _).mono ?_
                      rintro e w5 ⟨rfl, hb5⟩
                      have hG' : w5.rangeAt g (i * 17) (lineC (rowG A i)) ∧ w5.rangeAt g (p * 17) (lineC (rowG A p)) ∧ w5.cell? ⟨w.heap.size + 1, b, none⟩ = some (.int .i64 p) := ⟨range_keep hG.1 hb5, range_keep hG.2.1 hb5, hb5.cell_at hG.2.2⟩
                      refine hK _ _ ⟨trivial, fun _ => hG'⟩ ?_
                      clear hK K
                      have HC5 := Lib.hid (HCC.out.keep ((Lat.drew _).trans hb5))
                      clear hG hb5
                      have hG := hG'
                      clear hG'
                      refine gate_takeG (i := 13) (v := ?_) rfl (by kernel_rfl) (by kernel_rfl) (by kernel_rfl) (fun _ _ _ h => h) (by decide) (by kernel_rfl) (by kernel_rfl) ⟨trivial, fun _ => hG⟩ (Or.inl ⟨by kernel_rfl, ?_⟩) ?_
                      rotate_left
                      · intro wq hSw; obtain ⟨-, s0, s1, s2⟩ := hSw; go_simp; rfl
                      simp only [Act.put]
                      refine gate_one (i := 14) (by kernel_rfl) rfl (fun K hK => ?_)
                      rw [if_pos (by kernel_rfl)]
                      refine line_store (.tmp 100) (.tmp 99) rfl g (i * 17) (vx (rowG A i) (rowG A p)) (by go_simp) (by go_simp) (HC5.out.own.there hin) ?_
                      refine hK _ _ (FG.past (by kernel_rfl) trivial) ?_
                      clear hK K hG
                      refine gate_done (by kernel_rfl) ?_ _
                      have hfin : CS w (.slice (some ⟨g, 0, none⟩) n cc) (clrTo A p b 0 (i + 1)) at3 (w5.setCells g (i * 17) (lineC (vx (rowG A i) (rowG A p)))) := by
                        rw [HCS.out]; exact HC5.out.line hin _
                      obtain ⟨w6, hw6⟩ : ∃ w6, w6 = w5.setCells g (i * 17) (lineC (vx (rowG A i) (rowG A p))) := ⟨_, rfl⟩
                      rw [← hw6] at hfin ⊢
                      have HFI := Lib.hid hfin
                      clear hfin hw6 HC5 HCC HOV cat
                      simp only [List.getElem_toArray, List.getElem_cons_succ, List.getElem_cons_zero]
                      go_simp
                      go_wp2_with fail
                      go_roundg f
                      case measure => omega
                      case rel => exact ⟨i + 1, by omega, by go_num, HFI.out⟩
                    | false =>
                      rw [if_neg (fun e => Bool.noConfusion e.2)] at hcs
                      have HCS := Lib.hid hcs; have HR := Lib.hid hrel.out
                      clear hrel hr hrp hT hrow hrop hcs hip
                      go_wp2_with fail
                      go_roundg f
                      case measure => omega
                      case rel => exact ⟨i + 1, by omega, by go_num, by rw [HCS.out]; exact HR.out⟩
                · obtain rfl : i = n := by omega
                  have di : decide (i < i) = false := decide_eq_false (by omega)
                  have hfin : CS w (.slice (some ⟨g, 0, none⟩) i cc) (clrF L (b + 1)).1 (clrF L (b + 1)).2 wr := by
                    rw [HNX.out]; exact hrel.out
                  have HFI := Lib.hid hfin
                  clear hrel hfin
                  go_wp2_with fail
                  go_roundg f
                  case measure => omega
                  case rel => exact ⟨b + 1, by omega, by go_num, HFI.out⟩
        · obtain rfl : b = k := by omega
          have db : decide (b < b) = false := decide_eq_false (by omega)
          have HR := Lib.hid hrel.out
          have hG : wr.drew.rangeAt (w.heap.size + 1) 0 (arrC (clrF L b).2) := range_keep hrel.out.arr.arr (Lat.drew _)
          clear hrel
          go_wp2_with fail
          refine wp_region_gate (fun _ => True) (fun w' => w'.rangeAt (w.heap.size + 1) 0 (arrC (clrF L b).2)) 3 (by kernel_rfl) ?_
          refine gate_takeG (i := 0) (v := ?_) rfl (by kernel_rfl) (by kernel_rfl) (by kernel_rfl) (fun _ _ _ h => h) (by decide) (by kernel_rfl) (by kernel_rfl) ⟨trivial, fun _ => hG⟩ (Or.inl ⟨by kernel_rfl, ?_⟩) ?_
          rotate_left
          · intro wq hSw; obtain ⟨-, s0⟩ := hSw; go_simp; rfl
          simp only [Act.put]
          refine gate_takeG (i := 1) (v := arrV (clrF L b).2) rfl (by kernel_rfl) (by kernel_rfl) (by kernel_rfl) (fun _ _ _ h => h) (by decide) (by kernel_rfl) (by kernel_rfl) ⟨trivial, fun _ => hG⟩ (arr_yields (by kernel_rfl) (.tmp 6) rfl (w.heap.size + 1) 0 (by go_simp) (clrF L b).2 (fun _ h => h.2)) ?_
          simp only [Act.put]
          refine gate_takeF (i := 2) (v := ?_) rfl (by kernel_rfl) (by kernel_rfl) (by kernel_rfl) (fun _ _ _ h => h) (by decide) ⟨trivial, fun _ => hG⟩ (Or.inl ⟨by kernel_rfl, ?_⟩) ?_
          rotate_left
          · intro wq hSw; go_simp; rfl
          simp only [Act.put]
          refine gate_one (i := 3) (by kernel_rfl) rfl (fun K hK => ?_)
          rw [if_pos (by kernel_rfl)]
          refine arr_store (.tmp 5) (.tmp 102) rfl w.heap.size 0 (clrF L b).2 (by go_simp) (by go_simp) (HR.out.res.keep (Lat.drew _)).there ?_
          refine hK _ _ (FG.past (by kernel_rfl) trivial) ?_
          clear hK K hG
          refine gate_done (by kernel_rfl) ?_ _
          have hld := arr_load (World.rangeAt_setCells_same wr.drew w.heap.size 0 (arrC (clrF L b).2) (by rw [arrC_len]; exact (HR.out.res.keep (Lat.drew _)).there))
          have hfr := Fr.setCells w.heap.size (arrC (clrF L b).2) 0 wr.drew
          have hlat := hfr.lat_of (HR.out.lat.trans (Lat.drew _)) (fun k e => by rw [e]; exact Nat.le_refl _)
          have hown : OwnL (wr.drew.setCells w.heap.size 0 (arrC (clrF L b).2)) (w.heap.size + 3) (.slice aa n cc) (clrF L b).1 := OwnR.fr (HR.out.own.keep (Lat.drew _)) hfr (fun k hk e => by have := (HR.out.own.lt k hk).1; omega)
          obtain ⟨W6, hW6⟩ : ∃ W6, W6 = wr.drew.setCells w.heap.size 0 (arrC (clrF L b).2) := ⟨_, rfl⟩
          rw [← hW6] at hld hlat hown ⊢
          have HLAT := Lib.hid hlat; have HOWN := Lib.hid hown.shown
          clear hfr hlat hown hW6 HR
          simp only [List.getElem_toArray, List.getElem_cons_succ, List.getElem_cons_zero]
          go_simp
          go_wp2_with fail
          refine bodyPost_ret (v := .tuple #[.slice aa n cc, arrV (clrF L b).2]) ?_ rfl ⟨aa, cc, rfl, HOWN.out, HLAT.out⟩
          exact results_tmp_cell Tryd.results38 rfl rfl hld
end Go.Proofs.YtcpookgbneoilaaDoor
