/- Slices of lines of the call's own: a line read, a line written in its place. -/
import Derived.Test.YtcpookgbneoilaaDoorRefLine
import Derived.Test.YtcpookgbneoilaaDoorAppRM
namespace Go.Proofs.YtcpookgbneoilaaDoor
open Go.ChangeShapes Go.WideShapes Go.ChangeAt Go.RowKit

theorem OwnR.row {w : World} {B : Nat} {e : TypeId} {size g n cap : Nat} {xs : List (List Value)} (h : OwnR w B e size (.slice (some ⟨g, 0, none⟩) n cap) xs) {j : Nat} {r : List Value} (hr : xs[j]? = some r) : w.rangeAt g (j * size) r := fun i u hu => by
  have := World.ownsRow.cells h.2 (g := g) rfl (j * size + i) u (flat_get h.1 hr hu)
  rw [Addr.add_lit, Nat.zero_add] at this
  exact this
theorem OwnR.len {w : World} {B : Nat} {e : TypeId} {size n cap : Nat} {a : Option Addr} {xs : List (List Value)} (h : OwnR w B e size (.slice a n cap) xs) : xs.length = n := by
  rcases h.2.2 with ⟨h1, h2⟩ | ⟨g, c, cur, h1, _⟩
  · cases h1; exact h2
  · cases h1; rfl
theorem OwnR.there {w : World} {B : Nat} {e : TypeId} {size g n cap : Nat} {xs : List (List Value)} (h : OwnR w B e size (.slice (some ⟨g, 0, none⟩) n cap) xs) {j : Nat} {r : List Value} (hr : xs[j]? = some r) : w.there g (j * size) size := fun i hi => by
  have hl := h.1 r (List.mem_of_getElem? hr)
  refine ⟨by rw [h.row hr i _ (List.getElem?_eq_getElem (by omega))]; rfl, ?_⟩
  rcases h.2.2 with ⟨h1, _⟩ | ⟨g', c, cur, h1, _, hh, _⟩
  · cases h1
  · cases h1; exact frozen_of_row w g _ cur _ hh
theorem OwnR.put {w : World} {B : Nat} {e : TypeId} {size g n cap : Nat} {xs : List (List Value)} (h : OwnR w B e size (.slice (some ⟨g, 0, none⟩) n cap) xs) {j : Nat} (hj : j < xs.length) {r : List Value} (hr : r.length = size) (h1 : ∀ u ∈ r, u.oneCell' = true) :
    OwnR (w.setCells g (j * size) r) B e size (.slice (some ⟨g, 0, none⟩) n cap) (xs.set j r) := by
  have hlen := h.len
  obtain ⟨hs, h0⟩ := h
  have h00 := h0
  obtain ⟨hfl, hor⟩ := h0
  have hn : xs.flatten.length = xs.length * size := flat_len hs
  have hjs : j * size + size ≤ xs.length * size := by rw [← Nat.succ_mul]; exact Nat.mul_le_mul_right size hj
  have hfset : (xs.set j r).flatten = xs.flatten.take (j * size) ++ r ++ xs.flatten.drop (j * size + size) := by
    rw [List.set_eq_take_append_cons_drop, if_pos hj, List.flatten_append, List.flatten_cons, flat_take j hs, flat_drop (j + 1) hs, Nat.succ_mul, List.append_assoc]
  refine ⟨fun x hx => ?_, ?_⟩
  · rcases List.mem_or_eq_of_mem_set hx with hx | rfl
    · exact hs x hx
    · exact hr
  · rcases hor with ⟨h2, _⟩ | ⟨g', c, cur, hv, hg, hh, hnc, hcm, hcs, htk⟩
    · cases h2
    · cases hv
      have hxc : xs.length * size ≤ cap * size := Nat.mul_le_mul_right size hnc
      obtain ⟨cs', k1, k2⟩ := heap_setCells g e r (j * size) w cur hh (by rw [hr, hcs]; omega)
      have hcl : cur.toList.length = cap * size := (Array.length_toList (xs := cur)).trans hcs
      have e1 : cur.toList.take (j * size) = xs.flatten.take (j * size) := by
        rw [← htk, List.take_take, Nat.min_eq_left (by omega)]
      have hsz : cs'.size = cap * size := by
        have e2 : cs'.toList.length = cs'.size := Array.length_toList
        rw [← e2, k2, List.length_append, List.length_append, List.length_take, List.length_drop, hcl, hr]
        omega
      refine ⟨by rw [hfset, List.length_append, List.length_append, List.length_take, List.length_drop, hn, hr, List.length_set]; omega, .inr ⟨g, cap, cs', by rw [List.length_set], hg, k1, by rw [List.length_set]; exact hnc, hcm, hsz, ?_⟩⟩
      rw [List.length_set, hfset, k2, e1, hr]
      have hA : (xs.flatten.take (j * size) ++ r).length = j * size + size := by rw [List.length_append, List.length_take, hn, hr]; omega
      rw [List.take_append, List.take_of_length_le (by rw [hA]; exact hjs), hA]
      congr 1
      rw [← htk, List.drop_take]
/-- A slice of lines of the call's own. -/
def OwnL (w : World) (B : Nat) (v : Value) (A : List Vec) : Prop := OwnR w B 78 17 v (A.map lineC)
theorem rowG_get {A : List Vec} {j : Nat} (hj : j < A.length) : (A.map lineC)[j]? = some (lineC (rowG A j)) := by
  unfold rowG
  rw [List.getElem?_map, List.getD_eq_getElem?_getD, List.getElem?_eq_getElem hj]; rfl
theorem OwnL.len {w : World} {B n cap : Nat} {a : Option Addr} {A : List Vec} (h : OwnL w B (.slice a n cap) A) : A.length = n := by
  have := OwnR.len h
  rwa [List.length_map] at this
/-- .. as it is written out -/
theorem OwnL.form {w : World} {B : Nat} {v : Value} {A : List Vec} {n : Nat} (h : OwnL w B v A) (hn : A.length = n) : ∃ a cap, v = .slice a n cap ∧ (n ≠ 0 → ∃ g, a = some ⟨g, 0, none⟩ ∧ B ≤ g ∧ g < w.heap.size) ∧ n ≤ cap ∧ cap ≤ maxLen := by
  subst hn
  have hlt := h.lt
  rcases h.2.2 with ⟨h1, h2⟩ | ⟨g, c, cur, h1, hg, hh, hnc, hcm, _⟩
  · rw [List.length_map] at h2
    refine ⟨none, 0, by rw [h1, h2], fun hne => absurd h2 hne, by omega, Nat.zero_le _⟩
  · rw [List.length_map] at h1 hnc
    refine ⟨_, c, h1, fun _ => ⟨g, rfl, hg, ?_⟩, hnc, hcm⟩
    exact (hlt g (by rw [h1]; rfl)).2
theorem OwnL.keep {w w' : World} {B : Nat} {v : Value} {A : List Vec} (h : OwnL w B v A) (hb : Lat w w') : OwnL w' B v A := OwnR.keep h hb
section
variable {w : World} {B g n cap : Nat} {A : List Vec} (h : OwnL w B (.slice (some ⟨g, 0, none⟩) n cap) A)
include h
theorem OwnL.row {j : Nat} (hj : j < n) : w.rangeAt g (j * 17) (lineC (rowG A j)) := OwnR.row h (rowG_get (by rw [h.len]; exact hj))
theorem OwnL.there {j : Nat} (hj : j < n) : w.there g (j * 17) 17 := OwnR.there h (rowG_get (by rw [h.len]; exact hj))
theorem OwnL.bit {j b : Nat} (hj : j < n) (hb : b < 16) : w.cell? ⟨g, j * 17 + b, none⟩ = some (.bool ((rowG A j).1.testBit b)) := by
  have := h.row hj b (lineF (rowG A j) b) (lineC_get _ (by omega))
  rw [this]; unfold lineF; rw [if_pos hb]
theorem OwnL.data {j : Nat} (hj : j < n) : w.cell? ⟨g, j * 17 + 16, none⟩ = some (.string (S (rowG A j).2)) := by
  have := h.row hj 16 (lineF (rowG A j) 16) (lineC_get _ (by omega))
  rw [this]; unfold lineF; rw [if_neg (by omega)]
theorem OwnL.put {j : Nat} (hj : j < n) (x : Vec) : OwnL (w.setCells g (j * 17) (lineC x)) B (.slice (some ⟨g, 0, none⟩) n cap) (A.set j x) := by
  have := OwnR.put h (j := j) (by rw [List.length_map, h.len]; exact hj) (lineC_len x) (lineC_one x)
  unfold OwnL
  rw [List.map_set]
  exact this
theorem OwnL.lat_put {w0 : World} (h0 : Lat w0 w) (hB : w0.heap.size ≤ B) (j : Nat) (x : Vec) : Lat w0 (w.setCells g (j * 17) (lineC x)) := by
  have hg : B ≤ g := (h.lt g rfl).1
  exact (Fr.setCells g (lineC x) (j * 17) w).lat_of h0 (fun k e => by rw [e]; omega)
end
theorem OwnL.nil (w : World) (B : Nat) : OwnL w B (.slice none 0 0) [] := OwnR.nil w B _ _
theorem line_info : (Tryd.prog.info? 78).map (fun i => (i.zero, i.size, i.bytes)) = some (some (lineV (0, [])), 17, 32) := by kernel_rfl
/-- lines that a caller shows -/
def LinesAt (w : World) (a : Option Addr) (n cap : Nat) (A : List Vec) : Prop := RowsAt w 17 a n cap (A.map lineC)
theorem LinesAt.len {w : World} {a : Option Addr} {n cap : Nat} {A : List Vec} (h : LinesAt w a n cap A) : A.length = n := by have := RowsAt.len h; rwa [List.length_map] at this
theorem LinesAt.keep {w w' : World} {a : Option Addr} {n cap : Nat} {A : List Vec} (h : LinesAt w a n cap A) (hb : Lat w w') : LinesAt w' a n cap A := RowsAt.keep h hb
theorem OwnL.shown {w : World} {B : Nat} {a : Option Addr} {n cap : Nat} {A : List Vec} (h : OwnL w B (.slice a n cap) A) : LinesAt w a n cap A := by
  obtain ⟨a', c', e, h2⟩ := OwnR.slice h (n := n) (by rw [List.length_map]; exact h.len)
  cases e
  exact h2
theorem LinesAt.at_ {w : World} {a : Option Addr} {n cap : Nat} {A : List Vec} (h : LinesAt w a n cap A) (hn : n ≠ 0) : ∃ b o, a = some ⟨b, o, none⟩ ∧ ∀ j, j < n → w.rangeAt b (o + j * 17) (lineC (rowG A j)) := by
  obtain ⟨b, o, ha, hc⟩ := RowsAt.at_ h hn
  refine ⟨b, o, ha, fun j hj i u hu => ?_⟩
  rw [Nat.add_assoc]
  exact (hc j _ (rowG_get (by rw [h.len]; exact hj))).2 i u hu
theorem line_yields {ops : Array Oper} {S : World → Prop} {op : Oper} {a : Act} (hw : Region.wanted op (yielded ops a.tmps) = true) (x : Operand) (ho : op.op = .load 78 x)
    (b o : Nat) (hx : a.eval x = .pointer (some ⟨b, o, none⟩)) (v : Vec) (hS : ∀ w, S w → w.rangeAt b o (lineC v)) : YieldsIf Tryd.prog ops S op (lineV v) a := by
  obtain ⟨d, hu, hd⟩ := line_u
  exact yieldsIf_load_mid hw _ x ho b o hx _ d hS hu hd (line_i v)
theorem line_store {op : Oper} {a : Act} {w : World} {K : Act → World → Prop} {Q : Exit → Act → World → Prop} (x y : Operand) (ho : op.op = .store 78 x y)
    (b o : Nat) (v : Vec) (hx : a.eval x = .pointer (some ⟨b, o, none⟩)) (hy : a.eval y = lineV v) (ht : w.there b o 17) (h : K (a.put op.dst undef) (w.setCells b o (lineC v))) : op.wp Tryd.prog a w K Q :=
  wp_store_mid _ x y ho b o (lineC v).toArray hx hy (by rw [List.size_toArray, lineC_len]; exact ht) (by rw [List.size_toArray]; exact line_i v) (all_oneCell_toArray (lineC_one v)) (by simpa using h)
theorem range_keep {w w' : World} {b o : Nat} {cs : List Value} (h : w.rangeAt b o cs) (hb : Lat w w') : w'.rangeAt b o cs := fun j v hv => hb.cell_at (h j v hv)
theorem there_keep {w w' : World} {b o n : Nat} (h : w.there b o n) (hb : Lat w w') : w'.there b o n := fun j hj => by
  obtain ⟨h1, h2⟩ := h j hj
  obtain ⟨u, hu⟩ := Option.isSome_iff_exists.1 h1
  exact ⟨by rw [hb.cell_at hu]; rfl, hb.free_at (World.block_lt_of_cell? w _ hu) h2⟩
/-- a write elsewhere -/
theorem OwnL.other {w : World} {B g n cap : Nat} {A : List Vec} (h : OwnL w B (.slice (some ⟨g, 0, none⟩) n cap) A) {x : Nat} (hx : x ≠ g) (o : Nat) (cs : List Value) : OwnL (w.setCells x o cs) B (.slice (some ⟨g, 0, none⟩) n cap) A :=
  OwnR.fr h (Fr.setCells x cs o w) (fun k hk e => by cases hk; exact hx e.symm)
theorem zline_there (w : World) (t : TypeId) : (w.alloc (.cells (lineC (0, [])).toArray t)).there w.heap.size 0 17 := (blk_line w (0, []) t).there
/-- the world when two lines have changed places, the one kept in a new block -/
def SwW (w : World) (t : TypeId) (A : List Vec) (g c p : Nat) : World :=
  (((w.alloc (.cells (lineC (0, [])).toArray t)).setCells w.heap.size 0 (lineC (rowG A p))).setCells g (p * 17) (lineC (rowG A c))).setCells g (c * 17) (lineC (rowG A p))
structure SwOk (w0 w : World) (B g n cap c p x : Nat) (A : List Vec) (W : World) : Prop where
  lat : Lat w0 W
  own : OwnL W B (.slice (some ⟨g, 0, none⟩) n cap) (swp A c p)
  x : W.rangeAt x 0 (lineC (rowG A p))
theorem sw_ok {w0 w : World} {B g n cap c p : Nat} {A : List Vec} (h : OwnL w B (.slice (some ⟨g, 0, none⟩) n cap) A) (h0 : Lat w0 w) (hB : w0.heap.size ≤ B) (hc : c < n) (hp : p < n) (t : TypeId) : SwOk w0 w B g n cap c p w.heap.size A (SwW w t A g c p) := by
  have hgl : g < w.heap.size := (h.lt g rfl).2
  have h1 := h.keep (Lat.alloc w (.cells (lineC (0, [])).toArray t))
  have h2 := h1.other (x := w.heap.size) (by omega) 0 (lineC (rowG A p))
  have l2 : Lat w0 ((w.alloc (.cells (lineC (0, [])).toArray t)).setCells w.heap.size 0 (lineC (rowG A p))) := (Fr.setCells _ _ _ _).lat_of (h0.trans (Lat.alloc _ _)) (fun k e => by rw [e]; exact h0.size)
  have x2 := World.rangeAt_setCells_same (w.alloc (.cells (lineC (0, [])).toArray t)) w.heap.size 0 (lineC (rowG A p)) (by rw [lineC_len]; exact zline_there w t)
  have h3 := h2.put hp (rowG A c)
  have h4 := h3.put hc (rowG A p)
  refine ⟨h3.lat_put (h2.lat_put l2 hB _ _) hB _ _, h4, ?_⟩
  exact World.rangeAt_setCells_apart (World.rangeAt_setCells_apart x2 _ _ _ (.inl (by omega))) _ _ _ (.inl (by omega))
end Go.Proofs.YtcpookgbneoilaaDoor
