/- A slice of ints of the call's own that lies in a cell of the call's own struct, and grows there: what stands between two appends. -/
import Derived.Test.YtooepflfofgnnaaDoorAppG
import Derived.Test.YtooepflfofgnnaaDoorGate
namespace Go.Proofs.YtooepflfofgnnaaDoor
open Go.ChangeShapes Go.WideShapes Go.ChangeAt Go.RowKit

/-- w0: the world ahead of the first append; the slice lies in cell k of block g, that is below w0's end and not below b0. -/
structure AccInv (b0 : Nat) (w0 wr : World) (g k : Nat) (v : Value) (L : List Int) : Prop where
  bel : Below b0 w0 wr
  lo : b0 ≤ g
  hi : g < w0.heap.size
  same : ∀ p x, p ≠ ⟨g, k, none⟩ → w0.cell? p = some x → wr.cell? p = some x
  free : ∀ p, p.block < w0.heap.size → w0.frozen? p = false → wr.frozen? p = false
  at_ : wr.cell? ⟨g, k, none⟩ = some v
  own : OwnInts wr w0.heap.size v L
theorem AccInv.start {b0 : Nat} {w0 : World} {g k : Nat} (lo : b0 ≤ g) (h : w0.cell? ⟨g, k, none⟩ = some (.slice none 0 0)) : AccInv b0 w0 w0 g k (.slice none 0 0) [] :=
  ⟨Below.refl _ _, lo, World.block_lt_of_cell? _ _ h, fun _ _ _ h => h, fun _ _ h => h, h, Own.nil _ _ _⟩
theorem AccInv.drewN {b0 : Nat} {w0 wr : World} {g k : Nat} {v : Value} {L : List Int} (h : AccInv b0 w0 wr g k v L) (n : Nat) : AccInv b0 w0 (wr.drewN n) g k v L :=
  ⟨Below.trans h.bel ⟨rfl, rfl, rfl, Nat.le_refl _, fun _ _ => rfl⟩, h.lo, h.hi, h.same, h.free, h.at_, h.own⟩
theorem AccInv.size {b0 : Nat} {w0 wr : World} {g k : Nat} {v : Value} {L : List Int} (h : AccInv b0 w0 wr g k v L) : w0.heap.size ≤ wr.heap.size := h.bel.size
theorem AccInv.lat {w : World} {w0 wr : World} {g k : Nat} {v : Value} {L : List Int} (h : AccInv w.heap.size w0 wr g k v L) (hl : Lat w w0) : Lat w wr := Below.trans hl h.bel
/-- A slice that stood there reads on. -/
theorem AccInv.ints {b0 : Nat} {w0 wr : World} {g k : Nat} {v : Value} {L : List Int} (h : AccInv b0 w0 wr g k v L) {a : Option Addr} {n cap : Nat} {zs : List Int} (hat : IntsAt w0 a n cap zs) (hne : ∀ b o, a = some ⟨b, o, none⟩ → n ≠ 0 → b ≠ g) : IntsAt wr a n cap zs :=
  ⟨hat.len, ⟨hat.row.le, hat.row.cap, fun hn => by
    obtain ⟨b, o, ha, hc⟩ := hat.row.at_ hn
    exact ⟨b, o, ha, fun j hj => h.same _ _ (fun e => hne b o ha hn (by injection e)) (hc j hj)⟩⟩, hat.wf⟩
theorem AccInv.step {b0 : Nat} {w0 wr w1 : World} {g k : Nat} {v : Value} {L : List Int} {z : Int} {o : Obj} {q c : Nat} (h : AccInv b0 w0 wr g k v L)
    (hgrow : (wr.alloc o).grownBy w1 v.ownBlock) (hown : w1.ownsRow w0.heap.size 3 1 (.slice (some ⟨q, 0, none⟩) (L.length + 1) c) (L.length + 1) (L.map (Value.int .i64) ++ [.int .i64 z])) :
    AccInv b0 w0 (w1.setCell ⟨g, k, none⟩ (.slice (some ⟨q, 0, none⟩) (L.length + 1) c)) g k (.slice (some ⟨q, 0, none⟩) (L.length + 1) c) (L ++ [z]) := by
  have hne : ∀ j, j < w0.heap.size → v.ownBlock ≠ some j := fun j hj => Own.not h.own hj
  have hsz := h.size
  have hgw : g < wr.heap.size := Nat.lt_of_lt_of_le h.hi hsz
  have cc : ∀ p x, p.block < w0.heap.size → wr.cell? p = some x → w1.cell? p = some x := fun p x hp hx => grown_cell hgrow ((Lat.alloc _ _).cell_at hx) (hne _ hp)
  have ff : ∀ p, p.block < w0.heap.size → wr.frozen? p = false → w1.frozen? p = false := fun p hp hx => grown_free hgrow (by simp; omega) ((Lat.alloc _ _).free_at (by omega) hx) (hne _ hp)
  have hb : Below b0 w0 w1 := Below.grown (Below.alloc h.bel (by have := h.lo; omega) o) hgrow (by have := h.lo; simp; omega) (fun j hj => by
    rcases Nat.lt_or_ge j w0.heap.size with hlt | hge
    · exact absurd hj (hne j hlt)
    · have := h.lo; have := h.hi; omega)
  refine ⟨Below.setCell hb h.lo _, h.lo, h.hi, fun p x hp hx => ?_, fun p hp hx => ?_, ?_, ?_⟩
  · rw [World.cell?_setCell_other _ _ _ _ (fun e => hp e.symm)]
    exact cc p x (World.block_lt_of_cell? _ _ hx) (h.same p x hp hx)
  · rw [World.frozen?_setCell]
    exact ff p hp (h.free p hp hx)
  · exact World.cell?_setCell_same _ _ _ (cc _ _ h.hi h.at_)
  · refine Own.set (p := ⟨g, k, none⟩) (B := w0.heap.size) ?_ h.hi _
    unfold Own
    rw [List.length_map, List.length_append, List.length_singleton, List.map_append]
    exact hown
/-- ONE APPEND of an int onto the slice in the cell, ahead of its store. -/
theorem app_acc {b0 : Nat} {w0 wr : World} {g k : Nat} {v : Value} {L : List Int} (h : AccInv b0 w0 wr g k v L) (hfr : w0.frozen? ⟨g, k, none⟩ = false) (hlen : L.length ≤ 1000000000)
    {ops : Array Oper} {rest : List Oper} {o : Oper} {a : Act} {Q : Exit → Act → World → Prop}
    (hg : o.guard = none) (s x : Operand) (ho : o.op = .call { callee := .builtin .append, args := #[s, x], argTypes := #[25, 25] }) (z : Int) (hs : a.eval s = v) (hx : a.eval x = .slice (some ⟨wr.heap.size, 0, none⟩) 1 1)
    (K : ∀ q c w1, AccInv b0 w0 (w1.setCell ⟨g, k, none⟩ (.slice (some ⟨q, 0, none⟩) (L.length + 1) c)) g k (.slice (some ⟨q, 0, none⟩) (L.length + 1) c) (L ++ [z]) → w1.cell? ⟨g, k, none⟩ = some v → w1.frozen? ⟨g, k, none⟩ = false →
      (∀ p y, p.block < w0.heap.size → wr.cell? p = some y → w1.cell? p = some y) → wpList Tryd.prog ops Q rest (a.put o.dst (.slice (some ⟨q, 0, none⟩) (L.length + 1) c)) w1) :
    wpList Tryd.prog ops Q (o :: rest) a (wr.alloc (.cells #[.int .i64 z] 3)) := by
  obtain ⟨i0, hi0, hz0, hz1, hz2⟩ := info_int_parts
  have hsz := h.size
  refine wpList_append_lies (wr.alloc (.cells #[.int .i64 z] 3)) hg s x 25 ho w0.heap.size 3 i0 (.int .i64 0) 1 8 Tryd.underlying25 hi0 hz0 hz1 hz2 rfl (by decide) v L.length (L.map (Value.int .i64)) hs
    (by have := Own.alloc h.own (.cells #[.int .i64 z] 3); unfold Own at this; rwa [List.length_map] at this) ⟨wr.heap.size, 0, none⟩ 1 1 [.int .i64 z] hx rfl ?_ ?_ (by decide) ?_ ?_ ?_ _ rfl ?_
  · intro q u' hq
    match q, hq with
    | 0, hq =>
      simp at hq; subst hq
      rw [Addr.add_lit, World.cell?_alloc_at _ _ _ _ rfl]; rfl
  · intro u' hu'; simp at hu'; subst hu'; rfl
  · unfold maxLen; omega
  · omega
  · simp; omega
  intro q c w1 hown hgrow hat hlt
  have hstep := h.step (o := .cells #[.int .i64 z] 3) hgrow hown
  have cc : ∀ p y, p.block < w0.heap.size → wr.cell? p = some y → w1.cell? p = some y := fun p y hp hy => grown_cell hgrow ((Lat.alloc _ _).cell_at hy) (Own.not h.own hp)
  exact K q c w1 hstep (cc _ _ h.hi h.at_) (grown_free hgrow (Nat.lt_of_lt_of_le h.hi (Nat.le_trans hsz (Lat.alloc _ _).size)) ((Lat.alloc _ _).free_at (Nat.lt_of_lt_of_le h.hi hsz) (h.free _ h.hi hfr)) (Own.not h.own h.hi)) cc
/-- with some slice value -/
def AccSome (b0 : Nat) (w0 wr : World) (g k : Nat) (L : List Int) : Prop := ∃ v, AccInv b0 w0 wr g k v L
end Go.Proofs.YtooepflfofgnnaaDoor
