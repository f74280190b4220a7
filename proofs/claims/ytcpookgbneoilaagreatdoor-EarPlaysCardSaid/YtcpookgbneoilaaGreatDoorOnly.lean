/- Worlds that differ in one block alone; a reader of bits, as it lies in memory. -/
import Derived.Test.YtcpookgbneoilaaGreatDoorOwnC
import Derived.Test.YtcpookgbneoilaaGreatDoorAppG
namespace Go.Proofs.YtcpookgbneoilaaGreatDoor
open Go.ChangeShapes Go.WideShapes Go.ChangeAt Go.RowKit

/-- Nothing but block g has turned. -/
structure Only (g : Nat) (w w' : World) : Prop where
  os : w'.os = w.os
  tape : w'.tape = w.tape
  output : w'.output = w.output
  size : w'.heap.size = w.heap.size
  block : ∀ k, k ≠ g → w'.heap[k]? = w.heap[k]?
theorem Only.refl (g : Nat) (w : World) : Only g w w := ⟨rfl, rfl, rfl, rfl, fun _ _ => rfl⟩
theorem Only.trans {g : Nat} {a b c : World} (h : Only g a b) (k : Only g b c) : Only g a c :=
  ⟨k.os.trans h.os, k.tape.trans h.tape, k.output.trans h.output, k.size.trans h.size, fun i hi => (k.block i hi).trans (h.block i hi)⟩
theorem Only.drewN {g : Nat} {a b : World} (h : Only g a b) (n : Nat) : Only g a (b.drewN n) := ⟨h.os, h.tape, h.output, h.size, h.block⟩
theorem Only.start (g : Nat) (w : World) (n : Nat) : Only g w (w.drewN n) := (Only.refl g w).drewN n
theorem Only.set (w : World) (p : Addr) (v : Value) : Only p.block w (w.setCell p v) :=
  ⟨rfl, rfl, rfl, by simp [World.setCell], fun k hk => Below.heap_setCell _ _ _ _ hk⟩
theorem Only.below {g B : Nat} {w w' : World} (h : Only g w w') (hB : B ≤ g) : Below B w w' := ⟨h.os, h.tape, h.output, Nat.le_of_eq h.size.symm, fun k hk => h.block k (by omega)⟩
theorem Only.lat {g : Nat} {w0 w w' : World} (h : Only g w w') (hl : Lat w0 w) (hg : w0.heap.size ≤ g) : Lat w0 w' := Below.trans hl (h.below hg)
theorem Only.cell {g : Nat} {w w' : World} (h : Only g w w') {p : Addr} (hp : p.block ≠ g) : w'.cell? p = w.cell? p := World.cell?_of_block (w := w) (h.block p.block hp)
theorem Only.frozen {g : Nat} {w w' : World} (h : Only g w w') {p : Addr} (hp : p.block ≠ g) : w'.frozen? p = w.frozen? p := World.frozen?_of_block (w := w) (h.block p.block hp)
theorem Own.only {g : Nat} {w w' : World} {B : Nat} {e : TypeId} {v : Value} {xs : List Value} (h : Own w B e v xs) (ho : Only g w w') (hg : g < B) : Own w' B e v xs := by
  obtain ⟨h1, h2⟩ := h
  refine ⟨h1, ?_⟩
  rcases h2 with h2 | ⟨k, cap, cur, rfl, hb, hh, rest⟩
  · exact .inl h2
  · exact .inr ⟨k, cap, cur, rfl, hb, by rw [ho.block k (by omega)]; exact hh, rest⟩
theorem IntsAt.only {g : Nat} {w w' : World} {a : Option Addr} {n cap : Nat} {zs : List Int} (h : IntsAt w a n cap zs) (ho : Only g w w') (hf : n ≠ 0 → ∀ b o, a = some ⟨b, o, none⟩ → b ≠ g) : IntsAt w' a n cap zs :=
  ⟨h.len, ⟨h.row.le, h.row.cap, fun hn => by
    obtain ⟨b, o, ha, hc⟩ := h.row.at_ hn
    exact ⟨b, o, ha, fun j hj => by rw [ho.cell (p := ⟨b, o + j, none⟩) (hf hn b o ha)]; exact hc j hj⟩⟩, h.wf⟩
theorem IntsAt.far {w : World} {a : Option Addr} {n cap : Nat} {zs : List Int} (h : IntsAt w a n cap zs) {g : Nat} (hg : w.heap.size ≤ g) : n ≠ 0 → ∀ b o, a = some ⟨b, o, none⟩ → b ≠ g := fun hn b o ha => by
  obtain ⟨b', o', ha', hc⟩ := h.row.at_ hn
  have := World.block_lt_of_cell? _ _ (hc 0 (by omega))
  rw [ha] at ha'
  injection ha' with ha'
  injection ha' with e1 _ _
  subst e1
  simp at this
  omega

/-- A reader of bits at block g: it has read p of them. -/
structure Rd (w : World) (g : Nat) (a : Option Addr) (n cap p : Nat) (zs : List Int) : Prop where
  c0 : w.cell? ⟨g, 0, none⟩ = some (.slice a n cap)
  c1 : w.cell? ⟨g, 1, none⟩ = some (.int .i64 p)
  f1 : w.frozen? ⟨g, 1, none⟩ = false
  ints : IntsAt w a n cap zs
  far : n ≠ 0 → ∀ b o, a = some ⟨b, o, none⟩ → b ≠ g
  le : p ≤ n
theorem Rd.set {w : World} {g : Nat} {a : Option Addr} {n cap p : Nat} {zs : List Int} (h : Rd w g a n cap p zs) {q : Nat} {v : Int} (hq : q ≤ n) (hv : v = q) : Rd (w.setCell ⟨g, 1, none⟩ (.int .i64 v)) g a n cap q zs := by
  subst hv
  have hne : (⟨g, 1, none⟩ : Addr) ≠ ⟨g, 0, none⟩ := by simp
  refine ⟨?_, World.cell?_setCell_same _ _ _ h.c1, by rw [World.frozen?_setCell]; exact h.f1, h.ints.only (Only.set w ⟨g, 1, none⟩ _) h.far, h.far, hq⟩
  rw [World.cell?_setCell_other _ _ _ _ hne]; exact h.c0
theorem Rd.lt {w : World} {g : Nat} {a : Option Addr} {n cap p : Nat} {zs : List Int} (h : Rd w g a n cap p zs) : g < w.heap.size := World.block_lt_of_cell? _ _ h.c0
theorem Rd.keep {w w' : World} {g : Nat} {a : Option Addr} {n cap p : Nat} {zs : List Int} (h : Rd w g a n cap p zs) (hb : Lat w w') : Rd w' g a n cap p zs :=
  ⟨hb.cell_at h.c0, hb.cell_at h.c1, hb.free_at h.lt h.f1, h.ints.keep hb, h.far, h.le⟩

/-- Of what was there nothing but block g has turned. -/
structure But (g : Nat) (w w' : World) : Prop where
  os : w'.os = w.os
  tape : w'.tape = w.tape
  output : w'.output = w.output
  size : w.heap.size ≤ w'.heap.size
  block : ∀ k, k < w.heap.size → k ≠ g → w'.heap[k]? = w.heap[k]?
theorem But.refl (g : Nat) (w : World) : But g w w := ⟨rfl, rfl, rfl, Nat.le_refl _, fun _ _ _ => rfl⟩
theorem But.trans {g : Nat} {a b c : World} (h : But g a b) (k : But g b c) : But g a c :=
  ⟨k.os.trans h.os, k.tape.trans h.tape, k.output.trans h.output, Nat.le_trans h.size k.size, fun i hi hg => (k.block i (Nat.lt_of_lt_of_le hi h.size) hg).trans (h.block i hi hg)⟩
theorem Only.but {g : Nat} {w w' : World} (h : Only g w w') : But g w w' := ⟨h.os, h.tape, h.output, Nat.le_of_eq h.size.symm, fun k _ hk => h.block k hk⟩
theorem But.of_lat {g : Nat} {w w' : World} (h : Lat w w') : But g w w' := ⟨h.os, h.tape, h.output, h.size, fun k hk _ => h.block k hk⟩
theorem But.below {g : Nat} {w w1 w2 : World} (h : But g w w1) (hb : Below w.heap.size w1 w2) : But g w w2 :=
  ⟨hb.os.trans h.os, hb.tape.trans h.tape, hb.output.trans h.output, Nat.le_trans h.size hb.size, fun k hk hg => (hb.block k hk).trans (h.block k hk hg)⟩
theorem But.lat {g : Nat} {w0 w w' : World} (h : But g w w') (hl : Lat w0 w) (hg : w0.heap.size ≤ g) : Lat w0 w' :=
  ⟨h.os.trans hl.os, h.tape.trans hl.tape, h.output.trans hl.output, Nat.le_trans hl.size h.size, fun k hk => (h.block k (Nat.lt_of_lt_of_le hk hl.size) (by omega)).trans (hl.block k hk)⟩
theorem But.cell_at {g : Nat} {w w' : World} (h : But g w w') {p : Addr} {v : Value} (hc : w.cell? p = some v) (hp : p.block ≠ g) : w'.cell? p = some v := by
  rw [World.cell?_of_block (w := w) (h.block p.block (World.block_lt_of_cell? _ _ hc) hp)]; exact hc
theorem IntsAt.but {g : Nat} {w w' : World} {a : Option Addr} {n cap : Nat} {zs : List Int} (h : IntsAt w a n cap zs) (ho : But g w w') (hf : n ≠ 0 → ∀ b o, a = some ⟨b, o, none⟩ → b ≠ g) : IntsAt w' a n cap zs :=
  ⟨h.len, ⟨h.row.le, h.row.cap, fun hn => by
    obtain ⟨b, o, ha, hc⟩ := h.row.at_ hn
    exact ⟨b, o, ha, fun j hj => ho.cell_at (hc j hj) (hf hn b o ha)⟩⟩, h.wf⟩
/-- The reader behind what wrote blocks from B on, B behind its own. -/
theorem Rd.below {w w1 w2 : World} {g : Nat} {a : Option Addr} {n cap p q : Nat} {zs : List Int} (h0 : Rd w g a n cap p zs) (h1 : Rd w1 g a n cap q zs) (ho : But g w w1) (hb : Below w.heap.size w1 w2) : Rd w2 g a n cap q zs := by
  have hl := h0.lt
  exact ⟨by rw [hb.cell hl]; exact h1.c0, by rw [hb.cell hl]; exact h1.c1, by rw [hb.frozen hl]; exact h1.f1, h0.ints.but (ho.below hb) h0.far, h0.far, h1.le⟩

/-- ONE APPEND of an int, whatever the world has been through. -/
theorem app_intB (wr : World) (B : Nat) {ops : Array Oper} {rest : List Oper} {o : Oper} {a : Act} {Q : Exit → Act → World → Prop}
    (hg : o.guard = none) (s x : Operand) (ho : o.op = .call { callee := .builtin .append, args := #[s, x], argTypes := #[42, 42] })
    (v : Value) (zs : List Int) (z : Int) (hs : a.eval s = v) (hown : OwnInts wr B v zs) (hx : a.eval x = .slice (some ⟨wr.heap.size, 0, none⟩) 1 1)
    (hn : zs.length < 1000000000000) (hB : B ≤ wr.heap.size)
    (K : ∀ v' w', OwnInts w' B v' (zs ++ [z]) → Below B wr w' → AppStep wr w' v v' → wpList Tryz.prog ops Q rest (a.put o.dst v') w') :
    wpList Tryz.prog ops Q (o :: rest) a (wr.alloc (.cells #[.int .i64 z] 3)) := by
  obtain ⟨i0, hi, hz0, hz1, hz2⟩ := info_parts info_int
  refine wpList_append_own_at (wr.alloc (.cells #[.int .i64 z] 3)) hg s x 42 ho B 3 i0 (.int .i64 0) 1 8 Tryz.underlying42 hi hz0 hz1 hz2 rfl (by decide) v (zs.map (Value.int .i64)).length (zs.map (Value.int .i64)) hs (World.ownsRow.alloc hown _) ⟨wr.heap.size, 0, none⟩ 1 1 [.int .i64 z] hx rfl ?_ ?_ ?_ ?_ ?_ ?_
  · intro j u' hj
    match j, hj with
    | 0, hj =>
      simp at hj; subst hj
      rw [Addr.add_lit, World.cell?_alloc_at _ _ _ _ rfl]; rfl
  · intro u' hu'; simp at hu'; subst hu'; rfl
  · rw [List.length_map]; unfold maxLen; omega
  · rw [List.length_map]; omega
  · simp; omega
  · intro v' w' hown' hgrow _ hloc
    refine K v' w' ?_ ?_ ⟨fun k hk hne => ?_, ?_, ?_⟩
    · unfold OwnInts Own; rw [List.map_append, List.length_append]; exact hown'
    · refine Below.grown (Below.alloc (Below.refl B wr) hB _) hgrow (by simp; omega) ?_
      intro k hk
      exact (Own.lt hown k hk).1
    · rw [hgrow.block k (by simp; omega) hne]; exact heap_alloc_old wr _ hk
    · have := hgrow.size; simp at this; omega
    · rcases hloc with hl | hl
      · exact .inl hl
      · exact .inr ⟨_, hl, by simp⟩
end Go.Proofs.YtcpookgbneoilaaGreatDoor
