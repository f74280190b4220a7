/- Slices that a call makes itself, element by element: the laws, and those of ints. -/
import Derived.Test.YtcpookgbneoilaaGreatDoorBase
import Derived.Maps.AppendAt
namespace Go.Proofs.YtcpookgbneoilaaGreatDoor
open Go.ChangeShapes Go.WideShapes Go.ChangeAt Go.RowKit

theorem info_int : (Tryz.prog.info? 3).map (fun i => (i.zero, i.size, i.bytes)) = some (some (.int .i64 0), 1, 8) := by kernel_rfl
/-- v is a slice of the call's own: it holds xs, one cell each. -/
def Own (w : World) (B : Nat) (e : TypeId) (v : Value) (xs : List Value) : Prop := w.ownsRow B e 1 v xs.length xs

theorem Own.nil (w : World) (B : Nat) (e : TypeId) : Own w B e (.slice none 0 0) [] := World.ownsRow_nil w B e 1
theorem Own.lt {w : World} {B : Nat} {e : TypeId} {v : Value} {xs : List Value} (h : Own w B e v xs) : ∀ k, v.ownBlock = some k → B ≤ k ∧ k < w.heap.size := World.ownsRow.lt h
/-- It stays while later calls write to new blocks alone. -/
theorem Own.keep {w w' : World} {B : Nat} {e : TypeId} {v : Value} {xs : List Value} (h : Own w B e v xs) (hb : Lat w w') : Own w' B e v xs :=
  World.ownsRow.kept (row := none) h ⟨hb.os, hb.tape, hb.output, hb.size, fun k hk _ => hb.block k hk⟩ (by cases hv : v.ownBlock <;> simp)
theorem Own.slice {w : World} {B : Nat} {e : TypeId} {v : Value} {xs : List Value} (h : Own w B e v xs) : ∃ a cap, v = .slice a xs.length cap ∧ RowAt w a xs.length cap (fun j => xs.getD j undef) := by
  have h0 := h
  obtain ⟨_, h2⟩ := h
  rcases h2 with ⟨rfl, hz⟩ | ⟨g, cap, cur, rfl, hg, hh, hn, hc, hs, ht⟩
  · refine ⟨none, 0, by rw [hz], by omega, Nat.zero_le _, fun hn => absurd hz hn⟩
  · refine ⟨_, cap, rfl, hn, hc, fun _ => ⟨g, 0, rfl, fun j hj => ?_⟩⟩
    have := World.ownsRow.cells h0 (g := g) rfl j (xs.getD j undef) (by simp [List.getD, hj])
    rw [Addr.add_lit] at this
    exact this

/-- Two slices of the call's own in two blocks (or nil). -/
def Apart (v v2 : Value) : Prop := ∀ k, v.ownBlock = some k → v2.ownBlock ≠ some k
theorem Apart.symm {v v2 : Value} (h : Apart v v2) : Apart v2 v := fun k h1 h2 => h k h2 h1
theorem Apart.nil (v : Value) : Apart (.slice none 0 0) v := fun k h => by cases h
/-- What an append does beside what it appends to. -/
structure AppStep (wr w' : World) (v v' : Value) : Prop where
  block : ∀ k, k < wr.heap.size → some k ≠ v.ownBlock → w'.heap[k]? = wr.heap[k]?
  size : wr.heap.size ≤ w'.heap.size
  loc : v'.ownBlock = v.ownBlock ∨ ∃ g, v'.ownBlock = some g ∧ wr.heap.size ≤ g
theorem AppStep.other {wr w' : World} {v v' : Value} (h : AppStep wr w' v v') {B : Nat} {e : TypeId} {v2 : Value} {xs : List Value} (ho : Own wr B e v2 xs) (ha : Apart v v2) : Own w' B e v2 xs ∧ Apart v' v2 := by
  refine ⟨?_, fun k h1 h2 => ?_⟩
  · have hlt := Own.lt ho
    obtain ⟨hl, hor⟩ := ho
    refine ⟨hl, ?_⟩
    rcases hor with hn | ⟨g, cap, cur, rfl, hb, hgg, rest⟩
    · exact .inl hn
    · refine .inr ⟨g, cap, cur, rfl, hb, ?_, rest⟩
      rw [h.block g (hlt g rfl).2 (fun e => ha g e.symm rfl)]
      exact hgg
  · have hlt := (Own.lt ho k h2).2
    rcases h.loc with hl | ⟨g, hl, hg⟩
    · rw [hl] at h1; exact ha k h1 h2
    · rw [hl] at h1; injection h1 with h1; omega
/-- A cell of a block that the append does not write. -/
theorem AppStep.cell {wr w' : World} {v v' : Value} (h : AppStep wr w' v v') {p : Addr} {x : Value} (hp : wr.cell? p = some x) (hne : v.ownBlock ≠ some p.block) : w'.cell? p = some x := by
  rw [World.cell?_of_block (w := wr) (h.block p.block (World.block_lt_of_cell? _ _ hp) (fun e => hne e.symm))]; exact hp

/-- ONE APPEND of one element of one cell. -/
theorem wpList_app1 {P : Program} (wr w0 : World) (B : Nat) {ops : Array Oper} {rest : List Oper} {o : Oper} {a : Act} {Q : Exit → Act → World → Prop}
    (hg : o.guard = none) (s x : Operand) (t : TypeId) (ho : o.op = .call { callee := .builtin .append, args := #[s, x], argTypes := #[t, t] })
    (e : TypeId) (z : Value) (bytes : Nat) (ht : P.underlying t = some (.slice e)) (hinfo : (P.info? e).map (fun i => (i.zero, i.size, i.bytes)) = some (some z, 1, bytes)) (hz : z.cells.size = 1) (hby : bytes ≤ 16)
    (v : Value) (xs : List Value) (u : Value) (hs : a.eval s = v) (hown : Own wr B e v xs) (hx : a.eval x = .slice (some ⟨wr.heap.size, 0, none⟩) 1 1) (hu : u.oneCell' = true)
    (hn : xs.length < 1000000000000) (hB : B = w0.heap.size) (hb : Below B w0 wr)
    (K : ∀ v' w', Own w' B e v' (xs ++ [u]) → Below B w0 w' → AppStep wr w' v v' → wpList P ops Q rest (a.put o.dst v') w') :
    wpList P ops Q (o :: rest) a (wr.alloc (.cells #[u] e)) := by
  obtain ⟨i0, hi, hz0, hz1, hz2⟩ := info_parts hinfo
  have hsz := hb.size
  refine wpList_append_own_at (wr.alloc (.cells #[u] e)) hg s x t ho B e i0 z 1 bytes ht hi hz0 hz1 hz2 hz (by decide) v xs.length xs hs (World.ownsRow.alloc hown _) ⟨wr.heap.size, 0, none⟩ 1 1 [u] hx rfl ?_ ?_ ?_ ?_ ?_ ?_
  · intro j u' hj
    match j, hj with
    | 0, hj =>
      simp at hj; subst hj
      rw [Addr.add_lit, World.cell?_alloc_at _ _ _ _ rfl]; rfl
  · intro u' hu'; simp at hu'; subst hu'; exact hu
  · unfold maxLen; omega
  · calc (xs.length + 1) * bytes ≤ (xs.length + 1) * 16 := Nat.mul_le_mul_left _ hby
      _ ≤ 140737488355328 := by omega
  · simp; omega
  · intro v' w' hown' hgrow _ hloc
    refine K v' w' ?_ ?_ ⟨fun k hk hne => ?_, ?_, ?_⟩
    · unfold Own; rw [List.length_append]; exact hown'
    · refine Below.grown (Below.alloc hb (by omega) _) hgrow (by simp; omega) ?_
      intro k hk
      exact (Own.lt hown k hk).1
    · rw [hgrow.block k (by simp; omega) hne]; exact heap_alloc_old wr _ hk
    · have := hgrow.size; simp at this; omega
    · rcases hloc with hl | hl
      · exact .inl hl
      · exact .inr ⟨_, hl, by simp⟩

/-- ints of the call's own -/
abbrev OwnInts (w : World) (B : Nat) (v : Value) (zs : List Int) : Prop := Own w B 3 v (zs.map (Value.int .i64))
theorem app_int (wr w0 : World) (B : Nat) {ops : Array Oper} {rest : List Oper} {o : Oper} {a : Act} {Q : Exit → Act → World → Prop}
    (hg : o.guard = none) (s x : Operand) (ho : o.op = .call { callee := .builtin .append, args := #[s, x], argTypes := #[42, 42] })
    (v : Value) (zs : List Int) (z : Int) (hs : a.eval s = v) (hown : OwnInts wr B v zs) (hx : a.eval x = .slice (some ⟨wr.heap.size, 0, none⟩) 1 1)
    (hn : zs.length < 1000000000000) (hB : B = w0.heap.size) (hb : Below B w0 wr)
    (K : ∀ v' w', OwnInts w' B v' (zs ++ [z]) → Below B w0 w' → AppStep wr w' v v' → wpList Tryz.prog ops Q rest (a.put o.dst v') w') :
    wpList Tryz.prog ops Q (o :: rest) a (wr.alloc (.cells #[.int .i64 z] 3)) :=
  wpList_app1 wr w0 B hg s x 42 ho 3 (.int .i64 0) 8 Tryz.underlying42 info_int rfl (by decide) v _ (.int .i64 z) hs hown hx rfl (by simpa using hn) hB hb
    (fun v' w' h1 h2 h3 => K v' w' (by simpa [OwnInts] using h1) h2 h3)
/-- A slice of strings, of ints, written out. -/
theorem strs_new (w : World) (ss : List ByteArray) (t : TypeId) (hm : ss.length ≤ 1000) (hs : ∀ s ∈ ss, s.size ≤ maxLen) : StrsAt (w.alloc (.cells (ss.map Value.string).toArray t)) (some ⟨w.heap.size, 0, none⟩) ss.length ss.length ss :=
  ⟨rfl, ⟨Nat.le_refl _, by unfold maxLen; omega, fun _ => ⟨w.heap.size, 0, rfl, fun j hj => by
    rw [World.cell?_alloc_at _ _ _ _ rfl]; simp [List.getD, hj]⟩⟩, hs⟩
theorem ints_new (w : World) (zs : List Int) (t : TypeId) (hm : zs.length ≤ 1000) (hs : ∀ z ∈ zs, -9223372036854775808 ≤ z ∧ z ≤ 9223372036854775807) : IntsAt (w.alloc (.cells (zs.map (Value.int .i64)).toArray t)) (some ⟨w.heap.size, 0, none⟩) zs.length zs.length zs :=
  ⟨rfl, ⟨Nat.le_refl _, by unfold maxLen; omega, fun _ => ⟨w.heap.size, 0, rfl, fun j hj => by
    rw [World.cell?_alloc_at _ _ _ _ rfl]; simp [List.getD, hj]⟩⟩, hs⟩

/-- Shown to a caller: the slice reads as zs. -/
theorem OwnInts.slice {w : World} {B : Nat} {v : Value} {zs : List Int} (h : OwnInts w B v zs) (hwf : ∀ z ∈ zs, -9223372036854775808 ≤ z ∧ z ≤ 9223372036854775807) : ∃ a cap, v = .slice a zs.length cap ∧ IntsAt w a zs.length cap zs := by
  obtain ⟨a, cap, hv, hr⟩ := Own.slice h
  rw [List.length_map] at hv hr
  refine ⟨a, cap, hv, rfl, ⟨hr.le, hr.cap, fun hn => ?_⟩, hwf⟩
  obtain ⟨b, off, ha, hc⟩ := hr.at_ hn
  exact ⟨b, off, ha, fun j hj => by rw [hc j hj]; simp [List.getD, hj]⟩
/-- A block of the call's own whose cells can be written. -/
structure Blk (w : World) (g n : Nat) (F : Nat → Value) : Prop where
  lt : g < w.heap.size
  cell : ∀ j, j < n → w.cell? ⟨g, j, none⟩ = some (F j)
  free : ∀ j, j < n → w.frozen? ⟨g, j, none⟩ = false
theorem Blk.set {w : World} {g n k : Nat} {F : Nat → Value} (h : Blk w g n F) (hk : k < n) (v : Value) : Blk (w.setCell ⟨g, k, none⟩ v) g n (fun j => if j = k then v else F j) := by
  refine ⟨by simpa [World.setCell] using h.lt, fun j hj => ?_, fun j hj => by rw [World.frozen?_setCell]; exact h.free j hj⟩
  by_cases e : j = k
  · subst e; rw [if_pos rfl]; exact World.cell?_setCell_same _ _ _ (h.cell j hj)
  · rw [if_neg e, World.cell?_setCell_other _ _ _ _ (by intro h; injection h with _ h2 _; exact e h2.symm)]; exact h.cell j hj
theorem Blk.congr {w : World} {g n : Nat} {F G : Nat → Value} (h : Blk w g n F) (e : ∀ j, j < n → F j = G j) : Blk w g n G := ⟨h.lt, fun j hj => by rw [← e j hj]; exact h.cell j hj, h.free⟩
theorem Blk.keep {w w' : World} {g n : Nat} {F : Nat → Value} (h : Blk w g n F) (hb : Lat w w') : Blk w' g n F :=
  ⟨Nat.lt_of_lt_of_le h.lt hb.size, fun j hj => by rw [hb.cell h.lt]; exact h.cell j hj, fun j hj => by rw [hb.frozen h.lt]; exact h.free j hj⟩

theorem wpList_make_blk {P : Program} (w : World) {ops : Array Oper} {rest : List Oper} {o : Oper} {a : Act} {Q : Exit → Act → World → Prop}
    (hg : o.guard = none) (l c : Operand) (t : TypeId) (hop : o.op = Op.makeSlice t l c)
    (e : TypeId) (z : Value) (bytes : Nat) (h1 : P.underlying t = some (.slice e)) (hinfo : (P.info? e).map (fun i => (i.zero, i.size, i.bytes)) = some (some z, 1, bytes)) (hz : z.cells = #[z])
    (n : Nat) (hl : a.eval l = .int .i64 n) (hc : a.eval c = .int .i64 n) (b2 : bytes * n ≤ 281474976710656) (b3 : n ≤ maxLen)
    (hK : ∀ g w', g = w.heap.size → Blk w' g n (fun _ => z) → Lat w w' → wpList P ops Q rest (a.put o.dst (.slice (some ⟨g, 0, none⟩) n n)) w') :
    wpList P ops Q (o :: rest) a w := by
  obtain ⟨i, h2, h3, h4, h5⟩ := info_parts hinfo
  refine wpList_make_full w hg l c t hop w.heap.size e i z 1 h1 h2 h3 h4 .i64 .i64 _ _ n hl hc rfl rfl (by rw [h5]; exact b2) b3 (Nat.le_refl _) ?_
  intro w' hown hgrow
  refine hK w.heap.size w' rfl ?_ ⟨hgrow.os, hgrow.tape, hgrow.output, hgrow.size, fun k hk => hgrow.block k hk (by simp)⟩
  have h0 := hown
  obtain ⟨hlen, hor⟩ := hown
  rcases hor with ⟨hv, _⟩ | ⟨g, cap, cur, hv, hge, hh, hn, hcm, hs, ht⟩
  · cases hv
  · have hgg : g = w.heap.size := by cases hv; rfl
    subst hgg
    have hcur : w.heap.size < w'.heap.size := (Array.getElem?_eq_some_iff.1 hh).1
    refine ⟨hcur, fun j hj => ?_, fun j hj => ?_⟩
    · have := World.ownsRow.cells h0 (g := w.heap.size) rfl j z (by rw [Nat.mul_one, hz, toList_madeCells_one, List.getElem?_replicate, if_pos hj])
      rw [Addr.add_lit, Nat.zero_add] at this
      exact this
    · simp [World.frozen?, hh]
end Go.Proofs.YtcpookgbneoilaaGreatDoor
