/- Frames: which blocks a call may have turned. No program in sight. -/
import Derived.Test.YtcpookgbneoilaaGreatDoorOwnR
namespace Go.Proofs.YtcpookgbneoilaaGreatDoor
open Go.ChangeShapes Go.WideShapes Go.ChangeAt Go.RowKit

/-- Of the blocks that were there none but those of S have turned. -/
structure Fr (S : Nat → Prop) (w w' : World) : Prop where
  os : w'.os = w.os
  tape : w'.tape = w.tape
  output : w'.output = w.output
  size : w.heap.size ≤ w'.heap.size
  block : ∀ k, k < w.heap.size → ¬ S k → w'.heap[k]? = w.heap[k]?
section
variable {S T : Nat → Prop} {a b c w w' : World}
theorem Fr.refl (S : Nat → Prop) (w : World) : Fr S w w := ⟨rfl, rfl, rfl, Nat.le_refl _, fun _ _ _ => rfl⟩
theorem Fr.lat (h : Lat a b) : Fr S a b := ⟨h.os, h.tape, h.output, h.size, fun k hk _ => h.block k hk⟩
theorem Fr.trans (h : Fr S a b) (k : Fr T b c) (ht : ∀ i, i < a.heap.size → T i → S i) : Fr S a c :=
  ⟨k.os.trans h.os, k.tape.trans h.tape, k.output.trans h.output, Nat.le_trans h.size k.size, fun i hi hs => (k.block i (Nat.lt_of_lt_of_le hi h.size) (fun e => hs (ht i hi e))).trans (h.block i hi hs)⟩
theorem Fr.next (h : Fr S a b) (k : Lat b c) : Fr S a c := h.trans (T := S) (Fr.lat k) (fun _ _ e => e)
theorem Fr.mono (h : Fr S a b) (hs : ∀ k, k < a.heap.size → S k → T k) : Fr T a b := ⟨h.os, h.tape, h.output, h.size, fun k hk ht => h.block k hk (fun e => ht (hs k hk e))⟩
theorem Fr.cell_at (h : Fr S w w') {p : Addr} {v : Value} (hp : w.cell? p = some v) (hn : ¬ S p.block) : w'.cell? p = some v := by
  rw [World.cell?_of_block (w := w) (h.block p.block (World.block_lt_of_cell? _ _ hp) hn)]; exact hp
theorem Fr.free_at (h : Fr S w w') {p : Addr} (hl : p.block < w.heap.size) (hp : w.frozen? p = false) (hn : ¬ S p.block) : w'.frozen? p = false := by
  rw [World.frozen?_of_block (w := w) (h.block p.block hl hn)]; exact hp
theorem Fr.below (h : Fr S w w') {B : Nat} (hB : B ≤ w.heap.size) (hS : ∀ k, S k → B ≤ k) : Below B w w' :=
  ⟨h.os, h.tape, h.output, h.size, fun k hk => h.block k (by omega) (fun e => by have := hS k e; omega)⟩
theorem Fr.lat_of (h : Fr S w w') {w0 : World} (h0 : Lat w0 w) (hS : ∀ k, S k → w0.heap.size ≤ k) : Lat w0 w' := Below.trans h0 (h.below h0.size hS)
theorem Fr.drewN (h : Fr S a b) (n : Nat) : Fr S a (b.drewN n) := ⟨h.os, h.tape, h.output, h.size, h.block⟩
theorem Fr.drew (h : Fr S a b) : Fr S a b.drew := ⟨h.os, h.tape, h.output, h.size, h.block⟩
theorem Fr.set (w : World) (p : Addr) (v : Value) (hp : S p.block) : Fr S w (w.setCell p v) :=
  ⟨rfl, rfl, rfl, by simp [World.setCell], fun k _ hk => Below.heap_setCell _ _ _ _ (fun e => hk (e ▸ hp))⟩
theorem Fr.then_set (h : Fr S a b) (p : Addr) (v : Value) (hp : S p.block ∨ a.heap.size ≤ p.block) : Fr S a (b.setCell p v) :=
  h.trans (T := fun k => k = p.block) (Fr.set b p v rfl) (fun i hi e => by
    subst e
    rcases hp with hp | hp
    · exact hp
    · omega)
theorem Fr.app {v v' : Value} (h : AppStep w w' v v') (ho : w'.os = w.os ∧ w'.tape = w.tape ∧ w'.output = w.output) : Fr (fun k => v.ownBlock = some k) w w' :=
  ⟨ho.1, ho.2.1, ho.2.2, h.size, fun k hk hn => h.block k hk (fun e => hn e.symm)⟩
end
/-- An own row stands while its block stands. -/
theorem OwnR.fr {S : Nat → Prop} {w w' : World} {B : Nat} {e : TypeId} {size : Nat} {v : Value} {xs : List (List Value)} (h : OwnR w B e size v xs) (hf : Fr S w w') (hn : ∀ k, v.ownBlock = some k → ¬ S k) : OwnR w' B e size v xs := by
  have hlt := h.lt
  refine ⟨h.1, ?_⟩
  obtain ⟨h1, h2⟩ := h.2
  refine ⟨h1, ?_⟩
  rcases h2 with h2 | ⟨g, cap, cur, rfl, hg, hh, rest⟩
  · exact .inl h2
  · exact .inr ⟨g, cap, cur, rfl, hg, by rw [hf.block g (hlt g rfl).2 (hn g rfl)]; exact hh, rest⟩
theorem OwnR.base {w : World} {B C : Nat} {e : TypeId} {size : Nat} {v : Value} {xs : List (List Value)} (h : OwnR w B e size v xs) (hc : C ≤ B) : OwnR w C e size v xs := by
  refine ⟨h.1, ?_⟩
  obtain ⟨h1, h2⟩ := h.2
  refine ⟨h1, ?_⟩
  rcases h2 with h2 | ⟨g, cap, cur, rfl, hg, rest⟩
  · exact .inl h2
  · exact .inr ⟨g, cap, cur, rfl, by omega, rest⟩

/-- Some cells of a block, written one behind another. -/
theorem heap_setCells (g : Nat) (t : TypeId) : ∀ (vs : List Value) (o : Nat) (w : World) (cs : Array Value), w.heap[g]? = some (.cells cs t (0, 0)) → o + vs.length ≤ cs.size →
    ∃ cs' : Array Value, (w.setCells g o vs).heap[g]? = some (.cells cs' t (0, 0)) ∧ cs'.toList = cs.toList.take o ++ vs ++ cs.toList.drop (o + vs.length)
  | [], o, w, cs, h, _ => ⟨cs, h, by simp⟩
  | v :: r, o, w, cs, h, hl => by
    rw [List.length_cons] at hl
    obtain ⟨cs', h1, h2⟩ := heap_setCells g t r (o + 1) (w.setCell ⟨g, o, none⟩ v) (cs.setIfInBounds o v) (heap_setCell_same w g o cs t v h) (by simp; omega)
    refine ⟨cs', h1, ?_⟩
    rw [h2, Array.toList_setIfInBounds, List.drop_set_of_lt (by omega), List.take_set, List.take_succ_eq_append_getElem (by simp; omega), List.set_append_right _ _ (by rw [List.length_take]; omega), List.length_take, List.length_cons]
    simp only [Array.length_toList]
    rw [Nat.min_eq_left (by omega), Nat.sub_self]
    simp only [List.set_cons_zero, List.append_assoc, List.cons_append, List.nil_append]
    rw [show o + 1 + r.length = o + (r.length + 1) by omega]
theorem Fr.setCells (g : Nat) : ∀ (vs : List Value) (o : Nat) (w : World), Fr (fun k => k = g) w (w.setCells g o vs)
  | [], _, w => Fr.refl _ w
  | v :: r, o, w => Fr.trans (S := fun k => k = g) (Fr.set (S := fun k => k = g) w ⟨g, o, none⟩ v rfl) (Fr.setCells g r (o + 1) _) (fun _ _ e => e)
theorem flat_len {α : Type} {s : Nat} : ∀ {xs : List (List α)}, (∀ r ∈ xs, r.length = s) → xs.flatten.length = xs.length * s
  | [], _ => by simp
  | x :: xs, h => by
    have ih := flat_len (xs := xs) fun r hr => h r (List.mem_cons_of_mem _ hr)
    have hx := h x (List.mem_cons_self ..)
    rw [List.flatten_cons, List.length_append, ih, hx, List.length_cons, Nat.succ_mul, Nat.add_comm]
theorem flat_take {α : Type} {s : Nat} : ∀ {xs : List (List α)} (i : Nat), (∀ r ∈ xs, r.length = s) → (xs.take i).flatten = xs.flatten.take (i * s)
  | [], i, _ => by simp
  | x :: xs, 0, _ => by simp
  | x :: xs, i + 1, h => by
    have ih := flat_take (xs := xs) i fun r hr => h r (List.mem_cons_of_mem _ hr)
    have hx := h x (List.mem_cons_self ..)
    have e1 : List.take (i * s + s) x = x := List.take_of_length_le (by omega)
    rw [List.take_succ_cons, List.flatten_cons, List.flatten_cons, ih, List.take_append, hx, Nat.succ_mul, e1, show i * s + s - s = i * s by omega]
theorem flat_drop {α : Type} {s : Nat} : ∀ {xs : List (List α)} (i : Nat), (∀ r ∈ xs, r.length = s) → (xs.drop i).flatten = xs.flatten.drop (i * s)
  | [], i, _ => by simp
  | x :: xs, 0, _ => by simp
  | x :: xs, i + 1, h => by
    have ih := flat_drop (xs := xs) i fun r hr => h r (List.mem_cons_of_mem _ hr)
    have hx := h x (List.mem_cons_self ..)
    have e1 : List.drop (i * s + s) x = [] := List.drop_eq_nil_of_le (by omega)
    rw [List.drop_succ_cons, List.flatten_cons, ih, List.drop_append, hx, Nat.succ_mul, e1, List.nil_append, show i * s + s - s = i * s by omega]
/-- 'clear(s)' on a slice of elements of some cells. -/
theorem run_clear_rows {P : Program} (w : World) (t e ty : TypeId) (z : Value) (ht : P.underlying t = some (.slice e)) (hv : ∀ w, (zeroValue e).run P w = .ok z w) (b o n c : Nat) (hn : 0 < n)
    (h1 : ∀ v ∈ (Builtin.zeroCells z.cells n).toList, v.oneCell' = true)
    (hc : ∀ j, j < (Builtin.zeroCells z.cells n).size → (w.cell? ⟨b, o + j, none⟩).isSome = true) (hf : ∀ j, j < (Builtin.zeroCells z.cells n).size → w.frozen? ⟨b, o + j, none⟩ = false) :
    (Builtin.clear_ #[t] ty #[.slice (some ⟨b, o, none⟩) n c]).run P w = .ok (.tuple #[]) (w.setCells b o (Builtin.zeroCells z.cells n).toList) := by
  have hst := run_storeCells_cells (P := P) b o (Builtin.zeroCells z.cells n).toList 0 w (by simpa using hc) (by simpa using hf) h1
  simp only [Nat.add_zero] at hst
  obtain ⟨m, rfl⟩ : ∃ m, n = m + 1 := ⟨n - 1, by omega⟩
  simp [Builtin.clear_, run_underlying ht, hv, hst]
end Go.Proofs.YtcpookgbneoilaaGreatDoor
