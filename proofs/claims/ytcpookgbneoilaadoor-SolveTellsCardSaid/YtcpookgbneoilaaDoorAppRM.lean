/- append of a whole slice of structs onto a slice of the call's own; what is appended may be nil. -/
import Derived.Test.YtcpookgbneoilaaDoorFr
namespace Go.Proofs.YtcpookgbneoilaaDoor
open Go.ChangeShapes Go.WideShapes Go.ChangeAt Go.RowKit

theorem flat_inv {α : Type} {size : Nat} : ∀ {xs : List (List α)} {j : Nat} {u : α}, (∀ r ∈ xs, r.length = size) → xs.flatten[j]? = some u → ∃ q i r, xs[q]? = some r ∧ r[i]? = some u ∧ j = q * size + i
  | [], j, u, _, h => by simp at h
  | x :: xs, j, u, hs, h => by
    have hx := hs x (List.mem_cons_self ..)
    rw [List.flatten_cons] at h
    by_cases hj : j < x.length
    · rw [List.getElem?_append_left hj] at h
      exact ⟨0, j, x, rfl, h, by omega⟩
    · rw [List.getElem?_append_right (by omega)] at h
      obtain ⟨q, i, r, h1, h2, h3⟩ := flat_inv (fun r hr => hs r (List.mem_cons_of_mem _ hr)) h
      exact ⟨q + 1, i, r, by simpa using h1, h2, by rw [Nat.succ_mul]; omega⟩
theorem run_appR_void {P : Program} {w : World} {B : Nat} {t ty e : TypeId} {i : TypeInfo} {size : Nat} (ht : P.underlying t = some (.slice e)) (hi : P.info? e = some i)
    {v : Value} {xs : List (List Value)} (hown : OwnR w B e size v xs) (c : Nat) : (Builtin.append_ #[t, t] ty #[v, .slice none 0 c]).run P w = .ok v w := by
  rcases hown.2.2 with ⟨rfl, h0⟩ | ⟨g, cap, cur, rfl, _, _, hnc, _⟩
  · simp [Builtin.append_, run_underlying ht, sizeOf, typeInfo, hi, Builtin.lenOf, Builtin.firstCells]
  · simp [Builtin.append_, run_underlying ht, sizeOf, typeInfo, hi, Builtin.lenOf, Builtin.firstCells, hnc, storeCells]
theorem run_app_rows {P : Program} (w : World) (B : Nat) (t ty e : TypeId) (z : Value) (size bytes : Nat) (ht : P.underlying t = some (.slice e)) (hinfo : (P.info? e).map (fun i => (i.zero, i.size, i.bytes)) = some (some z, size, bytes)) (hz : z.cells.size = size) (hs0 : 0 < size) (hby : bytes ≤ 64)
    (v : Value) (xs : List (List Value)) (hown : OwnR w B e size v xs) (A : Option Addr) (m c : Nat) (ys : List (List Value)) (hr : RowsAt w size A m c ys) (h1 : ∀ r ∈ ys, ∀ u ∈ r, u.oneCell' = true) (hn : xs.length + m < 1000000000000) (hB : B ≤ w.heap.size) :
    ∃ v' w', (Builtin.append_ #[t, t] ty #[v, .slice A m c]).run P w = .ok v' w' ∧ OwnR w' B e size v' (xs ++ ys) ∧ w.grownBy w' v.ownBlock ∧ (v'.ownBlock = v.ownBlock ∨ v'.ownBlock = some w.heap.size) := by
  obtain ⟨i0, hi, hz0, hz1, hz2⟩ := info_parts hinfo
  have hl := hr.len
  rcases A with _ | ad
  · have hm : m = 0 := by
      rcases Nat.eq_zero_or_pos m with h0 | h0
      · exact h0
      · obtain ⟨b, o, h, _⟩ := hr.at_ (by omega)
        cases h
    subst hm
    have hy : ys = [] := List.eq_nil_of_length_eq_zero hl
    subst hy
    exact ⟨v, w, run_appR_void ht hi hown c, by rw [List.append_nil]; exact hown, World.grownBy.refl w _, .inl rfl⟩
  · have hlen : ∀ r ∈ ys, r.length = size := fun r hr' => by
      obtain ⟨j, hj, e⟩ := List.getElem_of_mem hr'
      obtain ⟨b, o, _, hc⟩ := hr.at_ (by omega)
      exact (hc j r (by rw [List.getElem?_eq_getElem hj, e])).1
    have hcells : ∀ j u, ys.flatten[j]? = some u → w.cell? (ad.add j) = some u := by
      intro j u hu
      obtain ⟨q, i, r, g1, g2, g3⟩ := flat_inv hlen hu
      have hq : q < ys.length := (List.getElem?_eq_some_iff.1 g1).1
      obtain ⟨b, o, h, hc⟩ := hr.at_ (by omega)
      injection h with h
      subst h
      rw [Addr.add_lit, g3]
      exact (hc q r g1).2 i u g2
    obtain ⟨v', w', hrun, h2, h3, _, h5⟩ := run_append_own_at (P := P) w B t ty e i0 z size bytes ht hi hz0 hz1 hz2 hz hs0 v xs.length xs.flatten hown.2 ad m c ys.flatten (by rw [flat_len hlen, hl]) hcells (fun u hu => by
        obtain ⟨r, hr', hur⟩ := List.mem_flatten.1 hu
        exact h1 r hr' u hur) (by unfold maxLen; omega)
      (by calc (xs.length + m) * bytes ≤ (xs.length + m) * 64 := Nat.mul_le_mul_left _ hby
            _ ≤ 140737488355328 := by omega) hB
    refine ⟨v', w', hrun, ⟨fun r hr' => ?_, ?_⟩, h3, h5⟩
    · rcases List.mem_append.1 hr' with h | h
      · exact hown.1 r h
      · exact hlen r h
    · rw [List.length_append, hl, List.flatten_append]; exact h2
theorem wpList_appRM {P : Program} (wr : World) (B : Nat) {ops : Array Oper} {rest : List Oper} {o : Oper} {a : Act} {Q : Exit → Act → World → Prop}
    (hg : o.guard = none) (s x : Operand) (t : TypeId) (ho : o.op = .call { callee := .builtin .append, args := #[s, x], argTypes := #[t, t] })
    (e : TypeId) (z : Value) (size bytes : Nat) (ht : P.underlying t = some (.slice e)) (hinfo : (P.info? e).map (fun i => (i.zero, i.size, i.bytes)) = some (some z, size, bytes)) (hz : z.cells.size = size) (hs0 : 0 < size) (hby : bytes ≤ 64)
    (v : Value) (xs : List (List Value)) (hs : a.eval s = v) (hown : OwnR wr B e size v xs) (A : Option Addr) (m c : Nat) (ys : List (List Value)) (hx : a.eval x = .slice A m c) (hr : RowsAt wr size A m c ys) (h1 : ∀ r ∈ ys, ∀ u ∈ r, u.oneCell' = true)
    (hn : xs.length + m < 1000000000000) (hB : B ≤ wr.heap.size)
    (K : ∀ v' w', OwnR w' B e size v' (xs ++ ys) → Fr (fun k => v.ownBlock = some k) wr w' → (v'.ownBlock = v.ownBlock ∨ v'.ownBlock = some wr.heap.size) → wpList P ops Q rest (a.put o.dst v') w') :
    wpList P ops Q (o :: rest) a wr := by
  obtain ⟨v', w', hrun, h2, h3, h4⟩ := run_app_rows wr B t o.type e z size bytes ht hinfo hz hs0 hby v xs hown A m c ys hr h1 hn hB
  refine wpList_plain hg fun K' hK => ?_
  unfold Oper.wp execOp
  simp only [ho, resolve, invoke, builtin, Sem.run_bind, Sem.run_pure, Result.andThen_ok, List.map_toArray, List.map_cons, List.map_nil, hs, hx, hrun]
  exact hK _ _ (K v' w' h2 ⟨h3.os, h3.tape, h3.output, h3.size, fun k hk hne => h3.block k hk (fun e => hne e.symm)⟩ h4)
theorem RowsAt.from_ {w : World} {size : Nat} {a : Option Addr} {n cap : Nat} {xs : List (List Value)} (h : RowsAt w size a n cap xs) (k : Nat) (hk : k ≤ n) : RowsAt w size (if cap = k then a else a.map (·.add (k * size))) (n - k) (cap - k) (xs.drop k) := by
  have hl := h.len
  have hle := h.le
  refine ⟨by rw [List.length_drop, hl], by omega, by have := h.cap; unfold maxLen at this ⊢; omega, fun hne => ?_⟩
  obtain ⟨b, o, rfl, hc⟩ := h.at_ (by omega)
  rw [if_neg (by omega)]
  refine ⟨b, o + k * size, by rw [Option.map_some, Addr.add_lit], fun j r hr => ?_⟩
  rw [List.getElem?_drop] at hr
  obtain ⟨h1, h2⟩ := hc (k + j) r hr
  refine ⟨h1, fun i u hu => ?_⟩
  have := h2 i u hu
  rw [Nat.add_mul] at this
  rw [show o + k * size + (j * size + i) = o + (k * size + j * size + i) by omega]; exact this
end Go.Proofs.YtcpookgbneoilaaDoor
