/- Slices of structs that a call makes itself: rows of so many cells; the laws of append, of reading, of what later calls leave. -/
import Derived.Test.YtcpookgbneoilaaGreatDoorOwnC
import Derived.Test.YtcpookgbneoilaaGreatDoorAppG
import Derived.Test.YtcpookgbneoilaaGreatDoorOnly
namespace Go.Proofs.YtcpookgbneoilaaGreatDoor
open Go.ChangeShapes Go.WideShapes Go.ChangeAt Go.RowKit

/-- A slice value of n elements of so many cells each reads as these rows. -/
structure RowsAt (w : World) (size : Nat) (a : Option Addr) (n cap : Nat) (xs : List (List Value)) : Prop where
  len : xs.length = n
  le : n ≤ cap
  cap : cap ≤ maxLen
  at_ : n ≠ 0 → ∃ b off, a = some ⟨b, off, none⟩ ∧ ∀ j r, xs[j]? = some r → r.length = size ∧ ∀ i u, r[i]? = some u → w.cell? ⟨b, off + (j * size + i), none⟩ = some u
theorem RowsAt.nil (w : World) (size : Nat) : RowsAt w size none 0 0 [] := ⟨rfl, Nat.le_refl _, Nat.zero_le _, fun h => absurd rfl h⟩
theorem RowsAt.keep {w w' : World} {size : Nat} {a : Option Addr} {n cap : Nat} {xs : List (List Value)} (h : RowsAt w size a n cap xs) (hb : Lat w w') : RowsAt w' size a n cap xs :=
  ⟨h.len, h.le, h.cap, fun hn => by
    obtain ⟨b, o, ha, hc⟩ := h.at_ hn
    exact ⟨b, o, ha, fun j r hr => ⟨(hc j r hr).1, fun i u hu => hb.cell_at ((hc j r hr).2 i u hu)⟩⟩⟩
theorem RowsAt.take {w : World} {size : Nat} {a : Option Addr} {n cap : Nat} {xs : List (List Value)} (h : RowsAt w size a n cap xs) {m : Nat} (hm : m ≤ n) : RowsAt w size a m cap (xs.take m) :=
  ⟨by rw [List.length_take, h.len]; omega, Nat.le_trans hm h.le, h.cap, fun hn => by
    obtain ⟨b, o, ha, hc⟩ := h.at_ (by omega)
    refine ⟨b, o, ha, fun j r hr => hc j r ?_⟩
    rw [List.getElem?_take] at hr
    split at hr
    · exact hr
    · cases hr⟩

def OwnR (w : World) (B : Nat) (e : TypeId) (size : Nat) (v : Value) (xs : List (List Value)) : Prop := (∀ r ∈ xs, r.length = size) ∧ w.ownsRow B e size v xs.length xs.flatten
theorem OwnR.nil (w : World) (B : Nat) (e : TypeId) (size : Nat) : OwnR w B e size (.slice none 0 0) [] := ⟨by simp, World.ownsRow_nil w B e size⟩
theorem OwnR.lt {w : World} {B : Nat} {e : TypeId} {size : Nat} {v : Value} {xs : List (List Value)} (h : OwnR w B e size v xs) : ∀ k, v.ownBlock = some k → B ≤ k ∧ k < w.heap.size := World.ownsRow.lt h.2
theorem OwnR.below {w w' : World} {B C : Nat} {e : TypeId} {size : Nat} {v : Value} {xs : List (List Value)} (h : OwnR w B e size v xs) (hb : Below C w w') (hl : ∀ k, v.ownBlock = some k → k < C) : OwnR w' B e size v xs := by
  refine ⟨h.1, ?_⟩
  obtain ⟨h1, h2⟩ := h.2
  refine ⟨h1, ?_⟩
  rcases h2 with h2 | ⟨g, cap, cur, rfl, hg, hh, rest⟩
  · exact .inl h2
  · exact .inr ⟨g, cap, cur, rfl, hg, by rw [hb.block g (hl g rfl)]; exact hh, rest⟩
theorem OwnR.keep {w w' : World} {B : Nat} {e : TypeId} {size : Nat} {v : Value} {xs : List (List Value)} (h : OwnR w B e size v xs) (hb : Lat w w') : OwnR w' B e size v xs :=
  h.below hb (fun k hk => (h.lt k hk).2)
theorem OwnR.only {g : Nat} {w w' : World} {B : Nat} {e : TypeId} {size : Nat} {v : Value} {xs : List (List Value)} (h : OwnR w B e size v xs) (ho : Only g w w') (hg : g < B) : OwnR w' B e size v xs := by
  refine ⟨h.1, ?_⟩
  obtain ⟨h1, h2⟩ := h.2
  refine ⟨h1, ?_⟩
  rcases h2 with h2 | ⟨k, cap, cur, rfl, hb, hh, rest⟩
  · exact .inl h2
  · exact .inr ⟨k, cap, cur, rfl, hb, by rw [ho.block k (by omega)]; exact hh, rest⟩
theorem flat_get {α : Type} {size : Nat} : ∀ {xs : List (List α)} {j : Nat} {r : List α} {i : Nat} {u : α}, (∀ r ∈ xs, r.length = size) → xs[j]? = some r → r[i]? = some u → xs.flatten[j * size + i]? = some u
  | [], j, r, i, u, _, h, _ => by simp at h
  | x :: xs, 0, r, i, u, hs, h, hu => by
    simp at h; subst h
    have hi : i < x.length := (List.getElem?_eq_some_iff.1 hu).1
    rw [Nat.zero_mul, Nat.zero_add, List.flatten_cons, List.getElem?_append_left hi]; exact hu
  | x :: xs, j + 1, r, i, u, hs, h, hu => by
    simp at h
    have hx := hs x (List.mem_cons_self ..)
    have ih := flat_get (fun r hr => hs r (List.mem_cons_of_mem _ hr)) h hu
    have e : (j + 1) * size + i = x.length + (j * size + i) := by rw [Nat.succ_mul, hx]; omega
    rw [e, List.flatten_cons, List.getElem?_append_right (by omega), Nat.add_sub_cancel_left]; exact ih
/-- Shown to a caller. -/
theorem OwnR.slice {w : World} {B : Nat} {e : TypeId} {size : Nat} {v : Value} {xs : List (List Value)} {n : Nat} (h : OwnR w B e size v xs) (hn : xs.length = n) : ∃ a cap, v = .slice a n cap ∧ RowsAt w size a n cap xs := by
  subst hn
  obtain ⟨hs, h0⟩ := h
  have h1 := h0
  obtain ⟨_, h2⟩ := h0
  rcases h2 with ⟨rfl, hz⟩ | ⟨g, cap, cur, rfl, hg, hh, hn, hc, hs', ht⟩
  · refine ⟨none, 0, by rw [hz], rfl, by omega, Nat.zero_le _, fun hn => absurd hz hn⟩
  · refine ⟨_, cap, rfl, rfl, hn, hc, fun _ => ⟨g, 0, rfl, fun j r hr => ⟨hs r (List.mem_of_getElem? hr), fun i u hu => ?_⟩⟩⟩
    have := World.ownsRow.cells h1 (g := g) rfl (j * size + i) u (flat_get hs hr hu)
    rw [Addr.add_lit] at this
    exact this

/-- ONE APPEND of one element of so many cells. -/
theorem appR {P : Program} (wr : World) (B : Nat) {ops : Array Oper} {rest : List Oper} {o : Oper} {a : Act} {Q : Exit → Act → World → Prop}
    (hg : o.guard = none) (s x : Operand) (t : TypeId) (ho : o.op = .call { callee := .builtin .append, args := #[s, x], argTypes := #[t, t] })
    (e : TypeId) (z : Value) (size bytes : Nat) (ht : P.underlying t = some (.slice e)) (hinfo : (P.info? e).map (fun i => (i.zero, i.size, i.bytes)) = some (some z, size, bytes)) (hz : z.cells.size = size) (hs0 : 0 < size) (hby : bytes ≤ 64)
    (v : Value) (xs : List (List Value)) (r : Array Value) (hs : a.eval s = v) (hown : OwnR wr B e size v xs) (hr : r.size = size) (hx : a.eval x = .slice (some ⟨wr.heap.size, 0, none⟩) 1 1) (hu : ∀ u ∈ r.toList, u.oneCell' = true)
    (hn : xs.length < 1000000000000) (hB : B ≤ wr.heap.size)
    (K : ∀ v' w', OwnR w' B e size v' (xs ++ [r.toList]) → Below B wr w' → AppStep wr w' v v' → wpList P ops Q rest (a.put o.dst v') w') :
    wpList P ops Q (o :: rest) a (wr.alloc (.cells r e)) := by
  obtain ⟨i0, hi, hz0, hz1, hz2⟩ := info_parts hinfo
  obtain ⟨hsz, hown⟩ := hown
  refine wpList_append_own_at (wr.alloc (.cells r e)) hg s x t ho B e i0 z size bytes ht hi hz0 hz1 hz2 hz hs0 v xs.length xs.flatten hs (World.ownsRow.alloc hown _) ⟨wr.heap.size, 0, none⟩ 1 1 r.toList hx (by simp [hr]) ?_ hu ?_ ?_ ?_ ?_
  · intro j u' hj
    rw [Addr.add_lit, World.cell?_alloc_at _ _ _ _ rfl, Nat.zero_add, ← Array.getElem?_toList]; exact hj
  · unfold maxLen; omega
  · calc (xs.length + 1) * bytes ≤ (xs.length + 1) * 64 := Nat.mul_le_mul_left _ hby
      _ ≤ 140737488355328 := by omega
  · simp; omega
  · intro v' w' hown' hgrow _ hloc
    refine K v' w' ⟨fun r' hr' => ?_, ?_⟩ ?_ ⟨fun k hk hne => ?_, ?_, ?_⟩
    · rcases List.mem_append.1 hr' with h | h
      · exact hsz r' h
      · rw [List.mem_singleton.1 h]; simpa using hr
    · rw [List.length_append, List.flatten_append, List.flatten_singleton]; exact hown'
    · refine Below.grown (Below.alloc (Below.refl B wr) hB _) hgrow (by simp; omega) ?_
      intro k hk
      exact (World.ownsRow.lt hown k hk).1
    · rw [hgrow.block k (by simp; omega) hne]; exact heap_alloc_old wr _ hk
    · have := hgrow.size; simp at this; omega
    · rcases hloc with hl | hl
      · exact .inl hl
      · exact .inr ⟨_, hl, by simp⟩
end Go.Proofs.YtcpookgbneoilaaGreatDoor
