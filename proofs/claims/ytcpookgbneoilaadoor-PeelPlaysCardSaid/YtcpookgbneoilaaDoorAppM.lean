/- append of a whole slice onto a slice of the call's own; what is appended may be nil. -/
import Derived.Test.YtcpookgbneoilaaDoorAppG
namespace Go.Proofs.YtcpookgbneoilaaDoor
open Go.ChangeShapes Go.WideShapes Go.ChangeAt Go.RowKit

theorem run_app_void {P : Program} {w : World} {B : Nat} {t ty e : TypeId} {i : TypeInfo} (ht : P.underlying t = some (.slice e)) (hi : P.info? e = some i)
    {v : Value} {xs : List Value} (hown : Own w B e v xs) (c : Nat) : (Builtin.append_ #[t, t] ty #[v, .slice none 0 c]).run P w = .ok v w := by
  rcases hown.2 with ⟨rfl, h0⟩ | ⟨g, cap, cur, rfl, _, _, hnc, _⟩
  · simp [Builtin.append_, run_underlying ht, sizeOf, typeInfo, hi, Builtin.lenOf, Builtin.firstCells]
  · simp [Builtin.append_, run_underlying ht, sizeOf, typeInfo, hi, Builtin.lenOf, Builtin.firstCells, hnc, storeCells]
theorem run_app_many {P : Program} (w : World) (B : Nat) (t ty e : TypeId) (z : Value) (bytes : Nat) (ht : P.underlying t = some (.slice e)) (hinfo : (P.info? e).map (fun i => (i.zero, i.size, i.bytes)) = some (some z, 1, bytes)) (hz : z.cells.size = 1) (hby : bytes ≤ 16)
    (v : Value) (xs : List Value) (hown : Own w B e v xs) (A : Option Addr) (m c : Nat) (ys : List Value) (hl : ys.length = m) (hr : RowAt w A m c (fun j => ys.getD j undef)) (h1 : ∀ u ∈ ys, u.oneCell' = true) (hn : xs.length + m < 1000000000000) (hB : B ≤ w.heap.size) :
    ∃ v' w', (Builtin.append_ #[t, t] ty #[v, .slice A m c]).run P w = .ok v' w' ∧ Own w' B e v' (xs ++ ys) ∧ w.grownBy w' v.ownBlock ∧ (v'.ownBlock = v.ownBlock ∨ v'.ownBlock = some w.heap.size) := by
  obtain ⟨i0, hi, hz0, hz1, hz2⟩ := info_parts hinfo
  rcases A with _ | ad
  · have hm : m = 0 := by
      rcases Nat.eq_zero_or_pos m with h0 | h0
      · exact h0
      · obtain ⟨b, o, h, _⟩ := hr.at_ (by omega)
        cases h
    subst hm
    have hy : ys = [] := List.eq_nil_of_length_eq_zero hl
    subst hy
    exact ⟨v, w, run_app_void ht hi hown c, by rw [List.append_nil]; exact hown, World.grownBy.refl w _, .inl rfl⟩
  · have hcells : ∀ j u, ys[j]? = some u → w.cell? (ad.add j) = some u := by
      intro j u hu
      have hj : j < m := by rw [← hl]; exact (List.getElem?_eq_some_iff.1 hu).1
      obtain ⟨b, o, h, hc⟩ := hr.at_ (by omega)
      injection h with h
      subst h
      rw [Addr.add_lit, hc j hj, List.getD_eq_getElem?_getD, hu]; rfl
    obtain ⟨v', w', hrun, h2, h3, _, h5⟩ := run_append_own_at (P := P) w B t ty e i0 z 1 bytes ht hi hz0 hz1 hz2 hz (by decide) v xs.length xs hown ad m c ys (by omega) hcells h1 (by unfold maxLen; omega)
      (by calc (xs.length + m) * bytes ≤ (xs.length + m) * 16 := Nat.mul_le_mul_left _ hby
            _ ≤ 140737488355328 := by omega) hB
    refine ⟨v', w', hrun, ?_, h3, h5⟩
    unfold Own; rw [List.length_append, hl]; exact h2
theorem AppStep.of {wr w' : World} {v v' : Value} (hgrow : wr.grownBy w' v.ownBlock) (hloc : v'.ownBlock = v.ownBlock ∨ v'.ownBlock = some wr.heap.size) : AppStep wr w' v v' :=
  ⟨fun k hk hne => hgrow.block k hk hne, hgrow.size, hloc.imp id fun h => ⟨_, h, Nat.le_refl _⟩⟩

/-- ONE APPEND of a whole slice. -/
theorem wpList_appM {P : Program} (wr w0 : World) (B : Nat) {ops : Array Oper} {rest : List Oper} {o : Oper} {a : Act} {Q : Exit → Act → World → Prop}
    (hg : o.guard = none) (s x : Operand) (t : TypeId) (ho : o.op = .call { callee := .builtin .append, args := #[s, x], argTypes := #[t, t] })
    (e : TypeId) (z : Value) (bytes : Nat) (ht : P.underlying t = some (.slice e)) (hinfo : (P.info? e).map (fun i => (i.zero, i.size, i.bytes)) = some (some z, 1, bytes)) (hz : z.cells.size = 1) (hby : bytes ≤ 16)
    (v : Value) (xs : List Value) (hs : a.eval s = v) (hown : Own wr B e v xs) (A : Option Addr) (m c : Nat) (ys : List Value) (hx : a.eval x = .slice A m c) (hl : ys.length = m) (hr : RowAt wr A m c (fun j => ys.getD j undef)) (h1 : ∀ u ∈ ys, u.oneCell' = true)
    (hn : xs.length + m < 1000000000000) (hB : B = w0.heap.size) (hb : Below B w0 wr)
    (K : ∀ v' w', Own w' B e v' (xs ++ ys) → Below B w0 w' → AppStep wr w' v v' → wpList P ops Q rest (a.put o.dst v') w') :
    wpList P ops Q (o :: rest) a wr := by
  have hsz := hb.size
  obtain ⟨v', w', hrun, h2, h3, h4⟩ := run_app_many wr B t o.type e z bytes ht hinfo hz hby v xs hown A m c ys hl hr h1 hn (by omega)
  refine wpList_plain hg fun K' hK => ?_
  unfold Oper.wp execOp
  simp only [ho, resolve, invoke, builtin, Sem.run_bind, Sem.run_pure, Result.andThen_ok, List.map_toArray, List.map_cons, List.map_nil, hs, hx, hrun]
  exact hK _ _ (K v' w' h2 (Below.grown hb h3 (by omega) fun k hk => (Own.lt hown k hk).1) (AppStep.of h3 h4))
theorem RowAt.ofInts {w : World} {a : Option Addr} {n cap : Nat} {zs : List Int} (h : IntsAt w a n cap zs) : RowAt w a n cap (fun j => (zs.map (Value.int .i64)).getD j undef) :=
  ⟨h.row.le, h.row.cap, fun hn => by
    obtain ⟨b, o, ha, hc⟩ := h.row.at_ hn
    refine ⟨b, o, ha, fun j hj => ?_⟩
    have hl := h.len
    have e : (zs.map (Value.int .i64)).getD j undef = .int .i64 (zs.getD j 0) := by
      rw [List.getD_eq_getElem?_getD, List.getElem?_map, List.getD_eq_getElem?_getD, List.getElem?_eq_getElem (by omega)]; rfl
    rw [hc j hj, e]⟩
theorem RowAt.ofStrs {w : World} {a : Option Addr} {n cap : Nat} {zs : List ByteArray} (h : StrsAt w a n cap zs) : RowAt w a n cap (fun j => (zs.map Value.string).getD j undef) :=
  ⟨h.row.le, h.row.cap, fun hn => by
    obtain ⟨b, o, ha, hc⟩ := h.row.at_ hn
    refine ⟨b, o, ha, fun j hj => ?_⟩
    have hl := h.len
    have e : (zs.map Value.string).getD j undef = .string (zs.getD j ByteArray.empty) := by
      rw [List.getD_eq_getElem?_getD, List.getElem?_map, List.getD_eq_getElem?_getD, List.getElem?_eq_getElem (by omega)]; rfl
    rw [hc j hj, e]⟩
theorem app_ints (wr w0 : World) (B : Nat) {ops : Array Oper} {rest : List Oper} {o : Oper} {a : Act} {Q : Exit → Act → World → Prop}
    (hg : o.guard = none) (s x : Operand) (ho : o.op = .call { callee := .builtin .append, args := #[s, x], argTypes := #[32, 32] })
    (v : Value) (zs ys : List Int) (hs : a.eval s = v) (hown : OwnInts wr B v zs) (A : Option Addr) (m c : Nat) (hx : a.eval x = .slice A m c) (hat : IntsAt wr A m c ys)
    (hn : zs.length + m < 1000000000000) (hB : B = w0.heap.size) (hb : Below B w0 wr)
    (K : ∀ v' w', OwnInts w' B v' (zs ++ ys) → Below B w0 w' → AppStep wr w' v v' → wpList Tryd.prog ops Q rest (a.put o.dst v') w') :
    wpList Tryd.prog ops Q (o :: rest) a wr :=
  wpList_appM wr w0 B hg s x 32 ho 3 (.int .i64 0) 8 Tryd.underlying32 info_int rfl (by decide) v _ hs hown A m c (ys.map (Value.int .i64)) hx (by rw [List.length_map]; exact hat.len) (RowAt.ofInts hat)
    (fun u hu => by obtain ⟨y, _, rfl⟩ := List.mem_map.1 hu; rfl) (by simpa using hn) hB hb
    (fun v' w' h1 h2 h3 => K v' w' (by simpa [OwnInts] using h1) h2 h3)
end Go.Proofs.YtcpookgbneoilaaDoor
