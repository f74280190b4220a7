/- One append of a struct to an own row, as one step of a region that draws its order. -/
import Derived.Test.YtcpookgbneoilaaDoorOwnR
import Derived.Test.YtcpookgbneoilaaDoorGate
import Derived.Deep.AppendLies
namespace Go.Proofs.YtcpookgbneoilaaDoor
open Go.ChangeShapes Go.WideShapes Go.ChangeAt Go.RowKit

theorem appR_step {P : Program} (wr : World) (B : Nat) {ops : Array Oper} {o : Oper} {a : Act} {K : Act → World → Prop} {Q : Exit → Act → World → Prop} {E : Prop}
    (hg : o.guard = none) (s x : Operand) (t : TypeId) (ho : o.op = .call { callee := .builtin .append, args := #[s, x], argTypes := #[t, t] })
    (e : TypeId) (z : Value) (size bytes : Nat) (ht : P.underlying t = some (.slice e)) (hinfo : (P.info? e).map (fun i => (i.zero, i.size, i.bytes)) = some (some z, size, bytes)) (hz : z.cells.size = size) (hs0 : 0 < size) (hby : bytes ≤ 64)
    (v : Value) (xs : List (List Value)) (r : Array Value) (hs : a.eval s = v) (hown : OwnR wr B e size v xs) (hr : r.size = size) (hx : a.eval x = .slice (some ⟨wr.heap.size, 0, none⟩) 1 1) (hu : ∀ u ∈ r.toList, u.oneCell' = true)
    (hn : xs.length < 1000000000000) (hB : B ≤ wr.heap.size)
    (h : ∀ g cap w', OwnR w' B e size (.slice (some ⟨g, 0, none⟩) (xs.length + 1) cap) (xs ++ [r.toList]) → Below B wr w' → AppStep wr w' v (.slice (some ⟨g, 0, none⟩) (xs.length + 1) cap) → K (a.put o.dst (.slice (some ⟨g, 0, none⟩) (xs.length + 1) cap)) w') :
    if Region.wanted o (yielded ops a.tmps) = true then Oper.wp P o a (wr.alloc (.cells r e)) K Q else E := by
  obtain ⟨i0, hi, hz0, hz1, hz2⟩ := info_parts hinfo
  obtain ⟨hsz, hown⟩ := hown
  refine step_append_lies (wr.alloc (.cells r e)) hg s x t ho B e i0 z size bytes ht hi hz0 hz1 hz2 hz hs0 v xs.length xs.flatten hs (World.ownsRow.alloc hown _) ⟨wr.heap.size, 0, none⟩ 1 1 r.toList hx (by simp [hr]) ?_ hu (by omega) ?_ ?_ ?_ _ rfl ?_
  · intro j u' hj
    rw [Addr.add_lit, World.cell?_alloc_at _ _ _ _ rfl, Nat.zero_add, ← Array.getElem?_toList]; exact hj
  · unfold maxLen; omega
  · calc (xs.length + 1) * bytes ≤ (xs.length + 1) * 64 := Nat.mul_le_mul_left _ hby
      _ ≤ 140737488355328 := by omega
  · simp; omega
  · intro g cap w' hown' hgrow hloc _
    refine h g cap w' ⟨fun r' hr' => ?_, ?_⟩ ?_ ⟨fun k hk hne => ?_, ?_, ?_⟩
    · rcases List.mem_append.1 hr' with h | h
      · exact hsz r' h
      · rw [List.mem_singleton.1 h]; simpa using hr
    · rw [List.length_append, List.flatten_append, List.flatten_singleton]; exact hown'
    · refine Below.grown (Below.alloc (Below.refl B wr) hB _) hgrow (by simp; omega) ?_
      intro k hk
      exact (World.ownsRow.lt hown k hk).1
    · rw [hgrow.block k (by simp; omega) hne]; exact heap_alloc_old wr _ hk
    · have := hgrow.size; simp at this; omega
    · rcases hloc with hl | hl
      · exact .inl hl.symm
      · exact .inr ⟨g, rfl, by rw [hl]; simp⟩
end Go.Proofs.YtcpookgbneoilaaDoor
