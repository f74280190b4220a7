/- An argument that is a slice of slices of ints, opened. -/
import Derived.Test.YtooepflfofgnnaaDoorOpenI
namespace Go.Proofs.YtooepflfofgnnaaDoor
open Go.ChangeShapes Go.WideShapes Go.ChangeAt Go.RowKit Go.Joins Go.Deep

set_option maxRecDepth 100000
/-- A row: where it lies, and its numbers. -/
structure Rw where
  a : Option Addr
  n : Nat
  cap : Nat
  zs : List Int
instance : Inhabited Rw := ⟨⟨none, 0, 0, []⟩⟩
structure IRowsAt (w : World) (a : Option Addr) (n cap : Nat) (rs : List Rw) : Prop where
  len : rs.length = n
  le : n ≤ cap
  cap : cap ≤ maxLen
  at_ : n ≠ 0 → ∃ b off, a = some ⟨b, off, none⟩ ∧ ∀ j r, rs[j]? = some r → w.cell? ⟨b, off + j, none⟩ = some (.slice r.a r.n r.cap)
  ints : ∀ r ∈ rs, IntsAt w r.a r.n r.cap r.zs
theorem IRowsAt.keep {w w' : World} {a : Option Addr} {n cap : Nat} {rs : List Rw} (h : IRowsAt w a n cap rs) (hb : Lat w w') : IRowsAt w' a n cap rs :=
  ⟨h.len, h.le, h.cap, fun hn => by
    obtain ⟨b, o, ha, hc⟩ := h.at_ hn
    exact ⟨b, o, ha, fun j r hr => hb.cell_at (hc j r hr)⟩, fun r hr => (h.ints r hr).keep hb⟩
section
variable {H : Type} {enc : TypeId × Value → H} {w : World} {base : Nat} {spare : Nat → Bool} {held : Bool}
theorem open_IRowsAt {d : DataW H} {ps : List MemPlace} {a : Option Addr} {n cap : Nat}
    (h : DataW.Trod enc Tryd.prog w base spare held 47 (.slice a n cap) d ps) : ∃ l, IRowsAt w a n cap l := by
  obtain ⟨fuel, hf⟩ := h
  rcases Go.Deep.open_slice1 Tryd.underlying47 (by kernel_rfl) hf with ⟨hcs, _⟩ | ⟨x, l, c, m, fu, V, D, Pl, hcs, _, hl, hm, hz, _, hcell⟩
  · simp [Value.cells] at hcs
    obtain ⟨rfl, rfl, rfl⟩ := hcs
    exact ⟨[], rfl, Nat.le_refl _, Nat.zero_le _, fun h => absurd rfl h, by simp⟩
  · simp [Value.cells] at hcs
    obtain ⟨rfl, rfl, rfl⟩ := hcs
    have hlz : n ≤ m := by rw [hz]; split <;> omega
    have hb : ∀ i, i < n → ∃ r : Rw, w.cell? (x.add i) = some (.slice r.a r.n r.cap) ∧ IntsAt w r.a r.n r.cap r.zs := fun i hi => by
      obtain ⟨h1, h2⟩ := hcell i (by omega)
      obtain ⟨pa, pn, pc, zs, hv, h3⟩ := open_IntsCell Tryd.underlying25 Tryd.underlying3 (by kernel_rfl) h2
      exact ⟨⟨pa, pn, pc, zs⟩, by rw [h1, hv], h3⟩
    obtain ⟨B, hB⟩ := Go.Deep.choose_lt hb
    refine ⟨(List.range n).map B, by simp, hl, hm, fun hn => ?_, fun p hp => ?_⟩
    · have h0 := (hB 0 (by omega)).1
      have hs : x = ⟨x.block, x.off, none⟩ := by
        have := World.cell?_spot h0
        cases x with | mk b o s => cases s <;> simp_all [Addr.add]
      refine ⟨x.block, x.off, by rw [← hs], fun j r hr => ?_⟩
      have hj : j < n := by have := (List.getElem?_eq_some_iff.1 hr).1; simpa using this
      have hpB : r = B j := by
        rw [List.getElem?_map, List.getElem?_range hj] at hr
        injection hr with hr
        exact hr.symm
      have c0 := (hB j hj).1
      rw [hs, Addr.add_lit] at c0
      subst hpB
      exact c0
    · obtain ⟨i, hi, rfl⟩ := List.mem_map.1 hp
      exact (hB i (List.mem_range.1 hi)).2
end
end Go.Proofs.YtooepflfofgnnaaDoor
