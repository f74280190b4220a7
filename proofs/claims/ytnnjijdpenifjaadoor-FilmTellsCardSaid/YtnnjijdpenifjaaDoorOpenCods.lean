/- An argument that is a slice of coded pictures, opened. -/
import Derived.Test.YtnnjijdpenifjaaDoorOpenCod
import Derived.Test.YtnnjijdpenifjaaDoorFilmRow
namespace Go.Proofs.YtnnjijdpenifjaaDoor
open Go.ChangeShapes Go.WideShapes Go.ChangeAt Go.RowKit Go.Joins Go.Deep

set_option maxRecDepth 100000
section
variable {H : Type} {enc : TypeId × Value → H} {w : World} {base : Nat} {spare : Nat → Bool} {held : Bool}
theorem open_CodsAt {d : DataW H} {ps : List MemPlace} {a : Option Addr} {n cap : Nat}
    (h : DataW.Trod enc Tryd.prog w base spare held 74 (.slice a n cap) d ps) : ∃ l, CodsAt w a n cap l := by
  obtain ⟨fuel, hf⟩ := h
  rcases open_slice Tryd.underlying74 hf with h0 | ⟨x, l, c, m, k, D, Pl, hcs, _, hl, hm, hmm, hx, hi⟩
  · have hcs := h0.1
    simp [Value.cells] at hcs
    obtain ⟨rfl, rfl, rfl⟩ := hcs
    exact ⟨[], CodsAt.nil w⟩
  · simp [Value.cells] at hcs
    obtain ⟨rfl, rfl, rfl⟩ := hcs
    have hlm : n ≤ m := by rw [hmm]; split <;> omega
    have hb : ∀ i, i < n → ∃ q : Cd, (w.cell? (x.add (i * 4 + 0)) = some (.bool q.c.al) ∧ w.cell? (x.add (i * 4 + 1)) = some (.int .i64 q.c.x) ∧ w.cell? (x.add (i * 4 + 2)) = some (.int .i64 q.c.y) ∧ w.cell? (x.add (i * 4 + 3)) = some (.slice q.a q.n q.cap)) ∧ CodAt w q.c.x q.c.y q.a q.n q.cap q.c.rs := fun i hin => by
      obtain ⟨cs', hc, ht'⟩ := hi i (by omega)
      rw [show Tryd.prog.cellsOf 53 = 4 by kernel_rfl] at hc
      obtain ⟨_, hcl, hat⟩ := World.cells?_some hc
      obtain ⟨al, x', y', pa, pn, pc, zs, hcs', hcod⟩ := open_codCells ht'
      subst hcs'
      refine ⟨⟨⟨al, x', y', zs⟩, pa, pn, pc⟩, ⟨?_, ?_, ?_, ?_⟩, hcod⟩
      · rw [← Go.Deep.add_add, hat 0 (by omega)]; rfl
      · rw [← Go.Deep.add_add, hat 1 (by omega)]; rfl
      · rw [← Go.Deep.add_add, hat 2 (by omega)]; rfl
      · rw [← Go.Deep.add_add, hat 3 (by omega)]; rfl
    obtain ⟨B, hB⟩ := Go.Deep.choose_lt hb
    refine ⟨(List.range n).map B, by simp, hl, hm, fun hn => ?_, fun p hp => ?_⟩
    · have h0 := (hB 0 (by omega)).1.1
      have hs : x = ⟨x.block, x.off, none⟩ := by
        have := World.cell?_spot h0
        cases x with | mk b o s => cases s <;> simp_all [Addr.add]
      refine ⟨x.block, x.off, by rw [← hs], fun j p hp => ?_⟩
      have hj : j < n := by have := (List.getElem?_eq_some_iff.1 hp).1; simpa using this
      have hpB : p = B j := by
        rw [List.getElem?_map, List.getElem?_range hj] at hp
        injection hp with hp
        exact hp.symm
      obtain ⟨c0, c1, c2, c3⟩ := (hB j hj).1
      rw [hs, Addr.add_lit] at c0 c1 c2 c3
      subst hpB
      exact ⟨by simpa using c0, by rw [Nat.add_assoc]; exact c1, by rw [Nat.add_assoc]; exact c2, by rw [Nat.add_assoc]; exact c3⟩
    · obtain ⟨i, hi, rfl⟩ := List.mem_map.1 hp
      exact (hB i (List.mem_range.1 hi)).2.pix
end
end Go.Proofs.YtnnjijdpenifjaaDoor
