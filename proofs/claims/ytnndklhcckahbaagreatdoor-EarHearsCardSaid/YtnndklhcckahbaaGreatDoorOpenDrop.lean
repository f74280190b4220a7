/- Arguments that are drops, and slices of drops, opened. -/
import Derived.Test.YtnndklhcckahbaaGreatDoorOpenI
import Derived.Test.YtnndklhcckahbaaGreatDoorOwnR
namespace Go.Proofs.YtnndklhcckahbaaGreatDoor
open Go.ChangeShapes Go.WideShapes Go.ChangeAt Go.RowKit Go.Joins Go.Deep

set_option maxRecDepth 100000
/-- A drop: its seed and its bytes. -/
structure Dr where
  s : Int
  t : ByteArray
instance : Inhabited Dr := ⟨⟨0, .empty⟩⟩
def Dr.row (d : Dr) : List Value := [.int .i64 d.s, .string d.t]
abbrev Dr.v (d : Dr) : Value := .agg #[.int .i64 d.s, .string d.t]
structure DropAt (s : Int) (t : ByteArray) : Prop where
  s : I64 s
  t : t.size ≤ maxLen
/-- A slice of drops. -/
structure DropsAt (w : World) (a : Option Addr) (n cap : Nat) (ds : List Dr) : Prop where
  rows : RowsAt w 2 a n cap (ds.map Dr.row)
  wf : ∀ d ∈ ds, DropAt d.s d.t
theorem DropsAt.len {w : World} {a : Option Addr} {n cap : Nat} {ds : List Dr} (h : DropsAt w a n cap ds) : ds.length = n := by have := h.rows.len; rwa [List.length_map] at this
theorem DropsAt.keep {w w' : World} {a : Option Addr} {n cap : Nat} {ds : List Dr} (h : DropsAt w a n cap ds) (hb : Lat w w') : DropsAt w' a n cap ds := ⟨h.rows.keep hb, h.wf⟩
theorem DropsAt.nil (w : World) : DropsAt w none 0 0 [] := ⟨RowsAt.nil w 2, by simp⟩
theorem DropsAt.at_ {w : World} {a : Option Addr} {n cap : Nat} {ds : List Dr} (h : DropsAt w a n cap ds) (hn : n ≠ 0) : ∃ b off, a = some ⟨b, off, none⟩ ∧ ∀ j d, ds[j]? = some d → w.cell? ⟨b, off + j * 2, none⟩ = some (.int .i64 d.s) ∧ w.cell? ⟨b, off + j * 2 + 1, none⟩ = some (.string d.t) := by
  obtain ⟨b, o, ha, hc⟩ := h.rows.at_ hn
  refine ⟨b, o, ha, fun j d hd => ?_⟩
  have hr : (ds.map Dr.row)[j]? = some d.row := by rw [List.getElem?_map, hd]; rfl
  obtain ⟨_, hc2⟩ := hc j _ hr
  exact ⟨by simpa using hc2 0 _ rfl, by rw [Nat.add_assoc]; exact hc2 1 _ rfl⟩
section
variable {H : Type} {enc : TypeId × Value → H} {P : Program} {w : World} {base : Nat} {spare : Nat → Bool} {held : Bool}
theorem open_strCell {t : TypeId} {fuel : Nat} {v : Value} {x : DataW H × List MemPlace} (ht : P.underlying t = some .string) (h : DataW.trod enc P w base spare held fuel t [v] = some x) : ∃ s, v = .string s ∧ s.size ≤ maxLen := by
  obtain ⟨s, hs, _, hl⟩ := DataW.trod_string ht h
  simp at hs
  exact ⟨s, hs, hl⟩
theorem open_Drop {r : Reach} {b0 : Nat} {v : Value} {d : DataW H} {p : List MemPlace} (hv : Value.okWide Tryz.prog w r b0 33 v) (h : DataW.Trod enc Tryz.prog w base spare held 33 v d p) :
    ∃ (s : Int) (t : ByteArray), v = .agg #[.int .i64 s, .string t] ∧ DropAt s t := by
  obtain ⟨v0, v1, y0, y1, m, rfl, _, _, h0, h1⟩ := open_agg2 Tryz.underlying33 (by kernel_rfl) (by kernel_rfl) hv h
  obtain ⟨z0, rfl, w0⟩ := open_intCell Tryz.underlying3 h0
  obtain ⟨z1, rfl, w1⟩ := open_strCell Tryz.underlying9 h1
  exact ⟨z0, z1, rfl, w0, w1⟩
theorem open_DropsAt {d : DataW H} {ps : List MemPlace} {a : Option Addr} {n cap : Nat}
    (h : DataW.Trod enc Tryz.prog w base spare held 53 (.slice a n cap) d ps) : ∃ l, DropsAt w a n cap l := by
  obtain ⟨fuel, hf⟩ := h
  rcases open_slice_fields Tryz.underlying53 Tryz.underlying33 (by kernel_rfl) (by kernel_rfl) hf with hcs | ⟨x, l, c, m, hcs, hl, hm, hlm, hi⟩
  · simp [Value.cells] at hcs
    obtain ⟨rfl, rfl, rfl⟩ := hcs
    exact ⟨[], DropsAt.nil w⟩
  · simp [Value.cells] at hcs
    obtain ⟨rfl, rfl, rfl⟩ := hcs
    have hb : ∀ i, i < n → ∃ p : Dr, (w.cell? (x.add (i * 2 + 0)) = some (.int .i64 p.s) ∧ w.cell? (x.add (i * 2 + 1)) = some (.string p.t)) ∧ DropAt p.s p.t := fun i hin => by
      obtain ⟨q, hf⟩ := hi i (by omega)
      obtain ⟨v0, y0, c0, t0⟩ := hf 0 _ rfl
      obtain ⟨v1, y1, c1, t1⟩ := hf 1 _ rfl
      obtain ⟨z0, rfl, w0⟩ := open_intCell Tryz.underlying3 t0
      obtain ⟨z1, rfl, w1⟩ := open_strCell Tryz.underlying9 t1
      exact ⟨⟨z0, z1⟩, ⟨c0, c1⟩, w0, w1⟩
    obtain ⟨B, hB⟩ := Go.Deep.choose_lt hb
    refine ⟨(List.range n).map B, ⟨by simp, hl, hm, fun hn => ?_⟩, fun p hp => ?_⟩
    · have h0 := (hB 0 (by omega)).1.1
      have hs : x = ⟨x.block, x.off, none⟩ := by
        have := World.cell?_spot h0
        cases x with | mk b o s => cases s <;> simp_all [Addr.add]
      refine ⟨x.block, x.off, by rw [← hs], fun j r hr => ?_⟩
      rw [List.getElem?_map, List.getElem?_map] at hr
      have hj : j < n := by
        rcases Nat.lt_or_ge j n with h | h
        · exact h
        · rw [List.getElem?_eq_none (by simpa using h)] at hr; cases hr
      rw [List.getElem?_range hj] at hr
      simp at hr
      subst hr
      obtain ⟨c0, c1⟩ := (hB j hj).1
      rw [hs, Addr.add_lit] at c0 c1
      refine ⟨rfl, fun i u hu => ?_⟩
      match i, hu with
      | 0, hu => simp [Dr.row] at hu; subst hu; exact c0
      | 1, hu => simp [Dr.row] at hu; subst hu; exact c1
    · obtain ⟨i, hi, rfl⟩ := List.mem_map.1 hp
      exact (hB i (List.mem_range.1 hi)).2
end
end Go.Proofs.YtnndklhcckahbaaGreatDoor
