/- An argument that is a slice of pictures, opened. -/
import Derived.Test.YtooepflfofgnnaaDoorOpenPic
import Derived.Test.YtooepflfofgnnaaDoorPic2
import Derived.Deep.Slices
import Derived.Deep.Fields
import Derived.ChangeSame
namespace Go.Proofs.YtooepflfofgnnaaDoor
open Go.ChangeShapes Go.WideShapes Go.ChangeAt Go.RowKit Go.Joins Go.Deep

set_option maxRecDepth 100000
section
variable {H : Type} {enc : TypeId × Value → H} {P : Program} {w : World} {base : Nat} {spare : Nat → Bool} {held : Bool}
/-- A slice of structs of one-cell fields: the cell of each field, and its own reading. -/
theorem open_slice_fields {t e : TypeId} {fs : Array Field} {fuel : Nat} {cs : List Value} {x : DataW H × List MemPlace} (ht : P.underlying t = some (.slice e)) (he : P.underlying e = some (.struct fs))
    (hone : oneCellFields P fs = true) (hC : P.cellsOf e = fs.size) (h : DataW.trod enc P w base spare held fuel t cs = some x) :
    (cs = [.slice none 0 0]) ∨
    ∃ (a : Addr) (len cap m : Nat), cs = [.slice (some a) len cap] ∧ len ≤ cap ∧ cap ≤ maxLen ∧ len ≤ m ∧
      ∀ i, i < m → ∃ n : Nat, ∀ (j : Nat) (f : Field), fs[j]? = some f → ∃ (v : Value) (y : DataW H × List MemPlace), w.cell? (a.add (i * fs.size + j)) = some v ∧ DataW.trod enc P w base spare held n f.type [v] = some y := by
  rcases open_slice ht h with h0 | ⟨a, len, cap, m, n, D, Pl, hcs, hb, hl, hm, hmm, hx, hi⟩
  · exact .inl h0.1
  · refine .inr ⟨a, len, cap, m, hcs, hl, hm, by rw [hmm]; split <;> omega, fun i him => ?_⟩
    obtain ⟨cs', hc, ht'⟩ := hi i him
    rw [hC] at hc
    obtain ⟨ys, n', hn', hy, hlen, hyl, hf⟩ := DataW.trod_struct he ht'
    obtain ⟨_, hcl, hat⟩ := World.cells?_some hc
    refine ⟨n', fun j f hj => ?_⟩
    obtain ⟨ho, hk⟩ := hone_of hone j f hj
    have hjl : j < fs.size := (Array.getElem?_eq_some_iff.1 hj).1
    have hcell := hat j hjl
    have hv : cs'[j]? = some (cs'[j]'(by omega)) := List.getElem?_eq_getElem (by omega)
    have h1 := hf j f hj
    rw [ho, hk] at h1
    have hone' : (cs'.drop j).take 1 = [cs'[j]'(by omega)] := by
      rw [List.drop_eq_getElem_cons (by omega)]
      rfl
    rw [hone'] at h1
    have hys : ys[j]? = some (ys[j]'(by omega)) := List.getElem?_eq_getElem (by omega)
    refine ⟨_, _, ?_, h1.trans hys⟩
    rw [← Go.Deep.add_add, hcell, hv]
end

/-- A picture of a row: its numbers, where its pixels lie, and these. -/
structure Pc where
  wd : Int
  hg : Int
  a : Option Addr
  n : Nat
  cap : Nat
  zs : List Int
instance : Inhabited Pc := ⟨⟨0, 0, none, 0, 0, []⟩⟩
structure PicsAt (w : World) (a : Option Addr) (n cap : Nat) (ps : List Pc) : Prop where
  len : ps.length = n
  le : n ≤ cap
  cap : cap ≤ maxLen
  at_ : n ≠ 0 → ∃ b off, a = some ⟨b, off, none⟩ ∧ ∀ j p, ps[j]? = some p → Cells3 w b (off + j * 3) (.int .i64 p.wd) (.int .i64 p.hg) (.slice p.a p.n p.cap)
  pix : ∀ p ∈ ps, PicAt w p.wd p.hg p.a p.n p.cap p.zs
theorem PicAt.keep {w w' : World} {wd hg : Int} {a : Option Addr} {n cap : Nat} {zs : List Int} (h : PicAt w wd hg a n cap zs) (hb : Lat w w') : PicAt w' wd hg a n cap zs := ⟨h.wd, h.hg, h.pix.keep hb⟩
theorem PicsAt.keep {w w' : World} {a : Option Addr} {n cap : Nat} {ps : List Pc} (h : PicsAt w a n cap ps) (hb : Lat w w') : PicsAt w' a n cap ps :=
  ⟨h.len, h.le, h.cap, fun hn => by
    obtain ⟨b, o, ha, hc⟩ := h.at_ hn
    exact ⟨b, o, ha, fun j p hp => (hc j p hp).keep hb⟩, fun p hp => (h.pix p hp).keep hb⟩
theorem PicsAt.nil (w : World) : PicsAt w none 0 0 [] := ⟨rfl, Nat.le_refl _, Nat.zero_le _, fun h => absurd rfl h, by simp⟩
section
variable {H : Type} {enc : TypeId × Value → H} {w : World} {base : Nat} {spare : Nat → Bool} {held : Bool}
theorem open_PicsAt {d : DataW H} {ps : List MemPlace} {a : Option Addr} {n cap : Nat}
    (h : DataW.Trod enc Tryd.prog w base spare held 104 (.slice a n cap) d ps) : ∃ l, PicsAt w a n cap l := by
  obtain ⟨fuel, hf⟩ := h
  rcases open_slice_fields Tryd.underlying104 Tryd.underlying132 (by kernel_rfl) (by kernel_rfl) hf with hcs | ⟨x, l, c, m, hcs, hl, hm, hlm, hi⟩
  · simp [Value.cells] at hcs
    obtain ⟨rfl, rfl, rfl⟩ := hcs
    exact ⟨[], PicsAt.nil w⟩
  · simp [Value.cells] at hcs
    obtain ⟨rfl, rfl, rfl⟩ := hcs
    have hb : ∀ i, i < n → ∃ p : Pc, (w.cell? (x.add (i * 3 + 0)) = some (.int .i64 p.wd) ∧ w.cell? (x.add (i * 3 + 1)) = some (.int .i64 p.hg) ∧ w.cell? (x.add (i * 3 + 2)) = some (.slice p.a p.n p.cap)) ∧ PicAt w p.wd p.hg p.a p.n p.cap p.zs := fun i hin => by
      obtain ⟨q, hf⟩ := hi i (by omega)
      obtain ⟨v0, y0, c0, t0⟩ := hf 0 _ rfl
      obtain ⟨v1, y1, c1, t1⟩ := hf 1 _ rfl
      obtain ⟨v2, y2, c2, t2⟩ := hf 2 _ rfl
      obtain ⟨z0, rfl, w0⟩ := open_intCell Tryd.underlying3 t0
      obtain ⟨z1, rfl, w1⟩ := open_intCell Tryd.underlying3 t1
      obtain ⟨pa, pn, pc, zs, rfl, h3⟩ := open_IntsCell Tryd.underlying25 Tryd.underlying3 (by kernel_rfl) t2
      exact ⟨⟨z0, z1, pa, pn, pc, zs⟩, ⟨c0, c1, c2⟩, w0, w1, h3⟩
    obtain ⟨B, hB⟩ := Go.Deep.choose_lt hb
    refine ⟨(List.range n).map B, by simp, hl, hm, fun hn => ?_, fun p hp => ?_⟩
    · have h0 := (hB 0 (by omega)).1.1
      have hs : x = ⟨x.block, x.off, none⟩ := by
        have := World.cell?_spot h0
        cases x with | mk b o s => cases s <;> simp_all [Addr.add]
      refine ⟨x.block, x.off, by rw [← hs], fun j p hp => ?_⟩
      have hj : j < n := by have := (List.getElem?_eq_some_iff.1 hp).1; simpa using this
      have hpB : p = B j := by
        rw [List.getElem?_map, List.getElem?_range hj] at hp
        injection hp with hp
        exact hp.symm
      obtain ⟨c0, c1, c2⟩ := (hB j hj).1
      rw [hs, Addr.add_lit] at c0 c1 c2
      subst hpB
      exact ⟨by simpa using c0, by rw [Nat.add_assoc]; exact c1, by rw [Nat.add_assoc]; exact c2⟩
    · obtain ⟨i, hi, rfl⟩ := List.mem_map.1 hp
      exact (hB i (List.mem_range.1 hi)).2
end
end Go.Proofs.YtooepflfofgnnaaDoor
