/- What a slice in memory reads as (of ints, of strings, of bools), how an argument is opened to that, and small laws on worlds. -/
import Derived.Test.YtcpookgbneoilaaGreatDoorRows
import Derived.WalkKit
import Derived.ProofKit
import Derived.OpenShut
import Derived.ShutString
import Derived.ChangeOld
import Derived.Below
import Derived.SliceStrings
import Derived.Handy
import Derived.Deep.Slices
import Derived.Lib.Hide
import Derived.Deep.QuietTactic
import Derived.BigQuiet
import Derived.Outline
namespace Go.Proofs.YtcpookgbneoilaaGreatDoor
open Go.ChangeShapes Go.WideShapes Go.ChangeAt Go.RowKit

/-- Behind a call nothing that was there has turned. -/
abbrev Lat (w w' : World) : Prop := Below w.heap.size w w'
theorem Lat.refl (w : World) : Lat w w := Below.refl _ _
theorem Lat.trans {a b c : World} (h : Lat a b) (k : Lat b c) : Lat a c := Below.trans h (k.mono h.size)

theorem Lat.alloc (w : World) (o : Obj) : Lat w (w.alloc o) := (Below.refl _ _).alloc (Nat.le_refl _) o
/-- A cell that was there reads so behind a later call. -/
theorem Lat.cell_at {w w' : World} {p : Addr} {v : Value} (hb : Lat w w') (h : w.cell? p = some v) : w'.cell? p = some v := by
  rw [hb.cell (World.block_lt_of_cell? _ _ h)]; exact h
theorem Lat.free_at {w w' : World} {p : Addr} (hb : Lat w w') (hl : p.block < w.heap.size) (h : w.frozen? p = false) : w'.frozen? p = false := by
  rw [hb.frozen hl]; exact h
theorem Lat.drewN (w : World) (n : Nat) : Lat w (w.drewN n) := ⟨rfl, rfl, rfl, Nat.le_refl _, fun _ _ => rfl⟩
theorem Lat.drew (w : World) : Lat w w.drew := ⟨rfl, rfl, rfl, Nat.le_refl _, fun _ _ => rfl⟩

/-- A slice value of n one-cell elements leads to cells that hold f 0 .. f (n-1). -/
structure RowAt (w : World) (a : Option Addr) (n cap : Nat) (f : Nat → Value) : Prop where
  le : n ≤ cap
  cap : cap ≤ maxLen
  at_ : n ≠ 0 → ∃ b off, a = some ⟨b, off, none⟩ ∧ ∀ j, j < n → w.cell? ⟨b, off + j, none⟩ = some (f j)

theorem RowAt.keep {w w' : World} {a : Option Addr} {n cap : Nat} {f : Nat → Value} (h : RowAt w a n cap f) (hb : Lat w w') : RowAt w' a n cap f :=
  ⟨h.le, h.cap, fun hn => by
    obtain ⟨b, off, ha, hc⟩ := h.at_ hn
    exact ⟨b, off, ha, fun j hj => by rw [hb.cell (World.block_lt_of_cell? _ _ (hc j hj))]; exact hc j hj⟩⟩

structure IntsAt (w : World) (a : Option Addr) (n cap : Nat) (zs : List Int) : Prop where
  len : zs.length = n
  row : RowAt w a n cap (fun j => .int .i64 (zs.getD j 0))
  wf : ∀ z ∈ zs, -9223372036854775808 ≤ z ∧ z ≤ 9223372036854775807
structure StrsAt (w : World) (a : Option Addr) (n cap : Nat) (ss : List ByteArray) : Prop where
  len : ss.length = n
  row : RowAt w a n cap (fun j => .string (ss.getD j ByteArray.empty))
  sz : ∀ s ∈ ss, s.size ≤ maxLen
structure BoolsAt (w : World) (a : Option Addr) (n cap : Nat) (bs : List Bool) : Prop where
  len : bs.length = n
  row : RowAt w a n cap (fun j => .bool (bs.getD j false))

theorem IntsAt.keep {w w' : World} {a : Option Addr} {n cap : Nat} {zs : List Int} (h : IntsAt w a n cap zs) (hb : Lat w w') : IntsAt w' a n cap zs := ⟨h.len, h.row.keep hb, h.wf⟩
theorem StrsAt.keep {w w' : World} {a : Option Addr} {n cap : Nat} {ss : List ByteArray} (h : StrsAt w a n cap ss) (hb : Lat w w') : StrsAt w' a n cap ss := ⟨h.len, h.row.keep hb, h.sz⟩
theorem BoolsAt.keep {w w' : World} {a : Option Addr} {n cap : Nat} {bs : List Bool} (h : BoolsAt w a n cap bs) (hb : Lat w w') : BoolsAt w' a n cap bs := ⟨h.len, h.row.keep hb⟩

theorem spot_none {w : World} {a : Addr} {v : Value} (h : w.cell? a = some v) : a = ⟨a.block, a.off, none⟩ := by
  have := World.cell?_spot h
  cases a; simp_all

theorem IntsAt.nil (w : World) : IntsAt w none 0 0 [] := ⟨rfl, ⟨Nat.le_refl _, Nat.zero_le _, fun h => absurd rfl h⟩, by simp⟩
theorem StrsAt.nil (w : World) : StrsAt w none 0 0 [] := ⟨rfl, ⟨Nat.le_refl _, Nat.zero_le _, fun h => absurd rfl h⟩, by simp⟩

section
variable {H : Type} {enc : TypeId × Value → H} {P : Program} {w : World} {base : Nat} {spare : Nat → Bool} {held : Bool}

theorem rowAt_of {a : Addr} {n cap : Nat} {f : Nat → Value} (hl : n ≤ cap) (hm : cap ≤ maxLen) (hc : ∀ j, j < n → w.cell? (a.add j) = some (f j)) : RowAt w (some a) n cap f :=
  ⟨hl, hm, fun hn => by
    have h0 := hc 0 (by omega)
    have hs : a = ⟨a.block, a.off, none⟩ := by
      have := World.cell?_spot h0
      cases a with | mk b o s => cases s <;> simp_all [Addr.add]
    refine ⟨a.block, a.off, by rw [← hs], fun j hj => ?_⟩
    have := hc j hj
    rw [hs, Addr.add_lit] at this
    exact this⟩

theorem open_IntsAt {t e : TypeId} {d : DataW H} {ps : List MemPlace} {a : Option Addr} {n cap : Nat} (ht : P.underlying t = some (.slice e)) (he : P.underlying e = some (.int .i64)) (hc : P.cellsOf e = 1)
    (h : DataW.Trod enc P w base spare held t (.slice a n cap) d ps) : ∃ zs, IntsAt w a n cap zs := by
  obtain ⟨fuel, hf⟩ := h
  rcases open_ints ht he hc hf with ⟨hcs, _⟩ | ⟨x, l, c, zs, hcs, _, hl, hm, hz, _, hcell, hwz⟩
  · simp [Value.cells] at hcs
    obtain ⟨rfl, rfl, rfl⟩ := hcs
    exact ⟨[], rfl, ⟨Nat.le_refl _, Nat.zero_le _, fun h => absurd rfl h⟩, by simp⟩
  · simp [Value.cells] at hcs
    obtain ⟨rfl, rfl, rfl⟩ := hcs
    have hlz : n ≤ zs.length := by rw [hz]; split <;> omega
    refine ⟨zs.take n, by simp; omega, rowAt_of hl hm fun j hj => ?_, fun z hz' => ?_⟩
    · rw [hcell j (by omega)]; simp [List.getD, hj]
    · have := hwz z (List.mem_of_mem_take hz')
      simpa [Lit.wf, IntKind.min, IntKind.max, IntKind.signed, IntKind.bits] using this

theorem open_StrsAt {t e : TypeId} {d : DataW H} {ps : List MemPlace} {a : Option Addr} {n cap : Nat} (ht : P.underlying t = some (.slice e)) (he : P.underlying e = some .string) (hc : P.cellsOf e = 1)
    (h : DataW.Trod enc P w base spare held t (.slice a n cap) d ps) : ∃ ss, StrsAt w a n cap ss := by
  obtain ⟨fuel, hf⟩ := h
  rcases open_strings ht he hc hf with ⟨hcs, _⟩ | ⟨x, l, c, zs, hcs, _, hl, hm, hz, _, hcell, hwz⟩
  · simp [Value.cells] at hcs
    obtain ⟨rfl, rfl, rfl⟩ := hcs
    exact ⟨[], rfl, ⟨Nat.le_refl _, Nat.zero_le _, fun h => absurd rfl h⟩, by simp⟩
  · simp [Value.cells] at hcs
    obtain ⟨rfl, rfl, rfl⟩ := hcs
    have hlz : n ≤ zs.length := by rw [hz]; split <;> omega
    refine ⟨zs.take n, by simp; omega, rowAt_of hl hm fun j hj => ?_, fun z hz' => hwz z (List.mem_of_mem_take hz')⟩
    rw [hcell j (by omega)]; simp [List.getD, hj]

theorem open_BoolsAt {t e : TypeId} {d : DataW H} {ps : List MemPlace} {a : Option Addr} {n cap : Nat} (ht : P.underlying t = some (.slice e)) (he : P.underlying e = some .bool) (hc : P.cellsOf e = 1)
    (h : DataW.Trod enc P w base spare held t (.slice a n cap) d ps) : ∃ bs, BoolsAt w a n cap bs := by
  obtain ⟨fuel, hf⟩ := h
  rcases Go.Deep.open_slice1 ht hc hf with ⟨hcs, _⟩ | ⟨x, l, c, m, fu, V, D, Pl, hcs, _, hl, hm, hz, _, hcell⟩
  · simp [Value.cells] at hcs
    obtain ⟨rfl, rfl, rfl⟩ := hcs
    exact ⟨[], rfl, ⟨Nat.le_refl _, Nat.zero_le _, fun h => absurd rfl h⟩⟩
  · simp [Value.cells] at hcs
    obtain ⟨rfl, rfl, rfl⟩ := hcs
    have hlz : n ≤ m := by rw [hz]; split <;> omega
    have hb : ∀ i, i < m → ∃ b, V i = .bool b := fun i hi => by
      obtain ⟨b, h, _⟩ := DataW.trod_bool he (hcell i hi).2
      simp at h
      exact ⟨b, h⟩
    obtain ⟨B, hB⟩ := Go.Deep.choose_lt hb
    refine ⟨(List.range n).map B, by simp, rowAt_of hl hm fun j hj => ?_⟩
    rw [(hcell j (by omega)).1, hB j (by omega)]; simp [List.getD, hj]
end

/-- The error that is one of the program's own numbers. -/
abbrev eno (n : Int) : Value := .iface 62 (.int .i64 n)
/-- An error by its number (0: none). -/
def errv (n : Nat) : Value := if n = 0 then .nilIface else eno n
theorem errv_pos {n : Nat} (h : n ≠ 0) : errv n = eno n := if_neg h
theorem errv_zero {n : Nat} (h : n = 0) : errv n = .nilIface := if_pos h
end Go.Proofs.YtcpookgbneoilaaGreatDoor
