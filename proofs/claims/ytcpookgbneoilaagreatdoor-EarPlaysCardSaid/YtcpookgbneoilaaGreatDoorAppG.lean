/- append onto a slice of the call's own that lies in a cell: the new slice written out, and where it lies. -/
import Derived.Test.YtcpookgbneoilaaGreatDoorOwnC
import Derived.Deep.AppendLies
namespace Go.Proofs.YtcpookgbneoilaaGreatDoor
open Go.ChangeShapes Go.WideShapes Go.ChangeAt Go.RowKit

/-- A block that is none of an own slice's reads as before. -/
theorem grown_cell {w w' : World} {row : Option Nat} (h : w.grownBy w' row) {p : Addr} {x : Value} (hp : w.cell? p = some x) (hne : row ≠ some p.block) : w'.cell? p = some x := by
  rw [World.cell?_of_block (w := w) (h.block p.block (World.block_lt_of_cell? _ _ hp) (fun e => hne e.symm))]; exact hp
theorem grown_free {w w' : World} {row : Option Nat} (h : w.grownBy w' row) {p : Addr} (hl : p.block < w.heap.size) (hp : w.frozen? p = false) (hne : row ≠ some p.block) : w'.frozen? p = false := by
  have := h.block p.block hl (fun e => hne e.symm)
  unfold World.frozen? at hp ⊢
  rw [this]; exact hp
theorem Own.not {w : World} {B : Nat} {e : TypeId} {v : Value} {xs : List Value} (h : Own w B e v xs) {g : Nat} (hg : g < B) : v.ownBlock ≠ some g := fun k => by have := (Own.lt h g k).1; omega
theorem Own.alloc {w : World} {B : Nat} {e : TypeId} {v : Value} {xs : List Value} (h : Own w B e v xs) (o : Obj) : Own (w.alloc o) B e v xs := World.ownsRow.alloc h o
theorem Own.drew {w : World} {B : Nat} {e : TypeId} {v : Value} {xs : List Value} (h : Own w B e v xs) : Own w.drew B e v xs := h
theorem Own.drewN {w : World} {B : Nat} {e : TypeId} {v : Value} {xs : List Value} (h : Own w B e v xs) (n : Nat) : Own (w.drewN n) B e v xs := h
theorem Own.set {w : World} {B : Nat} {e : TypeId} {v : Value} {xs : List Value} (h : Own w B e v xs) {p : Addr} (hp : p.block < B) (x : Value) : Own (w.setCell p x) B e v xs := by
  have hne := Own.not h hp
  obtain ⟨h1, h2⟩ := h
  refine ⟨h1, ?_⟩
  rcases h2 with h2 | ⟨g, cap, cur, rfl, hb, hh, rest⟩
  · exact .inl h2
  · refine .inr ⟨g, cap, cur, rfl, hb, ?_, rest⟩
    rw [Below.heap_setCell w p x g (fun e => hne (by rw [← e]; rfl))]; exact hh
theorem Own.mono {w : World} {B C : Nat} {e : TypeId} {v : Value} {xs : List Value} (h : Own w B e v xs) (hc : C ≤ B) : Own w C e v xs := by
  obtain ⟨h1, h2⟩ := h
  refine ⟨h1, ?_⟩
  rcases h2 with h2 | ⟨g, cap, cur, rfl, hb, rest⟩
  · exact .inl h2
  · exact .inr ⟨g, cap, cur, rfl, by omega, rest⟩
/-- Old blocks below the own slice's are as before. -/
theorem lat_grown {w w1 w2 : World} {row : Option Nat} (h : Lat w w1) (hg : w1.grownBy w2 row) (hr : ∀ g, row = some g → w.heap.size ≤ g) : Lat w w2 :=
  Below.grown h hg h.size hr
theorem OwnInts.sliceN {w : World} {B : Nat} {v : Value} {zs : List Int} {n : Nat} (h : OwnInts w B v zs) (hwf : ∀ z ∈ zs, -9223372036854775808 ≤ z ∧ z ≤ 9223372036854775807) (hn : zs.length = n) : ∃ a cap, v = .slice a n cap ∧ IntsAt w a n cap zs := by
  subst hn; exact OwnInts.slice h hwf
theorem own_ne {w : World} {B g n c : Nat} {a : Option Addr} {L : List Int} (h : OwnInts w B (.slice a n c) L) (hg : g < B) : ∀ b o, a = some ⟨b, o, none⟩ → n ≠ 0 → b ≠ g := by
  rintro b o rfl _ rfl
  exact Own.not h hg rfl
/-- It lies in no block that stood there. -/
def Fresh (w : World) (a : Option Addr) (n : Nat) : Prop := ∀ g, g < w.heap.size → ∀ b o, a = some ⟨b, o, none⟩ → n ≠ 0 → b ≠ g
theorem Fresh.of {w w1 w2 : World} {n c : Nat} {a : Option Addr} {L : List Int} (h : OwnInts w2 w1.heap.size (.slice a n c) L) (hb : w.heap.size ≤ w1.heap.size) : Fresh w a n := fun _ hg => own_ne h (Nat.lt_of_lt_of_le hg hb)
theorem Fresh.mono {w w1 : World} {n : Nat} {a : Option Addr} (h : Fresh w1 a n) (hb : w.heap.size ≤ w1.heap.size) : Fresh w a n := fun g hg => h g (Nat.lt_of_lt_of_le hg hb)
theorem info_int_parts : ∃ i, Tryz.prog.info? 3 = some i ∧ i.zero = some (.int .i64 0) ∧ i.size = 1 ∧ i.bytes = 8 := info_parts info_int
end Go.Proofs.YtcpookgbneoilaaGreatDoor
