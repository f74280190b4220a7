import Derived.Test.YtheimfdbadjpoaaGreatDoorRows
import Derived.WalkKit
import Derived.ProofKit
import Derived.OpenShut
import Derived.ShutString
import Derived.ChangeOld
import Derived.Below
import Derived.SliceStrings
import Derived.Handy
import Derived.Deep.Slices
import Derived.Lib.Hide
import Derived.Deep.QuietTactic
import Derived.BigQuiet
import Derived.Outline
import Derived.Laws.Concat
import Derived.Maps.AppendAt
namespace Go.Proofs.YtheimfdbadjpoaaGreatDoor
open Go.ChangeShapes Go.WideShapes Go.ChangeAt Go.RowKit

abbrev Lat (w w' : World) : Prop := Below w.heap.size w w'
theorem Lat.refl (w : World) : Lat w w := Below.refl _ _
theorem Lat.trans {a b c : World} (h : Lat a b) (k : Lat b c) : Lat a c := Below.trans h (k.mono h.size)

theorem Lat.alloc (w : World) (o : Obj) : Lat w (w.alloc o) := (Below.refl _ _).alloc (Nat.le_refl _) o
theorem Lat.cell_at {w w' : World} {p : Addr} {v : Value} (hb : Lat w w') (h : w.cell? p = some v) : w'.cell? p = some v := by
  rw [hb.cell (World.block_lt_of_cell? _ _ h)]; exact h
theorem Lat.free_at {w w' : World} {p : Addr} (hb : Lat w w') (hl : p.block < w.heap.size) (h : w.frozen? p = false) : w'.frozen? p = false := by
  rw [hb.frozen hl]; exact h
theorem Lat.drewN (w : World) (n : Nat) : Lat w (w.drewN n) := ⟨rfl, rfl, rfl, Nat.le_refl _, fun _ _ => rfl⟩
theorem Lat.drew (w : World) : Lat w w.drew := ⟨rfl, rfl, rfl, Nat.le_refl _, fun _ _ => rfl⟩

structure RowAt (w : World) (a : Option Addr) (n cap : Nat) (f : Nat → Value) : Prop where
  le : n ≤ cap
  cap : cap ≤ maxLen
  at_ : n ≠ 0 → ∃ b off, a = some ⟨b, off, none⟩ ∧ ∀ j, j < n → w.cell? ⟨b, off + j, none⟩ = some (f j)

theorem RowAt.keep {w w' : World} {a : Option Addr} {n cap : Nat} {f : Nat → Value} (h : RowAt w a n cap f) (hb : Lat w w') : RowAt w' a n cap f :=
  ⟨h.le, h.cap, fun hn => by
    obtain ⟨b, off, ha, hc⟩ := h.at_ hn
    exact ⟨b, off, ha, fun j hj => by rw [hb.cell (World.block_lt_of_cell? _ _ (hc j hj))]; exact hc j hj⟩⟩

structure IntsAt (w : World) (a : Option Addr) (n cap : Nat) (zs : List Int) : Prop where
  len : zs.length = n
  row : RowAt w a n cap (fun j => .int .i64 (zs.getD j 0))
  wf : ∀ z ∈ zs, -9223372036854775808 ≤ z ∧ z ≤ 9223372036854775807
structure StrsAt (w : World) (a : Option Addr) (n cap : Nat) (ss : List ByteArray) : Prop where
  len : ss.length = n
  row : RowAt w a n cap (fun j => .string (ss.getD j ByteArray.empty))
  sz : ∀ s ∈ ss, s.size ≤ maxLen
structure BoolsAt (w : World) (a : Option Addr) (n cap : Nat) (bs : List Bool) : Prop where
  len : bs.length = n
  row : RowAt w a n cap (fun j => .bool (bs.getD j false))

theorem IntsAt.keep {w w' : World} {a : Option Addr} {n cap : Nat} {zs : List Int} (h : IntsAt w a n cap zs) (hb : Lat w w') : IntsAt w' a n cap zs := ⟨h.len, h.row.keep hb, h.wf⟩
theorem StrsAt.keep {w w' : World} {a : Option Addr} {n cap : Nat} {ss : List ByteArray} (h : StrsAt w a n cap ss) (hb : Lat w w') : StrsAt w' a n cap ss := ⟨h.len, h.row.keep hb, h.sz⟩
theorem BoolsAt.keep {w w' : World} {a : Option Addr} {n cap : Nat} {bs : List Bool} (h : BoolsAt w a n cap bs) (hb : Lat w w') : BoolsAt w' a n cap bs := ⟨h.len, h.row.keep hb⟩

theorem spot_none {w : World} {a : Addr} {v : Value} (h : w.cell? a = some v) : a = ⟨a.block, a.off, none⟩ := by
  have := World.cell?_spot h
  cases a; simp_all

theorem IntsAt.nil (w : World) : IntsAt w none 0 0 [] := ⟨rfl, ⟨Nat.le_refl _, Nat.zero_le _, fun h => absurd rfl h⟩, by simp⟩
theorem StrsAt.nil (w : World) : StrsAt w none 0 0 [] := ⟨rfl, ⟨Nat.le_refl _, Nat.zero_le _, fun h => absurd rfl h⟩, by simp⟩

section
variable {H : Type} {enc : TypeId × Value → H} {P : Program} {w : World} {base : Nat} {spare : Nat → Bool} {held : Bool}

theorem rowAt_of {a : Addr} {n cap : Nat} {f : Nat → Value} (hl : n ≤ cap) (hm : cap ≤ maxLen) (hc : ∀ j, j < n → w.cell? (a.add j) = some (f j)) : RowAt w (some a) n cap f :=
  ⟨hl, hm, fun hn => by
    have h0 := hc 0 (by omega)
    have hs : a = ⟨a.block, a.off, none⟩ := by
      have := World.cell?_spot h0
      cases a with | mk b o s => cases s <;> simp_all [Addr.add]
    refine ⟨a.block, a.off, by rw [← hs], fun j hj => ?_⟩
    have := hc j hj
    rw [hs, Addr.add_lit] at this
    exact this⟩

theorem open_IntsAt {t e : TypeId} {d : DataW H} {ps : List MemPlace} {a : Option Addr} {n cap : Nat} (ht : P.underlying t = some (.slice e)) (he : P.underlying e = some (.int .i64)) (hc : P.cellsOf e = 1)
    (h : DataW.Trod enc P w base spare held t (.slice a n cap) d ps) : ∃ zs, IntsAt w a n cap zs := by
  obtain ⟨fuel, hf⟩ := h
  rcases open_ints ht he hc hf with ⟨hcs, _⟩ | ⟨x, l, c, zs, hcs, _, hl, hm, hz, _, hcell, hwz⟩
  · simp [Value.cells] at hcs
    obtain ⟨rfl, rfl, rfl⟩ := hcs
    exact ⟨[], rfl, ⟨Nat.le_refl _, Nat.zero_le _, fun h => absurd rfl h⟩, by simp⟩
  · simp [Value.cells] at hcs
    obtain ⟨rfl, rfl, rfl⟩ := hcs
    have hlz : n ≤ zs.length := by rw [hz]; split <;> omega
    refine ⟨zs.take n, by simp; omega, rowAt_of hl hm fun j hj => ?_, fun z hz' => ?_⟩
    · rw [hcell j (by omega)]; simp [List.getD, hj]
    · have := hwz z (List.mem_of_mem_take hz')
      simpa [Lit.wf, IntKind.min, IntKind.max, IntKind.signed, IntKind.bits] using this

theorem open_StrsAt {t e : TypeId} {d : DataW H} {ps : List MemPlace} {a : Option Addr} {n cap : Nat} (ht : P.underlying t = some (.slice e)) (he : P.underlying e = some .string) (hc : P.cellsOf e = 1)
    (h : DataW.Trod enc P w base spare held t (.slice a n cap) d ps) : ∃ ss, StrsAt w a n cap ss := by
  obtain ⟨fuel, hf⟩ := h
  rcases open_strings ht he hc hf with ⟨hcs, _⟩ | ⟨x, l, c, zs, hcs, _, hl, hm, hz, _, hcell, hwz⟩
  · simp [Value.cells] at hcs
    obtain ⟨rfl, rfl, rfl⟩ := hcs
    exact ⟨[], rfl, ⟨Nat.le_refl _, Nat.zero_le _, fun h => absurd rfl h⟩, by simp⟩
  · simp [Value.cells] at hcs
    obtain ⟨rfl, rfl, rfl⟩ := hcs
    have hlz : n ≤ zs.length := by rw [hz]; split <;> omega
    refine ⟨zs.take n, by simp; omega, rowAt_of hl hm fun j hj => ?_, fun z hz' => hwz z (List.mem_of_mem_take hz')⟩
    rw [hcell j (by omega)]; simp [List.getD, hj]

theorem open_BoolsAt {t e : TypeId} {d : DataW H} {ps : List MemPlace} {a : Option Addr} {n cap : Nat} (ht : P.underlying t = some (.slice e)) (he : P.underlying e = some .bool) (hc : P.cellsOf e = 1)
    (h : DataW.Trod enc P w base spare held t (.slice a n cap) d ps) : ∃ bs, BoolsAt w a n cap bs := by
  obtain ⟨fuel, hf⟩ := h
  rcases Go.Deep.open_slice1 ht hc hf with ⟨hcs, _⟩ | ⟨x, l, c, m, fu, V, D, Pl, hcs, _, hl, hm, hz, _, hcell⟩
  · simp [Value.cells] at hcs
    obtain ⟨rfl, rfl, rfl⟩ := hcs
    exact ⟨[], rfl, ⟨Nat.le_refl _, Nat.zero_le _, fun h => absurd rfl h⟩⟩
  · simp [Value.cells] at hcs
    obtain ⟨rfl, rfl, rfl⟩ := hcs
    have hlz : n ≤ m := by rw [hz]; split <;> omega
    have hb : ∀ i, i < m → ∃ b, V i = .bool b := fun i hi => by
      obtain ⟨b, h, _⟩ := DataW.trod_bool he (hcell i hi).2
      simp at h
      exact ⟨b, h⟩
    obtain ⟨B, hB⟩ := Go.Deep.choose_lt hb
    refine ⟨(List.range n).map B, by simp, rowAt_of hl hm fun j hj => ?_⟩
    rw [(hcell j (by omega)).1, hB j (by omega)]; simp [List.getD, hj]
end

abbrev eno (n : Int) : Value := .iface 78 (.int .i64 n)
def errv (n : Nat) : Value := if n = 0 then .nilIface else eno n
theorem errv_pos {n : Nat} (h : n ≠ 0) : errv n = eno n := if_neg h
theorem errv_zero {n : Nat} (h : n = 0) : errv n = .nilIface := if_pos h
end Go.Proofs.YtheimfdbadjpoaaGreatDoor

namespace Go.Proofs.YtheimfdbadjpoaaGreatDoor

def xorL (a b : List UInt8) : List UInt8 := List.zipWith (fun x y => x ^^^ y) a b
abbrev S (l : List UInt8) : ByteArray := ⟨l.toArray⟩
theorem S_of (b : ByteArray) : ∃ l, b = S l := ⟨b.data.toList, by cases b; rfl⟩
theorem S_size (l : List UInt8) : (S l).size = l.length := rfl
theorem xorL_length (a b : List UInt8) (h : a.length = b.length) : (xorL a b).length = a.length := by simp [xorL, h]
theorem xorL_comm (a b : List UInt8) : xorL a b = xorL b a := by
  unfold xorL; rw [List.zipWith_comm]; congr 1; funext x y; exact UInt8.xor_comm y x
theorem xorL_assoc : ∀ a b c : List UInt8, xorL (xorL a b) c = xorL a (xorL b c)
  | [], _, _ => by simp [xorL]
  | _ :: _, [], _ => by simp [xorL]
  | _ :: _, _ :: _, [] => by simp [xorL]
  | x :: a, y :: b, z :: c => by
    have := xorL_assoc a b c
    simp only [xorL, List.zipWith_cons_cons, List.cons.injEq] at this ⊢
    exact ⟨UInt8.xor_assoc x y z, this⟩
def noughts (n : Nat) : List UInt8 := List.replicate n 0
theorem xorL_self : ∀ a : List UInt8, xorL a a = noughts a.length
  | [] => rfl
  | x :: a => by
    have := xorL_self a
    simp only [xorL, noughts, List.zipWith_cons_cons, List.length_cons, List.replicate_succ, List.cons.injEq] at this ⊢
    exact ⟨UInt8.xor_self, this⟩
theorem xorL_noughts : ∀ a : List UInt8, xorL a (noughts a.length) = a
  | [] => rfl
  | x :: a => by
    have := xorL_noughts a
    simp only [xorL, noughts, List.length_cons, List.replicate_succ, List.zipWith_cons_cons, List.cons.injEq] at this ⊢
    exact ⟨UInt8.xor_zero, this⟩
theorem xorL_back (a b : List UInt8) (h : a.length = b.length) : xorL (xorL a b) b = a := by
  rw [xorL_assoc, xorL_self, ← h, xorL_noughts]
theorem S_append (a b : List UInt8) : S a ++ S b = S (a ++ b) := ByteArray.mk_append_mk a b
theorem noughts_succ (k : Nat) : S (noughts k) ++ { data := #[0] } = S (noughts (k + 1)) := by
  rw [show ({ data := #[0] } : ByteArray) = S [0] from rfl, S_append, noughts, noughts, List.replicate_succ']
end Go.Proofs.YtheimfdbadjpoaaGreatDoor

namespace Go.Proofs.YtheimfdbadjpoaaGreatDoor
open Go.ChangeShapes Go.WideShapes Go.ChangeAt Go.RowKit

theorem info_int : (Tryz.prog.info? 3).map (fun i => (i.zero, i.size, i.bytes)) = some (some (.int .i64 0), 1, 8) := by kernel_rfl
def Own (w : World) (B : Nat) (e : TypeId) (v : Value) (xs : List Value) : Prop := w.ownsRow B e 1 v xs.length xs

theorem Own.nil (w : World) (B : Nat) (e : TypeId) : Own w B e (.slice none 0 0) [] := World.ownsRow_nil w B e 1
theorem Own.lt {w : World} {B : Nat} {e : TypeId} {v : Value} {xs : List Value} (h : Own w B e v xs) : ∀ k, v.ownBlock = some k → B ≤ k ∧ k < w.heap.size := World.ownsRow.lt h
theorem Own.keep {w w' : World} {B : Nat} {e : TypeId} {v : Value} {xs : List Value} (h : Own w B e v xs) (hb : Lat w w') : Own w' B e v xs :=
  World.ownsRow.kept (row := none) h ⟨hb.os, hb.tape, hb.output, hb.size, fun k hk _ => hb.block k hk⟩ (by cases hv : v.ownBlock <;> simp)
theorem Own.slice {w : World} {B : Nat} {e : TypeId} {v : Value} {xs : List Value} (h : Own w B e v xs) : ∃ a cap, v = .slice a xs.length cap ∧ RowAt w a xs.length cap (fun j => xs.getD j undef) := by
  have h0 := h
  obtain ⟨_, h2⟩ := h
  rcases h2 with ⟨rfl, hz⟩ | ⟨g, cap, cur, rfl, hg, hh, hn, hc, hs, ht⟩
  · refine ⟨none, 0, by rw [hz], by omega, Nat.zero_le _, fun hn => absurd hz hn⟩
  · refine ⟨_, cap, rfl, hn, hc, fun _ => ⟨g, 0, rfl, fun j hj => ?_⟩⟩
    have := World.ownsRow.cells h0 (g := g) rfl j (xs.getD j undef) (by simp [List.getD, hj])
    rw [Addr.add_lit] at this
    exact this

def Apart (v v2 : Value) : Prop := ∀ k, v.ownBlock = some k → v2.ownBlock ≠ some k
theorem Apart.symm {v v2 : Value} (h : Apart v v2) : Apart v2 v := fun k h1 h2 => h k h2 h1
theorem Apart.nil (v : Value) : Apart (.slice none 0 0) v := fun k h => by cases h
structure AppStep (wr w' : World) (v v' : Value) : Prop where
  block : ∀ k, k < wr.heap.size → some k ≠ v.ownBlock → w'.heap[k]? = wr.heap[k]?
  size : wr.heap.size ≤ w'.heap.size
  loc : v'.ownBlock = v.ownBlock ∨ ∃ g, v'.ownBlock = some g ∧ wr.heap.size ≤ g
theorem AppStep.other {wr w' : World} {v v' : Value} (h : AppStep wr w' v v') {B : Nat} {e : TypeId} {v2 : Value} {xs : List Value} (ho : Own wr B e v2 xs) (ha : Apart v v2) : Own w' B e v2 xs ∧ Apart v' v2 := by
  refine ⟨?_, fun k h1 h2 => ?_⟩
  · have hlt := Own.lt ho
    obtain ⟨hl, hor⟩ := ho
    refine ⟨hl, ?_⟩
    rcases hor with hn | ⟨g, cap, cur, rfl, hb, hgg, rest⟩
    · exact .inl hn
    · refine .inr ⟨g, cap, cur, rfl, hb, ?_, rest⟩
      rw [h.block g (hlt g rfl).2 (fun e => ha g e.symm rfl)]
      exact hgg
  · have hlt := (Own.lt ho k h2).2
    rcases h.loc with hl | ⟨g, hl, hg⟩
    · rw [hl] at h1; exact ha k h1 h2
    · rw [hl] at h1; injection h1 with h1; omega
theorem AppStep.cell {wr w' : World} {v v' : Value} (h : AppStep wr w' v v') {p : Addr} {x : Value} (hp : wr.cell? p = some x) (hne : v.ownBlock ≠ some p.block) : w'.cell? p = some x := by
  rw [World.cell?_of_block (w := wr) (h.block p.block (World.block_lt_of_cell? _ _ hp) (fun e => hne e.symm))]; exact hp

theorem wpList_app1 {P : Program} (wr w0 : World) (B : Nat) {ops : Array Oper} {rest : List Oper} {o : Oper} {a : Act} {Q : Exit → Act → World → Prop}
    (hg : o.guard = none) (s x : Operand) (t : TypeId) (ho : o.op = .call { callee := .builtin .append, args := #[s, x], argTypes := #[t, t] })
    (e : TypeId) (z : Value) (bytes : Nat) (ht : P.underlying t = some (.slice e)) (hinfo : (P.info? e).map (fun i => (i.zero, i.size, i.bytes)) = some (some z, 1, bytes)) (hz : z.cells.size = 1) (hby : bytes ≤ 16)
    (v : Value) (xs : List Value) (u : Value) (hs : a.eval s = v) (hown : Own wr B e v xs) (hx : a.eval x = .slice (some ⟨wr.heap.size, 0, none⟩) 1 1) (hu : u.oneCell' = true)
    (hn : xs.length < 1000000000000) (hB : B = w0.heap.size) (hb : Below B w0 wr)
    (K : ∀ v' w', Own w' B e v' (xs ++ [u]) → Below B w0 w' → AppStep wr w' v v' → wpList P ops Q rest (a.put o.dst v') w') :
    wpList P ops Q (o :: rest) a (wr.alloc (.cells #[u] e)) := by
  obtain ⟨i0, hi, hz0, hz1, hz2⟩ := info_parts hinfo
  have hsz := hb.size
  refine wpList_append_own_at (wr.alloc (.cells #[u] e)) hg s x t ho B e i0 z 1 bytes ht hi hz0 hz1 hz2 hz (by decide) v xs.length xs hs (World.ownsRow.alloc hown _) ⟨wr.heap.size, 0, none⟩ 1 1 [u] hx rfl ?_ ?_ ?_ ?_ ?_ ?_
  · intro j u' hj
    match j, hj with
    | 0, hj =>
      simp at hj; subst hj
      rw [Addr.add_lit, World.cell?_alloc_at _ _ _ _ rfl]; rfl
  · intro u' hu'; simp at hu'; subst hu'; exact hu
  · unfold maxLen; omega
  · calc (xs.length + 1) * bytes ≤ (xs.length + 1) * 16 := Nat.mul_le_mul_left _ hby
      _ ≤ 140737488355328 := by omega
  · simp; omega
  · intro v' w' hown' hgrow _ hloc
    refine K v' w' ?_ ?_ ⟨fun k hk hne => ?_, ?_, ?_⟩
    · unfold Own; rw [List.length_append]; exact hown'
    · refine Below.grown (Below.alloc hb (by omega) _) hgrow (by simp; omega) ?_
      intro k hk
      exact (Own.lt hown k hk).1
    · rw [hgrow.block k (by simp; omega) hne]; exact heap_alloc_old wr _ hk
    · have := hgrow.size; simp at this; omega
    · rcases hloc with hl | hl
      · exact .inl hl
      · exact .inr ⟨_, hl, by simp⟩

abbrev OwnInts (w : World) (B : Nat) (v : Value) (zs : List Int) : Prop := Own w B 3 v (zs.map (Value.int .i64))
theorem app_int (wr w0 : World) (B : Nat) {ops : Array Oper} {rest : List Oper} {o : Oper} {a : Act} {Q : Exit → Act → World → Prop}
    (hg : o.guard = none) (s x : Operand) (ho : o.op = .call { callee := .builtin .append, args := #[s, x], argTypes := #[23, 23] })
    (v : Value) (zs : List Int) (z : Int) (hs : a.eval s = v) (hown : OwnInts wr B v zs) (hx : a.eval x = .slice (some ⟨wr.heap.size, 0, none⟩) 1 1)
    (hn : zs.length < 1000000000000) (hB : B = w0.heap.size) (hb : Below B w0 wr)
    (K : ∀ v' w', OwnInts w' B v' (zs ++ [z]) → Below B w0 w' → AppStep wr w' v v' → wpList Tryz.prog ops Q rest (a.put o.dst v') w') :
    wpList Tryz.prog ops Q (o :: rest) a (wr.alloc (.cells #[.int .i64 z] 3)) :=
  wpList_app1 wr w0 B hg s x 23 ho 3 (.int .i64 0) 8 Tryz.underlying23 info_int rfl (by decide) v _ (.int .i64 z) hs hown hx rfl (by simpa using hn) hB hb
    (fun v' w' h1 h2 h3 => K v' w' (by simpa [OwnInts] using h1) h2 h3)
theorem strs_new (w : World) (ss : List ByteArray) (t : TypeId) (hm : ss.length ≤ 1000) (hs : ∀ s ∈ ss, s.size ≤ maxLen) : StrsAt (w.alloc (.cells (ss.map Value.string).toArray t)) (some ⟨w.heap.size, 0, none⟩) ss.length ss.length ss :=
  ⟨rfl, ⟨Nat.le_refl _, by unfold maxLen; omega, fun _ => ⟨w.heap.size, 0, rfl, fun j hj => by
    rw [World.cell?_alloc_at _ _ _ _ rfl]; simp [List.getD, hj]⟩⟩, hs⟩
theorem ints_new (w : World) (zs : List Int) (t : TypeId) (hm : zs.length ≤ 1000) (hs : ∀ z ∈ zs, -9223372036854775808 ≤ z ∧ z ≤ 9223372036854775807) : IntsAt (w.alloc (.cells (zs.map (Value.int .i64)).toArray t)) (some ⟨w.heap.size, 0, none⟩) zs.length zs.length zs :=
  ⟨rfl, ⟨Nat.le_refl _, by unfold maxLen; omega, fun _ => ⟨w.heap.size, 0, rfl, fun j hj => by
    rw [World.cell?_alloc_at _ _ _ _ rfl]; simp [List.getD, hj]⟩⟩, hs⟩

theorem OwnInts.slice {w : World} {B : Nat} {v : Value} {zs : List Int} (h : OwnInts w B v zs) (hwf : ∀ z ∈ zs, -9223372036854775808 ≤ z ∧ z ≤ 9223372036854775807) : ∃ a cap, v = .slice a zs.length cap ∧ IntsAt w a zs.length cap zs := by
  obtain ⟨a, cap, hv, hr⟩ := Own.slice h
  rw [List.length_map] at hv hr
  refine ⟨a, cap, hv, rfl, ⟨hr.le, hr.cap, fun hn => ?_⟩, hwf⟩
  obtain ⟨b, off, ha, hc⟩ := hr.at_ hn
  exact ⟨b, off, ha, fun j hj => by rw [hc j hj]; simp [List.getD, hj]⟩
structure Blk (w : World) (g n : Nat) (F : Nat → Value) : Prop where
  lt : g < w.heap.size
  cell : ∀ j, j < n → w.cell? ⟨g, j, none⟩ = some (F j)
  free : ∀ j, j < n → w.frozen? ⟨g, j, none⟩ = false
theorem Blk.set {w : World} {g n k : Nat} {F : Nat → Value} (h : Blk w g n F) (hk : k < n) (v : Value) : Blk (w.setCell ⟨g, k, none⟩ v) g n (fun j => if j = k then v else F j) := by
  refine ⟨by simpa [World.setCell] using h.lt, fun j hj => ?_, fun j hj => by rw [World.frozen?_setCell]; exact h.free j hj⟩
  by_cases e : j = k
  · subst e; rw [if_pos rfl]; exact World.cell?_setCell_same _ _ _ (h.cell j hj)
  · rw [if_neg e, World.cell?_setCell_other _ _ _ _ (by intro h; injection h with _ h2 _; exact e h2.symm)]; exact h.cell j hj
theorem Blk.congr {w : World} {g n : Nat} {F G : Nat → Value} (h : Blk w g n F) (e : ∀ j, j < n → F j = G j) : Blk w g n G := ⟨h.lt, fun j hj => by rw [← e j hj]; exact h.cell j hj, h.free⟩
theorem Blk.keep {w w' : World} {g n : Nat} {F : Nat → Value} (h : Blk w g n F) (hb : Lat w w') : Blk w' g n F :=
  ⟨Nat.lt_of_lt_of_le h.lt hb.size, fun j hj => by rw [hb.cell h.lt]; exact h.cell j hj, fun j hj => by rw [hb.frozen h.lt]; exact h.free j hj⟩

theorem wpList_make_blk {P : Program} (w : World) {ops : Array Oper} {rest : List Oper} {o : Oper} {a : Act} {Q : Exit → Act → World → Prop}
    (hg : o.guard = none) (l c : Operand) (t : TypeId) (hop : o.op = Op.makeSlice t l c)
    (e : TypeId) (z : Value) (bytes : Nat) (h1 : P.underlying t = some (.slice e)) (hinfo : (P.info? e).map (fun i => (i.zero, i.size, i.bytes)) = some (some z, 1, bytes)) (hz : z.cells = #[z])
    (n : Nat) (hl : a.eval l = .int .i64 n) (hc : a.eval c = .int .i64 n) (b2 : bytes * n ≤ 281474976710656) (b3 : n ≤ maxLen)
    (hK : ∀ g w', g = w.heap.size → Blk w' g n (fun _ => z) → Lat w w' → wpList P ops Q rest (a.put o.dst (.slice (some ⟨g, 0, none⟩) n n)) w') :
    wpList P ops Q (o :: rest) a w := by
  obtain ⟨i, h2, h3, h4, h5⟩ := info_parts hinfo
  refine wpList_make_full w hg l c t hop w.heap.size e i z 1 h1 h2 h3 h4 .i64 .i64 _ _ n hl hc rfl rfl (by rw [h5]; exact b2) b3 (Nat.le_refl _) ?_
  intro w' hown hgrow
  refine hK w.heap.size w' rfl ?_ ⟨hgrow.os, hgrow.tape, hgrow.output, hgrow.size, fun k hk => hgrow.block k hk (by simp)⟩
  have h0 := hown
  obtain ⟨hlen, hor⟩ := hown
  rcases hor with ⟨hv, _⟩ | ⟨g, cap, cur, hv, hge, hh, hn, hcm, hs, ht⟩
  · cases hv
  · have hgg : g = w.heap.size := by cases hv; rfl
    subst hgg
    have hcur : w.heap.size < w'.heap.size := (Array.getElem?_eq_some_iff.1 hh).1
    refine ⟨hcur, fun j hj => ?_, fun j hj => ?_⟩
    · have := World.ownsRow.cells h0 (g := w.heap.size) rfl j z (by rw [Nat.mul_one, hz, toList_madeCells_one, List.getElem?_replicate, if_pos hj])
      rw [Addr.add_lit, Nat.zero_add] at this
      exact this
    · simp [World.frozen?, hh]
end Go.Proofs.YtheimfdbadjpoaaGreatDoor

namespace Go.Proofs.YtheimfdbadjpoaaGreatDoor
open Go.ChangeShapes Go.WideShapes Go.ChangeAt Go.RowKit

theorem info_string : (Tryz.prog.info? 9).map (fun i => (i.zero, i.size, i.bytes)) = some (some (.string .empty), 1, 16) := by kernel_rfl
abbrev OwnStrs (w : World) (B : Nat) (v : Value) (ss : List ByteArray) : Prop := Own w B 9 v (ss.map Value.string)
theorem app_str (wr w0 : World) (B : Nat) {ops : Array Oper} {rest : List Oper} {o : Oper} {a : Act} {Q : Exit → Act → World → Prop}
    (hg : o.guard = none) (s x : Operand) (ho : o.op = .call { callee := .builtin .append, args := #[s, x], argTypes := #[35, 35] })
    (v : Value) (zs : List ByteArray) (z : ByteArray) (hs : a.eval s = v) (hown : OwnStrs wr B v zs) (hx : a.eval x = .slice (some ⟨wr.heap.size, 0, none⟩) 1 1)
    (hn : zs.length < 1000000000000) (hB : B = w0.heap.size) (hb : Below B w0 wr)
    (K : ∀ v' w', OwnStrs w' B v' (zs ++ [z]) → Below B w0 w' → AppStep wr w' v v' → wpList Tryz.prog ops Q rest (a.put o.dst v') w') :
    wpList Tryz.prog ops Q (o :: rest) a (wr.alloc (.cells #[.string z] 9)) :=
  wpList_app1 wr w0 B hg s x 35 ho 9 (.string .empty) 16 Tryz.underlying35 info_string rfl (by decide) v _ (.string z) hs hown hx rfl (by simpa using hn) hB hb
    (fun v' w' h1 h2 h3 => K v' w' (by simpa [OwnStrs] using h1) h2 h3)
theorem OwnStrs.slice {w : World} {B : Nat} {v : Value} {ss : List ByteArray} (h : OwnStrs w B v ss) (hwf : ∀ z ∈ ss, z.size ≤ maxLen) : ∃ a cap, v = .slice a ss.length cap ∧ StrsAt w a ss.length cap ss := by
  obtain ⟨a, cap, hv, hr⟩ := Own.slice h
  rw [List.length_map] at hv hr
  refine ⟨a, cap, hv, rfl, ⟨hr.le, hr.cap, fun hn => ?_⟩, hwf⟩
  obtain ⟨b, off, ha, hc⟩ := hr.at_ hn
  exact ⟨b, off, ha, fun j hj => by rw [hc j hj]; simp [List.getD, hj]⟩
end Go.Proofs.YtheimfdbadjpoaaGreatDoor

namespace Go.Proofs.YtheimfdbadjpoaaGreatDoor
open Go.ChangeShapes Go.WideShapes Go.ChangeAt Go.RowKit

def szAt (ss : List ByteArray) (j : Nat) : Nat := (ss.getD j ByteArray.empty).size
def chk (ss : List ByteArray) : Nat :=
  if ss.length = 0 then 5 else if 16 < ss.length then 4 else if szAt ss 0 < 1 ∨ 8 < szAt ss 0 then 1 else if ∃ j, j < ss.length ∧ szAt ss j ≠ szAt ss 0 then 3 else 0
structure ChkOk (ss : List ByteArray) : Prop where
  pos : 1 ≤ ss.length
  most : ss.length ≤ 16
  one : 1 ≤ szAt ss 0
  eight : szAt ss 0 ≤ 8
  all : ∀ j, j < ss.length → szAt ss j = szAt ss 0
theorem chk_ok {ss : List ByteArray} (h : chk ss = 0) : ChkOk ss := by
  unfold chk at h
  repeat' split at h
  all_goals first | omega | skip
  rename_i h1 h2 h3 h4
  exact ⟨by omega, by omega, by omega, by omega, fun j hj => Classical.byContradiction fun hne => h4 ⟨j, hj, hne⟩⟩
theorem chk_of {ss : List ByteArray} (h : ChkOk ss) : chk ss = 0 := by
  obtain ⟨h1, h2, h3, h4, h5⟩ := h
  unfold chk
  rw [if_neg (by omega), if_neg (by omega), if_neg (by omega), if_neg (by rintro ⟨j, hj, hne⟩; exact hne (h5 j hj))]

theorem size_yes (n : Int) (w : World) (h0 : 1 ≤ n) (h1 : n ≤ 8) :
    Calls Tryz.prog 44 #[.int .i64 n] w fun e w' => e = .returned (.bool true) ∧ w = w' := by
  have hd : decide (n ≤ 8) = true := decide_eq_true (by omega)
  go_enter Tryz.func44, Tryz.ntmps44
  go_wp2
  go_ret
  exact ⟨rfl, rfl⟩
theorem size_no (n : Int) (w : World) (h : n < 1 ∨ 8 < n) :
    Calls Tryz.prog 44 #[.int .i64 n] w fun e w' => e = .returned (.bool false) ∧ w = w' := by
  have hc : decide (1 ≤ n) = false ∨ (decide (1 ≤ n) = true ∧ decide (n ≤ 8) = false) := by
    by_cases h : 1 ≤ n
    · exact .inr ⟨decide_eq_true h, decide_eq_false (by omega)⟩
    · exact .inl (decide_eq_false h)
  clear h
  rcases hc with h4 | ⟨h4, h5⟩
  all_goals
    go_enter Tryz.func44, Tryz.ntmps44
    go_wp2
    go_ret
    exact ⟨rfl, rfl⟩

theorem clos_any (b s0 : ByteArray) (g bb o n cap : Nat) (w : World) (hp : w.cell? ⟨g, 0, none⟩ = some (.slice (some ⟨bb, o, none⟩) n cap)) (hn : 1 ≤ n) (hc : w.cell? ⟨bb, o, none⟩ = some (.string s0)) :
    Calls Tryz.prog 97 #[.string b, .pointer (some ⟨g, 0, none⟩)] w fun e w' => e = .returned (.bool ((b.size : Int) != (s0.size : Int))) ∧ w = w' := by
  have h0 : (0 : Int) < (n : Int) := by omega
  go_enter Tryz.func97, Tryz.ntmps97
  go_wp2
  go_ret
  exact ⟨rfl, rfl⟩

theorem szAt_zero {w : World} {bb o : Nat} {ss : List ByteArray} (h : w.cell? ⟨bb, o + 0, none⟩ = some (.string (ss.getD 0 ByteArray.empty))) : w.cell? ⟨bb, o, none⟩ = some (.string (ss.getD 0 ByteArray.empty)) := h

set_option maxHeartbeats 400000 in
theorem indexFunc_none (g bb o n cap : Nat) (ss : List ByteArray) (w : World) (hp : w.cell? ⟨g, 0, none⟩ = some (.slice (some ⟨bb, o, none⟩) n cap)) (hn : 1 ≤ n) (hm : n ≤ 1000000000000)
    (hc : ∀ j, j < n → w.cell? ⟨bb, o + j, none⟩ = some (.string (ss.getD j ByteArray.empty))) (hall : ∀ j, j < n → szAt ss j = szAt ss 0) :
    Calls Tryz.prog 137 #[.slice (some ⟨bb, o, none⟩) n cap, .func (.func 97) #[] #[.pointer (some ⟨g, 0, none⟩)]] w fun e w' => e = .returned (.int .i64 (-1)) ∧ w = w' := by
  have HC := Lib.hid hc; have HA := Lib.hid hall; clear hc hall
  go_enter Tryz.func137, Tryz.ntmps137
  go_wp2
  go_loop [8] (fun i => ∃ k : Nat, k ≤ n ∧ i = .int .i64 k) (fun i => n - (intOf i).toNat)
  case atStart => exact ⟨0, Nat.zero_le _, rfl⟩
  case round =>
    obtain ⟨k, hk, rfl⟩ := hrel
    by_cases hlt : k < n
    · have c1 := HC.out k hlt
      have ht : (((ss.getD k ByteArray.empty).size : Int) != ((ss.getD 0 ByteArray.empty).size : Int)) = false := by
        have := HA.out k hlt
        unfold szAt at this
        rw [bne_eq_false_iff_eq]; omega
      obtain ⟨s1, hs1⟩ : ∃ s, s = ss.getD k ByteArray.empty := ⟨_, rfl⟩
      rw [← hs1] at c1 ht
      clear hs1
      go_wp2_with (go_at_call 97; refine (clos_any s1 (ss.getD 0 ByteArray.empty) g bb o n cap _ hp hn (HC.out 0 hn)).mono ?_; rw [ht]; rintro e w' ⟨rfl, rfl⟩)
      go_round
      case rel => exact ⟨k + 1, by omega, by go_num⟩
      case measure => simp [intOf]; omega
    · go_wp2
      go_ret
      exact ⟨rfl, rfl⟩

set_option maxHeartbeats 400000 in
theorem indexFunc_some (g bb o n cap : Nat) (ss : List ByteArray) (w : World) (hp : w.cell? ⟨g, 0, none⟩ = some (.slice (some ⟨bb, o, none⟩) n cap)) (hn : 1 ≤ n) (hm : n ≤ 1000000000000)
    (hc : ∀ j, j < n → w.cell? ⟨bb, o + j, none⟩ = some (.string (ss.getD j ByteArray.empty))) (j0 : Nat) (hj0 : j0 < n) (hbad : szAt ss j0 ≠ szAt ss 0) :
    Calls Tryz.prog 137 #[.slice (some ⟨bb, o, none⟩) n cap, .func (.func 97) #[] #[.pointer (some ⟨g, 0, none⟩)]] w fun e w' => (∃ k : Nat, e = .returned (.int .i64 k)) ∧ w = w' := by
  have HC := Lib.hid hc; have HA := Lib.hid hbad; clear hc hbad
  go_enter Tryz.func137, Tryz.ntmps137
  go_wp2
  go_loop [8] (fun i => ∃ k : Nat, k ≤ j0 ∧ i = .int .i64 k) (fun i => n - (intOf i).toNat)
  case atStart => exact ⟨0, Nat.zero_le _, rfl⟩
  case round =>
    obtain ⟨k, hk, rfl⟩ := hrel
    have hlt : k < n := by omega
    have c1 := HC.out k hlt
    by_cases heq : szAt ss k = szAt ss 0
    · have hkj : k ≠ j0 := fun e => HA.out (e ▸ heq)
      have ht : (((ss.getD k ByteArray.empty).size : Int) != ((ss.getD 0 ByteArray.empty).size : Int)) = false := by
        unfold szAt at heq
        rw [bne_eq_false_iff_eq]; omega
      obtain ⟨s1, hs1⟩ : ∃ s, s = ss.getD k ByteArray.empty := ⟨_, rfl⟩
      rw [← hs1] at c1 ht
      clear hs1 heq
      go_wp2_with (go_at_call 97; refine (clos_any s1 (ss.getD 0 ByteArray.empty) g bb o n cap _ hp hn (HC.out 0 hn)).mono ?_; rw [ht]; rintro e w' ⟨rfl, rfl⟩)
      go_round
      case rel => exact ⟨k + 1, by omega, by go_num⟩
      case measure => simp [intOf]; omega
    · have ht : (((ss.getD k ByteArray.empty).size : Int) != ((ss.getD 0 ByteArray.empty).size : Int)) = true := by
        unfold szAt at heq
        rw [bne_iff_ne]; omega
      obtain ⟨s1, hs1⟩ : ∃ s, s = ss.getD k ByteArray.empty := ⟨_, rfl⟩
      rw [← hs1] at c1 ht
      clear hs1 heq
      go_wp2_with (go_at_call 97; refine (clos_any s1 (ss.getD 0 ByteArray.empty) g bb o n cap _ hp hn (HC.out 0 hn)).mono ?_; rw [ht]; rintro e w' ⟨rfl, rfl⟩)
      go_ret
      exact ⟨⟨k, rfl⟩, rfl⟩

theorem contains_none (g bb o n cap : Nat) (ss : List ByteArray) (w : World) (hp : w.cell? ⟨g, 0, none⟩ = some (.slice (some ⟨bb, o, none⟩) n cap)) (hn : 1 ≤ n) (hm : n ≤ 1000000000000)
    (hc : ∀ j, j < n → w.cell? ⟨bb, o + j, none⟩ = some (.string (ss.getD j ByteArray.empty))) (hall : ∀ j, j < n → szAt ss j = szAt ss 0) :
    Calls Tryz.prog 96 #[.slice (some ⟨bb, o, none⟩) n cap, .func (.func 97) #[] #[.pointer (some ⟨g, 0, none⟩)]] w fun e w' => e = .returned (.bool false) ∧ w = w' := by
  have HC := Lib.hid hc; have HA := Lib.hid hall; clear hc hall
  go_enter Tryz.func96, Tryz.ntmps96
  go_wp2_with (go_at_call 137; refine (indexFunc_none g bb o n cap ss _ hp hn hm HC.out HA.out).mono ?_; rintro e w' ⟨rfl, rfl⟩)
  go_ret
  exact ⟨rfl, rfl⟩
theorem contains_some (g bb o n cap : Nat) (ss : List ByteArray) (w : World) (hp : w.cell? ⟨g, 0, none⟩ = some (.slice (some ⟨bb, o, none⟩) n cap)) (hn : 1 ≤ n) (hm : n ≤ 1000000000000)
    (hc : ∀ j, j < n → w.cell? ⟨bb, o + j, none⟩ = some (.string (ss.getD j ByteArray.empty))) (j0 : Nat) (hj0 : j0 < n) (hbad : szAt ss j0 ≠ szAt ss 0) :
    Calls Tryz.prog 96 #[.slice (some ⟨bb, o, none⟩) n cap, .func (.func 97) #[] #[.pointer (some ⟨g, 0, none⟩)]] w fun e w' => e = .returned (.bool true) ∧ w = w' := by
  have HC := Lib.hid hc; have HA := Lib.hid hbad; clear hc hbad
  go_enter Tryz.func96, Tryz.ntmps96
  go_wp2_with (go_at_call 137; refine (indexFunc_some g bb o n cap ss _ hp hn hm HC.out j0 hj0 HA.out).mono ?_; rintro e w' ⟨⟨k, rfl⟩, rfl⟩)
  go_ret
  exact ⟨rfl, rfl⟩

set_option maxHeartbeats 400000 in
theorem check_ok (a : Option Addr) (n cap : Nat) (ss : List ByteArray) (w : World) (h : StrsAt w a n cap ss) (hok : chk ss = 0) :
    Calls Tryz.prog 48 #[.slice a n cap] w fun e w' => e = .returned .nilIface ∧ Lat w w' := by
  obtain ⟨h1, h2, h3, h4, h5⟩ := chk_ok hok
  have hl := h.len
  obtain ⟨bb, o, rfl, hc⟩ := h.row.at_ (by omega)
  have HC := Lib.hid hc
  have c0 : w.cell? ⟨bb, o, none⟩ = some (.string (ss.getD 0 ByteArray.empty)) := hc 0 (by omega)
  have hb := World.block_lt_of_cell? _ _ c0
  have hn1 : 1 ≤ n := by omega
  have hn2 : n ≤ 16 := by omega
  have HA := Lib.hid h5
  have HL := Lib.hid hl
  obtain ⟨s0, hs0⟩ : ∃ s, s = ss.getD 0 ByteArray.empty := ⟨_, rfl⟩
  have q1 : 1 ≤ s0.size := by rw [hs0]; exact h3
  have q2 : s0.size ≤ 8 := by rw [hs0]; exact h4
  rw [← hs0] at c0
  clear hc h5 hl h hok hs0 h3 h4 h1 h2
  have d1 : ((n : Int) == 0) = false := by simp; omega
  have d2 : decide (16 < (n : Int)) = false := decide_eq_false (by omega)
  have dp : (0 : Int) < (n : Int) := by omega
  have c0' := (Lat.alloc w (.cells #[.slice (some ⟨bb, o, none⟩) n cap] 35)).cell_at c0
  have HB := Lib.hid hb; clear hb
  go_enter Tryz.func48, Tryz.ntmps48
  go_wp2_with (first | (go_at_call 44; refine (size_yes _ _ (by omega) (by omega)).mono ?_; rintro e w' ⟨rfl, rfl⟩) | (go_at_call 96; refine (contains_none w.heap.size bb o n cap ss _ ?h1 hn1 (by omega) ?h2 ?h3).mono ?_; rotate_right; rintro e w' ⟨rfl, rfl⟩))
  case h1 => simp
  case h2 => intro j hj; exact (Lat.alloc _ _).cell_at (HC.out j hj)
  case h3 => intro j hj; exact HA.out j (by rw [HL.out]; exact hj)
  go_wp2
  go_ret
  exact ⟨rfl, (Below.refl _ _).alloc (Nat.le_refl _) _⟩

theorem check_none (a : Option Addr) (cap : Nat) (w : World) :
    Calls Tryz.prog 48 #[.slice a 0 cap] w fun e w' => e = .returned (eno 5) ∧ Lat w w' := by
  go_enter Tryz.func48, Tryz.ntmps48
  go_wp2
  go_ret
  exact ⟨rfl, (Below.refl _ _).alloc (Nat.le_refl _) _⟩
theorem check_full (a : Option Addr) (n cap : Nat) (w : World) (h : 16 < n) :
    Calls Tryz.prog 48 #[.slice a n cap] w fun e w' => e = .returned (eno 4) ∧ Lat w w' := by
  have d1 : ((n : Int) == 0) = false := by simp; omega
  have d2 : decide (16 < (n : Int)) = true := decide_eq_true (by omega)
  go_enter Tryz.func48, Tryz.ntmps48
  go_wp2
  go_ret
  exact ⟨rfl, (Below.refl _ _).alloc (Nat.le_refl _) _⟩
theorem check_range (a : Option Addr) (n cap : Nat) (ss : List ByteArray) (w : World) (h : StrsAt w a n cap ss) (h1 : 1 ≤ n) (h2 : n ≤ 16) (h3 : szAt ss 0 < 1 ∨ 8 < szAt ss 0) :
    Calls Tryz.prog 48 #[.slice a n cap] w fun e w' => e = .returned (eno 1) ∧ Lat w w' := by
  obtain ⟨bb, o, rfl, hc⟩ := h.row.at_ (by omega)
  have c0 : w.cell? ⟨bb, o, none⟩ = some (.string (ss.getD 0 ByteArray.empty)) := hc 0 (by omega)
  obtain ⟨s0, hs0⟩ : ∃ s, s = ss.getD 0 ByteArray.empty := ⟨_, rfl⟩
  have q1 : (s0.size : Int) < 1 ∨ 8 < (s0.size : Int) := by rw [hs0]; unfold szAt at h3; omega
  rw [← hs0] at c0
  have c0' := (Lat.alloc w (.cells #[.slice (some ⟨bb, o, none⟩) n cap] 35)).cell_at c0
  clear hc h hs0 h3
  have d1 : ((n : Int) == 0) = false := by simp; omega
  have d2 : decide (16 < (n : Int)) = false := decide_eq_false (by omega)
  have dp : (0 : Int) < (n : Int) := by omega
  go_enter Tryz.func48, Tryz.ntmps48
  go_wp2_with (go_at_call 44; refine (size_no _ _ q1).mono ?_; rintro e w' ⟨rfl, rfl⟩)
  go_ret
  exact ⟨rfl, (Below.refl _ _).alloc (Nat.le_refl _) _⟩
set_option maxHeartbeats 400000 in
theorem check_shape (a : Option Addr) (n cap : Nat) (ss : List ByteArray) (w : World) (h : StrsAt w a n cap ss) (h1 : 1 ≤ n) (h2 : n ≤ 16) (h3 : 1 ≤ szAt ss 0) (h4 : szAt ss 0 ≤ 8)
    (j0 : Nat) (hj0 : j0 < n) (hbad : szAt ss j0 ≠ szAt ss 0) :
    Calls Tryz.prog 48 #[.slice a n cap] w fun e w' => e = .returned (eno 3) ∧ Lat w w' := by
  obtain ⟨bb, o, rfl, hc⟩ := h.row.at_ (by omega)
  have HC := Lib.hid hc
  have c0 : w.cell? ⟨bb, o, none⟩ = some (.string (ss.getD 0 ByteArray.empty)) := hc 0 (by omega)
  have HA := Lib.hid hbad
  obtain ⟨s0, hs0⟩ : ∃ s, s = ss.getD 0 ByteArray.empty := ⟨_, rfl⟩
  have q1 : 1 ≤ s0.size := by rw [hs0]; exact h3
  have q2 : s0.size ≤ 8 := by rw [hs0]; exact h4
  rw [← hs0] at c0
  clear hc h hs0 h3 h4 hbad
  have d1 : ((n : Int) == 0) = false := by simp; omega
  have d2 : decide (16 < (n : Int)) = false := decide_eq_false (by omega)
  have dp : (0 : Int) < (n : Int) := by omega
  have c0' := (Lat.alloc w (.cells #[.slice (some ⟨bb, o, none⟩) n cap] 35)).cell_at c0
  go_enter Tryz.func48, Tryz.ntmps48
  go_wp2_with (first | (go_at_call 44; refine (size_yes _ _ (by omega) (by omega)).mono ?_; rintro e w' ⟨rfl, rfl⟩) | (go_at_call 96; refine (contains_some w.heap.size bb o n cap ss _ ?h1 h1 (by omega) ?h2 j0 hj0 HA.out).mono ?_; rotate_right; rintro e w' ⟨rfl, rfl⟩))
  case h1 => simp
  case h2 => intro j hj; exact (Lat.alloc _ _).cell_at (HC.out j hj)
  go_wp2
  go_ret
  exact ⟨rfl, (Below.refl _ _).alloc (Nat.le_refl _) _⟩
theorem check_bad (a : Option Addr) (n cap : Nat) (ss : List ByteArray) (w : World) (h : StrsAt w a n cap ss) (hb : chk ss ≠ 0) :
    Calls Tryz.prog 48 #[.slice a n cap] w fun e w' => e = .returned (eno (chk ss)) ∧ Lat w w' := by
  have hl := h.len
  unfold chk at hb ⊢
  rw [hl] at hb ⊢
  by_cases h1 : n = 0
  · subst h1
    exact check_none a cap w
  rw [if_neg h1] at hb ⊢
  by_cases h2 : 16 < n
  · rw [if_pos h2]; exact check_full a n cap w h2
  rw [if_neg h2] at hb ⊢
  by_cases h3 : szAt ss 0 < 1 ∨ 8 < szAt ss 0
  · rw [if_pos h3]; exact check_range a n cap ss w h (by omega) (by omega) h3
  rw [if_neg h3] at hb ⊢
  by_cases h4 : ∃ j, j < n ∧ szAt ss j ≠ szAt ss 0
  · rw [if_pos h4]
    obtain ⟨j, hj, hne⟩ := h4
    exact check_shape a n cap ss w h (by omega) (by omega) (by omega) (by omega) j hj hne
  · rw [if_neg h4] at hb
    exact absurd rfl hb
end Go.Proofs.YtheimfdbadjpoaaGreatDoor

