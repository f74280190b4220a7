/- A map of the call's own, keyed by integers, as a function of its keys: made, read, written, its length. No program in sight. -/
import Derived.Test.YtcpookgbneoilaaGreatDoorFr
import Derived.Maps.OwnSet
import Derived.Maps.Views
namespace Go.Proofs.YtcpookgbneoilaaGreatDoor
open Go.ChangeShapes Go.WideShapes Go.ChangeAt Go.RowKit Go.Maps

/-- How the values of a map read: different values read differently. -/
structure Codec (R : Value → Option (DataW Unit × List MemPlace)) : Prop where
  inj : ∀ u v d p q, R u = some (d, p) → R v = some (d, q) → u = v
/-- Block b is a map of n entries; at each key it holds f of it. -/
def MapF (P : Program) (k : TypeId) (q : IntKind) (R : Value → Option (DataW Unit × List MemPlace)) (b n : Nat) (f : Int → Option Value) (w : World) : Prop :=
  ∃ D, w.ownsMap P k R b n D ∧ Maps.size D = n ∧ ∀ key, (Lit.int q key).wf = true →
    (f key = none → Maps.has D (.int q key) = false) ∧ ∀ v, f key = some v → Maps.has D (.int q key) = true ∧ ∃ d ps, R v = some (d, ps) ∧ ∀ z, D.atKey (.int q key) z = d
def updF (f : Int → Option Value) (key : Int) (v : Value) : Int → Option Value := fun x => if x = key then some v else f x

section
variable {P : Program} {k e t : TypeId} {q : IntKind} {R : Value → Option (DataW Unit × List MemPlace)} {b n : Nat} {f : Int → Option Value} {w w' : World}
theorem exact_map {D : DataW Unit} {m : Nat} (h : w.ownsMap P k R b m D) : w.ownsMap P k R b (Maps.size D) D := by
  obtain ⟨es, clock, hb, F, _, rfl⟩ := h
  exact ⟨es, clock, hb, F, by simp [Maps.size, length_sorted], rfl⟩
theorem MapF.lt (h : MapF P k q R b n f w) : b < w.heap.size := by
  obtain ⟨D, ho, _⟩ := h; exact ho.lt
theorem MapF.of_block (h : MapF P k q R b n f w) (hb : w'.heap[b]? = w.heap[b]?) : MapF P k q R b n f w' := by
  obtain ⟨D, ⟨es, clock, hh, rest⟩, h2⟩ := h
  exact ⟨D, ⟨es, clock, by rw [hb]; exact hh, rest⟩, h2⟩
theorem MapF.keep (h : MapF P k q R b n f w) (hb : Lat w w') : MapF P k q R b n f w' := h.of_block (hb.block b h.lt)
theorem MapF.fr {S : Nat → Prop} (h : MapF P k q R b n f w) (hf : Fr S w w') (hn : ¬ S b) : MapF P k q R b n f w' := h.of_block (hf.block b h.lt hn)
theorem MapF.made (w : World) (P : Program) (k : TypeId) (q : IntKind) (R : Value → Option (DataW Unit × List MemPlace)) : MapF P k q R w.heap.size 0 (fun _ => none) (w.alloc (.map #[] 0)) :=
  ⟨.map [], World.ownsMap_made w P k R, rfl, fun _ _ => ⟨fun _ => rfl, fun _ h => by cases h⟩⟩
theorem MapF.look_ok (h : MapF P k q R b n f w) (hR : Codec R) (hk : P.underlying k = some (.int q)) (ht : P.underlying t = some (.map k e)) {z : Value} (hz : (zeroValue e).run P w = .ok z w) {zd : DataW Unit} {zp : List MemPlace} (hzd : R z = some (zd, zp))
    (key : Int) (hw : (Lit.int q key).wf = true) : (Instr.lookup t (.map (some b)) (.int q key) true).run P w = .ok (.tuple #[(f key).getD z, .bool (f key).isSome]) w := by
  obtain ⟨D, ho, _, hf⟩ := h
  obtain ⟨v, ps, hrun, hv⟩ := ho.look_ok (int_keyed hk) ht hz hzd (Maps.keyOf_int_mk hk hw)
  obtain ⟨h1, h2⟩ := hf key hw
  rw [hrun]
  cases hfk : f key with
  | none =>
    have hh := h1 hfk
    rw [hh]
    rw [atKey_of_not_has hh] at hv
    rw [hR.inj _ _ _ _ _ hv hzd]; rfl
  | some u =>
    obtain ⟨hh, d, ps', hd, hat⟩ := h2 u hfk
    rw [hh]
    rw [hat] at hv
    rw [hR.inj _ _ _ _ _ hv hd]; rfl
theorem MapF.look (h : MapF P k q R b n f w) (hR : Codec R) (hk : P.underlying k = some (.int q)) (ht : P.underlying t = some (.map k e)) {z : Value} (hz : (zeroValue e).run P w = .ok z w) {zd : DataW Unit} {zp : List MemPlace} (hzd : R z = some (zd, zp))
    (key : Int) (hw : (Lit.int q key).wf = true) : (Instr.lookup t (.map (some b)) (.int q key) false).run P w = .ok ((f key).getD z) w := by
  obtain ⟨D, ho, _, hf⟩ := h
  obtain ⟨v, ps, hrun, hv⟩ := ho.lookup (int_keyed hk) ht hz hzd (Maps.keyOf_int_mk hk hw)
  obtain ⟨h1, h2⟩ := hf key hw
  rw [hrun]
  cases hfk : f key with
  | none =>
    have hh := h1 hfk
    rw [atKey_of_not_has hh] at hv
    rw [hR.inj _ _ _ _ _ hv hzd]; rfl
  | some u =>
    obtain ⟨hh, d, ps', hd, hat⟩ := h2 u hfk
    rw [hat] at hv
    rw [hR.inj _ _ _ _ _ hv hd]; rfl
theorem MapF.len (h : MapF P k q R b n f w) (ht : P.underlying t = some (.map k e)) (ty : TypeId) : (Builtin.len_ #[t] ty #[.map (some b)]).run P w = .ok (.int .i64 n) w := by
  obtain ⟨D, ho, hs, _⟩ := h
  rw [ho.len ht ty, hs]
theorem MapF.store (h : MapF P k q R b n f w) (hk : P.underlying k = some (.int q)) (ht : P.underlying t = some (.map k e)) (hn : n < 1000000) (key : Int) (hw : (Lit.int q key).wf = true) {val : Value} {d : DataW Unit} {ps : List MemPlace} (hv : R val = some (d, ps)) :
    ∃ w', (Instr.mapUpdate t (.map (some b)) (.int q key) val).run P w = .ok () w' ∧ MapF P k q R b (if (f key).isSome = true then n else n + 1) (updF f key val) w' ∧ Fr (fun i => i = b) w w' := by
  obtain ⟨D, ho, hs, hf⟩ := h
  have hkl : WideAt.IsKeyLit (.int q key) := trivial
  obtain ⟨w', hrun, ho', hg⟩ := ho.update (int_keyed hk) ht (by unfold maxLen; omega) (Maps.keyOf_int_mk hk hw) hv
  have hT := ho.tidy (int_keyed hk)
  have hsz := size_put (k := .int q key) hT d
  have hf' : Fr (fun i => i = b) w w' := ⟨hg.os, hg.tape, hg.output, hg.size, fun i hi hne => hg.block i hi (fun e => hne (Option.some.inj e))⟩
  obtain ⟨h1, h2⟩ := hf key hw
  have hhas : Maps.has D (.int q key) = (f key).isSome := by
    cases hfk : f key with
    | none => exact h1 hfk
    | some u => exact (h2 u hfk).1
  rw [hhas, hs] at hsz
  refine ⟨w', hrun, ⟨D.put (.int q key) d, by rw [← hsz]; exact exact_map ho', hsz, fun x hx => ⟨fun hn => ?_, fun v hv' => ?_⟩⟩, hf'⟩
  · unfold updF at hn
    split at hn
    · cases hn
    · rename_i hne
      rw [has_put_other (by intro e; injection e with _ e; exact hne e)]
      exact (hf x hx).1 hn
  · unfold updF at hv'
    split at hv'
    · rename_i he
      subst he
      cases hv'
      exact ⟨has_put_same ho.isMap hkl d, d, ps, hv, fun z => atKey_put_same ho.isMap hkl d z⟩
    · rename_i hne
      have hkn : Lit.int q x ≠ Lit.int q key := by intro e; injection e with _ e; exact hne e
      obtain ⟨g1, d', ps', g2, g3⟩ := (hf x hx).2 v hv'
      exact ⟨by rw [has_put_other hkn]; exact g1, d', ps', g2, fun z => by rw [atKey_put_other hkn]; exact g3 z⟩
end
end Go.Proofs.YtcpookgbneoilaaGreatDoor
