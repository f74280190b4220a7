import Derived.Test.YtcpookgbneoilaaDoorAppG
import Derived.Test.YtcpookgbneoilaaDoorBase
import Derived.LaidEql
import Derived.Stop.Asserts
import Derived.RowKitTokens
import Derived.Test.YtcpookgbneoilaaDoorOwnC
import Derived.ChangeVars
import Derived.JoinedOf
import Derived.LaidLaws
import Derived.LaidHandle
import Derived.Stop.Joined
import Derived.Test.YtcpookgbneoilaaDoorShelfSort
import Derived.Sort.Grow
import Derived.Test.YtcpookgbneoilaaDoorMix
import Derived.Deep.LoopGhost
import Derived.Shelf.Abstract
import Derived.Test.YtcpookgbneoilaaDoorLeft
import Derived.Deep.CutRange
import Derived.Test.YtcpookgbneoilaaDoorNeedPl
import Derived.Test.YtcpookgbneoilaaDoorRefRow
import Derived.Maps.AppendAt
import Derived.Deep.DeepCutAuto
import Derived.Test.YtcpookgbneoilaaDoorRefMix
import Derived.Test.YtcpookgbneoilaaDoorRefClear
import Derived.Test.YtcpookgbneoilaaDoorPeelM
import Derived.Shelf.Slices.In.SortNone
namespace Go.Proofs.YtcpookgbneoilaaDoor
open Go.ChangeShapes Go.WideShapes Go.ChangeAt Go.RowKit

theorem run_app_void {P : Program} {w : World} {B : Nat} {t ty e : TypeId} {i : TypeInfo} (ht : P.underlying t = some (.slice e)) (hi : P.info? e = some i)
    {v : Value} {xs : List Value} (hown : Own w B e v xs) (c : Nat) : (Builtin.append_ #[t, t] ty #[v, .slice none 0 c]).run P w = .ok v w := by
  rcases hown.2 with ⟨rfl, h0⟩ | ⟨g, cap, cur, rfl, _, _, hnc, _⟩
  · simp [Builtin.append_, run_underlying ht, sizeOf, typeInfo, hi, Builtin.lenOf, Builtin.firstCells]
  · simp [Builtin.append_, run_underlying ht, sizeOf, typeInfo, hi, Builtin.lenOf, Builtin.firstCells, hnc, storeCells]
theorem run_app_many {P : Program} (w : World) (B : Nat) (t ty e : TypeId) (z : Value) (bytes : Nat) (ht : P.underlying t = some (.slice e)) (hinfo : (P.info? e).map (fun i => (i.zero, i.size, i.bytes)) = some (some z, 1, bytes)) (hz : z.cells.size = 1) (hby : bytes ≤ 16)
    (v : Value) (xs : List Value) (hown : Own w B e v xs) (A : Option Addr) (m c : Nat) (ys : List Value) (hl : ys.length = m) (hr : RowAt w A m c (fun j => ys.getD j undef)) (h1 : ∀ u ∈ ys, u.oneCell' = true) (hn : xs.length + m < 1000000000000) (hB : B ≤ w.heap.size) :
    ∃ v' w', (Builtin.append_ #[t, t] ty #[v, .slice A m c]).run P w = .ok v' w' ∧ Own w' B e v' (xs ++ ys) ∧ w.grownBy w' v.ownBlock ∧ (v'.ownBlock = v.ownBlock ∨ v'.ownBlock = some w.heap.size) := by
  obtain ⟨i0, hi, hz0, hz1, hz2⟩ := info_parts hinfo
  rcases A with _ | ad
  · have hm : m = 0 := by
      rcases Nat.eq_zero_or_pos m with h0 | h0
      · exact h0
      · obtain ⟨b, o, h, _⟩ := hr.at_ (by omega)
        cases h
    subst hm
    have hy : ys = [] := List.eq_nil_of_length_eq_zero hl
    subst hy
    exact ⟨v, w, run_app_void ht hi hown c, by rw [List.append_nil]; exact hown, World.grownBy.refl w _, .inl rfl⟩
  · have hcells : ∀ j u, ys[j]? = some u → w.cell? (ad.add j) = some u := by
      intro j u hu
      have hj : j < m := by rw [← hl]; exact (List.getElem?_eq_some_iff.1 hu).1
      obtain ⟨b, o, h, hc⟩ := hr.at_ (by omega)
      injection h with h
      subst h
      rw [Addr.add_lit, hc j hj, List.getD_eq_getElem?_getD, hu]; rfl
    obtain ⟨v', w', hrun, h2, h3, _, h5⟩ := run_append_own_at (P := P) w B t ty e i0 z 1 bytes ht hi hz0 hz1 hz2 hz (by decide) v xs.length xs hown ad m c ys (by omega) hcells h1 (by unfold maxLen; omega)
      (by calc (xs.length + m) * bytes ≤ (xs.length + m) * 16 := Nat.mul_le_mul_left _ hby
            _ ≤ 140737488355328 := by omega) hB
    refine ⟨v', w', hrun, ?_, h3, h5⟩
    unfold Own; rw [List.length_append, hl]; exact h2
theorem AppStep.of {wr w' : World} {v v' : Value} (hgrow : wr.grownBy w' v.ownBlock) (hloc : v'.ownBlock = v.ownBlock ∨ v'.ownBlock = some wr.heap.size) : AppStep wr w' v v' :=
  ⟨fun k hk hne => hgrow.block k hk hne, hgrow.size, hloc.imp id fun h => ⟨_, h, Nat.le_refl _⟩⟩

theorem wpList_appM {P : Program} (wr w0 : World) (B : Nat) {ops : Array Oper} {rest : List Oper} {o : Oper} {a : Act} {Q : Exit → Act → World → Prop}
    (hg : o.guard = none) (s x : Operand) (t : TypeId) (ho : o.op = .call { callee := .builtin .append, args := #[s, x], argTypes := #[t, t] })
    (e : TypeId) (z : Value) (bytes : Nat) (ht : P.underlying t = some (.slice e)) (hinfo : (P.info? e).map (fun i => (i.zero, i.size, i.bytes)) = some (some z, 1, bytes)) (hz : z.cells.size = 1) (hby : bytes ≤ 16)
    (v : Value) (xs : List Value) (hs : a.eval s = v) (hown : Own wr B e v xs) (A : Option Addr) (m c : Nat) (ys : List Value) (hx : a.eval x = .slice A m c) (hl : ys.length = m) (hr : RowAt wr A m c (fun j => ys.getD j undef)) (h1 : ∀ u ∈ ys, u.oneCell' = true)
    (hn : xs.length + m < 1000000000000) (hB : B = w0.heap.size) (hb : Below B w0 wr)
    (K : ∀ v' w', Own w' B e v' (xs ++ ys) → Below B w0 w' → AppStep wr w' v v' → wpList P ops Q rest (a.put o.dst v') w') :
    wpList P ops Q (o :: rest) a wr := by
  have hsz := hb.size
  obtain ⟨v', w', hrun, h2, h3, h4⟩ := run_app_many wr B t o.type e z bytes ht hinfo hz hby v xs hown A m c ys hl hr h1 hn (by omega)
  refine wpList_plain hg fun K' hK => ?_
  unfold Oper.wp execOp
  simp only [ho, resolve, invoke, builtin, Sem.run_bind, Sem.run_pure, Result.andThen_ok, List.map_toArray, List.map_cons, List.map_nil, hs, hx, hrun]
  exact hK _ _ (K v' w' h2 (Below.grown hb h3 (by omega) fun k hk => (Own.lt hown k hk).1) (AppStep.of h3 h4))
theorem RowAt.ofInts {w : World} {a : Option Addr} {n cap : Nat} {zs : List Int} (h : IntsAt w a n cap zs) : RowAt w a n cap (fun j => (zs.map (Value.int .i64)).getD j undef) :=
  ⟨h.row.le, h.row.cap, fun hn => by
    obtain ⟨b, o, ha, hc⟩ := h.row.at_ hn
    refine ⟨b, o, ha, fun j hj => ?_⟩
    have hl := h.len
    have e : (zs.map (Value.int .i64)).getD j undef = .int .i64 (zs.getD j 0) := by
      rw [List.getD_eq_getElem?_getD, List.getElem?_map, List.getD_eq_getElem?_getD, List.getElem?_eq_getElem (by omega)]; rfl
    rw [hc j hj, e]⟩
theorem RowAt.ofStrs {w : World} {a : Option Addr} {n cap : Nat} {zs : List ByteArray} (h : StrsAt w a n cap zs) : RowAt w a n cap (fun j => (zs.map Value.string).getD j undef) :=
  ⟨h.row.le, h.row.cap, fun hn => by
    obtain ⟨b, o, ha, hc⟩ := h.row.at_ hn
    refine ⟨b, o, ha, fun j hj => ?_⟩
    have hl := h.len
    have e : (zs.map Value.string).getD j undef = .string (zs.getD j ByteArray.empty) := by
      rw [List.getD_eq_getElem?_getD, List.getElem?_map, List.getD_eq_getElem?_getD, List.getElem?_eq_getElem (by omega)]; rfl
    rw [hc j hj, e]⟩
theorem app_ints (wr w0 : World) (B : Nat) {ops : Array Oper} {rest : List Oper} {o : Oper} {a : Act} {Q : Exit → Act → World → Prop}
    (hg : o.guard = none) (s x : Operand) (ho : o.op = .call { callee := .builtin .append, args := #[s, x], argTypes := #[32, 32] })
    (v : Value) (zs ys : List Int) (hs : a.eval s = v) (hown : OwnInts wr B v zs) (A : Option Addr) (m c : Nat) (hx : a.eval x = .slice A m c) (hat : IntsAt wr A m c ys)
    (hn : zs.length + m < 1000000000000) (hB : B = w0.heap.size) (hb : Below B w0 wr)
    (K : ∀ v' w', OwnInts w' B v' (zs ++ ys) → Below B w0 w' → AppStep wr w' v v' → wpList Tryd.prog ops Q rest (a.put o.dst v') w') :
    wpList Tryd.prog ops Q (o :: rest) a wr :=
  wpList_appM wr w0 B hg s x 32 ho 3 (.int .i64 0) 8 Tryd.underlying32 info_int rfl (by decide) v _ hs hown A m c (ys.map (Value.int .i64)) hx (by rw [List.length_map]; exact hat.len) (RowAt.ofInts hat)
    (fun u hu => by obtain ⟨y, _, rfl⟩ := List.mem_map.1 hu; rfl) (by simpa using hn) hB hb
    (fun v' w' h1 h2 h3 => K v' w' (by simpa [OwnInts] using h1) h2 h3)
end Go.Proofs.YtcpookgbneoilaaDoor

namespace Go.Proofs.YtcpookgbneoilaaDoor
open Go.ChangeShapes Go.WideShapes Go.ChangeAt Go.RowKit

theorem Own.apart {w : World} {B C : Nat} {e f : TypeId} {v u : Value} {xs ys : List Value} (h : Own w B e v xs) (k : Own w C f u ys) (hef : e ≠ f) : ∀ g, v.ownBlock = some g → u.ownBlock ≠ some g := by
  intro g h1 h2
  rcases h.2 with ⟨rfl, _⟩ | ⟨g1, cap1, cur1, rfl, _, hg1, _⟩
  · simp [Value.ownBlock] at h1
  rcases k.2 with ⟨rfl, _⟩ | ⟨g2, cap2, cur2, rfl, _, hg2, _⟩
  · simp [Value.ownBlock] at h2
  obtain rfl : g1 = g := by simpa [Value.ownBlock] using h1
  obtain rfl : g2 = g1 := by simpa [Value.ownBlock] using h2
  rw [hg1] at hg2
  injection hg2 with hg2
  injection hg2 with _ hg2 _
  exact hef hg2
theorem Own.grown {w w' : World} {B : Nat} {e : TypeId} {v : Value} {xs : List Value} (h : Own w B e v xs) {row : Option Nat} (hg : w.grownBy w' row) (hne : ∀ g, v.ownBlock = some g → row ≠ some g) : Own w' B e v xs := by
  refine World.ownsRow.kept (row := row) h hg ?_
  cases hv : v.ownBlock with
  | none =>
    rcases h.2 with ⟨rfl, _⟩ | ⟨g1, cap1, cur1, rfl, _⟩
    · exact .inl rfl
    · simp [Value.ownBlock] at hv
  | some g => exact .inr (fun e => hne g hv e.symm)

theorem app_cell {P : Program} (w : World) (B : Nat) (t ty e : TypeId) (z : Value) (bytes : Nat) (ht : P.underlying t = some (.slice e)) (hinfo : (P.info? e).map (fun i => (i.zero, i.size, i.bytes)) = some (some z, 1, bytes)) (hz : z.cells.size = 1) (hby : bytes ≤ 16)
    (v : Value) (xs : List Value) (hown : Own w B e v xs) (g : Nat) (u : Value) (hc : w.cell? ⟨g, 0, none⟩ = some u) (hu : u.oneCell' = true) (hn : xs.length < 1000000000) (hB : B ≤ w.heap.size) :
    ∃ a' c' w', (Builtin.append_ #[t, t] ty #[v, .slice (some ⟨g, 0, none⟩) 1 1]).run P w = .ok (.slice a' (xs.length + 1) c') w' ∧ Own w' B e (.slice a' (xs.length + 1) c') (xs ++ [u]) ∧ w.grownBy w' v.ownBlock ∧
      ((Value.slice a' (xs.length + 1) c').ownBlock = v.ownBlock ∨ (Value.slice a' (xs.length + 1) c').ownBlock = some w.heap.size) := by
  have hrow1 : RowAt w (some ⟨g, 0, none⟩) 1 1 (fun j => [u].getD j undef) := by
    refine ⟨Nat.le_refl _, by unfold maxLen; omega, fun _ => ⟨g, 0, rfl, fun j hj => ?_⟩⟩
    obtain rfl : j = 0 := by omega
    exact hc
  obtain ⟨v', w', hrun, h2, h3, h4⟩ := run_app_many (P := P) w B t ty e z bytes ht hinfo hz hby v xs hown (some ⟨g, 0, none⟩) 1 1 [u] rfl hrow1 (fun x hx => by rw [List.mem_singleton.1 hx]; exact hu) (by omega) hB
  obtain ⟨a', c', hv', _⟩ := Own.slice h2
  rw [List.length_append, List.length_singleton] at hv'
  subst hv'
  exact ⟨a', c', w', hrun, h2, h3, h4⟩
end Go.Proofs.YtcpookgbneoilaaDoor

namespace Go.Proofs.YtcpookgbneoilaaDoor
open Go.RowKit Go.Extern.Stop Go.Stop Go.Extern

def Hnd (w : World) : Prop := w.cell? ⟨0, 0, none⟩ = some (.iface 132 (.agg #[.pointer (some ⟨1, 25, none⟩)]))
theorem Hnd.keep {w w' : World} (h : Hnd w) (hb : Below w.heap.size w w') : Hnd w' := Lat.cell_at hb h

/-! Closed facts on the model's entries for internal/reflectlite: P: *api.Errno, E: api.Errno. -/
theorem valueOfP (t : Addr) (w : World) : (ReflectliteValue.unpack (.iface 97 (.pointer (some t)))).run Tryd.prog w
    = .ok (.agg #[.pointer (some ⟨1, 97, none⟩), .pointer (some ⟨w.heap.size, 0, none⟩), .int .u64 150]) (w.alloc (.cells #[.pointer (some t)] 97)) := by kernel_rfl
theorem typeP (a : Addr) (w : World) : (ReflectliteValue.methodAny (ReflectliteValue.valueError "reflectlite.Value.Type" 0) (fun t _ _ _ => ReflectliteType.toType t) #[.agg #[.pointer (some ⟨1, 97, none⟩), .pointer (some a), .int .u64 150]]).run Tryd.prog w
    = .ok (.iface 132 (.agg #[.pointer (some ⟨1, 97, none⟩)])) w := by kernel_rfl
theorem methodKind (h : Value) (w : World) : (Go.method 295 132 (.agg #[h]) "Kind").run Tryd.prog w = .ok (109, h) w := by kernel_rfl
theorem kindP (w : World) : ((ReflectliteType.abiMethod fun t => (fun a : Nat => Value.int IntKind.u8 (a : Int)) <$> Rtype.kind t) #[.pointer (some ⟨1, 97, none⟩)]).run Tryd.prog w = .ok (.int .u8 22) w := by kernel_rfl
theorem kindE (w : World) : ((ReflectliteType.abiMethod fun t => (fun a : Nat => Value.int IntKind.u8 (a : Int)) <$> Rtype.kind t) #[.pointer (some ⟨1, 62, none⟩)]).run Tryd.prog w = .ok (.int .u8 2) w := by kernel_rfl
theorem rlm (z : Sem Value) (f : TypeId → Addr → Nat → Nat → Sem Value) (v : Value) :
    ReflectliteValue.method z f #[v] = (do match ← ReflectliteValue.parts v with | none => z | some (t, a, fl) => f t a fl (fl % 32)) := rfl
theorem partsP (a : Addr) (w : World) : (ReflectliteValue.parts (.agg #[.pointer (some ⟨1, 97, none⟩), .pointer (some a), .int .u64 150])).run Tryd.prog w = .ok (some (97, a, 150)) w := by kernel_rfl
theorem isNilP (a p : Addr) (W : World) (ha : W.cell? a = some (.pointer (some p))) :
    (ReflectliteValue.method (ReflectliteValue.valueError "reflectlite.Value.IsNil" 0) ReflectliteValue.isNil #[.agg #[.pointer (some ⟨1, 97, none⟩), .pointer (some a), .int .u64 150]]).run Tryd.prog W = .ok (.bool false) W := by
  rw [rlm]
  simp only [Sem.run_bind, partsP, Result.andThen]
  simp [ReflectliteValue.isNil, loadVar, isAgg, underlying, Tryd.underlying97, ha, Result.andThen]
theorem methodElem (h : Value) (w : World) : (Go.method 295 132 (.agg #[h]) "Elem").run Tryd.prog w = .ok (119, .agg #[h]) w := by kernel_rfl
theorem methodImplements (h : Value) (w : World) : (Go.method 295 132 (.agg #[h]) "Implements").run Tryd.prog w = .ok (120, .agg #[h]) w := by kernel_rfl
theorem methodAssignableTo (h : Value) (w : World) : (Go.method 295 132 (.agg #[h]) "AssignableTo").run Tryd.prog w = .ok (117, .agg #[h]) w := by kernel_rfl
theorem elemP (w : World) : (ReflectliteType.method ReflectliteType.elem #[.agg #[.pointer (some ⟨1, 97, none⟩)]]).run Tryd.prog w = .ok (.iface 132 (.agg #[.pointer (some ⟨1, 62, none⟩)])) w := by kernel_rfl
theorem implementsE (w : World) : (ReflectliteType.relation "Implements" ReflectliteType.implements_ #[.agg #[.pointer (some ⟨1, 62, none⟩)], .iface 132 (.agg #[.pointer (some ⟨1, 25, none⟩)])]).run Tryd.prog w = .ok (.bool true) w := by kernel_rfl
theorem typeOfE (v : Value) (w : World) : (ReflectliteType.typeOf #[.iface 62 v]).run Tryd.prog w = .ok (.iface 132 (.agg #[.pointer (some ⟨1, 62, none⟩)])) w := by kernel_rfl
theorem assignableE (w : World) : (ReflectliteType.relation "AssignableTo" ReflectliteType.assignableTo #[.agg #[.pointer (some ⟨1, 62, none⟩)], .iface 132 (.agg #[.pointer (some ⟨1, 62, none⟩)])]).run Tryd.prog w = .ok (.bool true) w := by kernel_rfl
theorem valueOfE (n : Int) (w : World) : (ReflectliteValue.unpack (.iface 62 (.int .i64 n))).run Tryd.prog w
    = .ok (.agg #[.pointer (some ⟨1, 62, none⟩), .pointer (some ⟨w.heap.size, 0, none⟩), .int .u64 130]) (w.alloc (.cells #[.int .i64 n] 62)) := by kernel_rfl
theorem elemOfP (w : World) : (Rtype.elem? 97).run Tryd.prog w = .ok (some 62) w := by kernel_rfl
theorem mkE (p : Addr) (w : World) : (ReflectliteValue.mk 62 p ReflectliteValue.flagAddr).run Tryd.prog w = .ok (.agg #[.pointer (some ⟨1, 62, none⟩), .pointer (some p), .int .u64 386]) w := by kernel_rfl
theorem elemVP (a p : Addr) (W : World) (ha : W.cell? a = some (.pointer (some p))) :
    (ReflectliteValue.method (ReflectliteValue.valueError "reflectlite.Value.Elem" 0) ReflectliteValue.elem #[.agg #[.pointer (some ⟨1, 97, none⟩), .pointer (some a), .int .u64 150]]).run Tryd.prog W
      = .ok (.agg #[.pointer (some ⟨1, 62, none⟩), .pointer (some p), .int .u64 386]) W := by
  rw [rlm]
  simp only [Sem.run_bind, partsP, Result.andThen]
  simp [ReflectliteValue.elem, loadVar, isAgg, underlying, Tryd.underlying97, ha, Result.andThen, elemOfP, mkE]
theorem rls (v x : Value) : ReflectliteValue.set #[v, x] = (do
    let (some (dst, a, fl), some (src, b, _)) := (← ReflectliteValue.parts v, ← ReflectliteValue.parts x)
      | unsupported (.noEntry "extern/(internal/reflectlite.Value).Set.zeroValue")
    if fl / ReflectliteValue.flagAddr % 2 == 0 then unsupported (.noEntry "extern/(internal/reflectlite.Value).Set.unaddressable")
    let val ← loadVar src b
    if ← Rtype.directlyAssignable dst src then storeVar dst a val
    else if ← Rtype.implements dst src then
      if (← Rtype.kind src) == 20 then
        match val with
        | .nilIface => unsupported (.noEntry "extern/reflectlite: a nil value of one interface type handed on as a value of another")
        | _ => storeVar dst a val
      else storeVar dst a (.iface src val)
    else panicString ("reflectlite.Set: value of type " ++ (← Rtype.spelt src) ++ " is not assignable to type " ++ (← Rtype.spelt dst))
    pure (.tuple #[])) := rfl
theorem partsEa (a : Addr) (w : World) : (ReflectliteValue.parts (.agg #[.pointer (some ⟨1, 62, none⟩), .pointer (some a), .int .u64 386])).run Tryd.prog w = .ok (some (62, a, 386)) w := by kernel_rfl
theorem partsE (a : Addr) (w : World) : (ReflectliteValue.parts (.agg #[.pointer (some ⟨1, 62, none⟩), .pointer (some a), .int .u64 130])).run Tryd.prog w = .ok (some (62, a, 130)) w := by kernel_rfl
theorem directE (w : World) : (Rtype.directlyAssignable 62 62).run Tryd.prog w = .ok true w := by kernel_rfl
theorem setE (ta b : Addr) (n : Int) (old : Value) (W : World) (hb : W.cell? b = some (.int .i64 n)) (ht : W.cell? ta = some old) (hf : W.frozen? ta = false) :
    (ReflectliteValue.set #[.agg #[.pointer (some ⟨1, 62, none⟩), .pointer (some ta), .int .u64 386], .agg #[.pointer (some ⟨1, 62, none⟩), .pointer (some b), .int .u64 130]]).run Tryd.prog W
      = .ok (.tuple #[]) (W.setCell ta (.int .i64 n)) := by
  rw [rls]
  simp only [Sem.run_bind, partsEa, partsE, Result.andThen]
  simp [ReflectliteValue.flagAddr, loadVar, isAgg, underlying, Tryd.underlying62, hb, Result.andThen, directE, storeVar, Value.cells, storeCells, Addr.add]
  rw [run_store Tryd.prog W ta _ _ (by rfl)]
  simp [ht, hf]

set_option maxHeartbeats 4000000 in
theorem as_hit (n : Int) (t : Addr) (old : Value) (w : World) (hg : Hnd w) (ht0 : w.cell? t = some old) (hf0 : w.frozen? t = false) :
    Calls Tryd.prog 48 #[eno n, .iface 97 (.pointer (some t))] w fun ev w' => ev = .returned (.bool true) ∧ w' = ((((w.alloc (.cells #[.pointer (some t)] 97)).alloc (.cells #[.pointer (some ⟨1, 97, none⟩), .pointer (some ⟨w.heap.size, 0, none⟩), .int .u64 150] 116)).alloc (.cells #[.pointer (some ⟨1, 97, none⟩), .pointer (some ⟨w.heap.size, 0, none⟩), .int .u64 150] 116)).alloc (.cells #[.int .i64 n] 62)).setCell t (.int .i64 n) := by
  have h6 := @run_callFunc_extern Tryd.prog 66 _ (fun args => ReflectliteValue.unpack (args.getD 0 (.tuple #[]))) Tryd.func66 (by kernel_rfl) (by kernel_rfl) (by kernel_rfl) (by kernel_rfl)
  have h7 := @run_callFunc_extern Tryd.prog 67 _ (ReflectliteValue.methodAny (ReflectliteValue.valueError "reflectlite.Value.Type" 0) (fun t _ _ _ => ReflectliteType.toType t)) Tryd.func67 (by kernel_rfl) (by kernel_rfl) (by kernel_rfl) (by kernel_rfl)
  have h8 := @run_callFunc_extern Tryd.prog 68 _ (ReflectliteValue.method (ReflectliteValue.valueError "reflectlite.Value.IsNil" 0) ReflectliteValue.isNil) Tryd.func68 (by kernel_rfl) (by kernel_rfl) (by kernel_rfl) (by kernel_rfl)
  have h27 := @run_callFunc_extern Tryd.prog 109 _ (ReflectliteType.abiMethod fun t => do pure (.int .u8 (← Rtype.kind t))) Tryd.func109 (by kernel_rfl) (by kernel_rfl) (by kernel_rfl) (by kernel_rfl)
  have h37 := @run_callFunc_extern Tryd.prog 119 _ (ReflectliteType.method ReflectliteType.elem) Tryd.func119 (by kernel_rfl) (by kernel_rfl) (by kernel_rfl) (by kernel_rfl)
  have h38 := @run_callFunc_extern Tryd.prog 120 _ (ReflectliteType.relation "Implements" ReflectliteType.implements_) Tryd.func120 (by kernel_rfl) (by kernel_rfl) (by kernel_rfl) (by kernel_rfl)
  have h10 := @run_callFunc_extern Tryd.prog 74 _ ReflectliteType.typeOf Tryd.func74 (by kernel_rfl) (by kernel_rfl) (by kernel_rfl) (by kernel_rfl)
  have h35 := @run_callFunc_extern Tryd.prog 117 _ (ReflectliteType.relation "AssignableTo" ReflectliteType.assignableTo) Tryd.func117 (by kernel_rfl) (by kernel_rfl) (by kernel_rfl) (by kernel_rfl)
  have h11 := @run_callFunc_extern Tryd.prog 75 _ (ReflectliteValue.method (ReflectliteValue.valueError "reflectlite.Value.Elem" 0) ReflectliteValue.elem) Tryd.func75 (by kernel_rfl) (by kernel_rfl) (by kernel_rfl) (by kernel_rfl)
  have h12 := @run_callFunc_extern Tryd.prog 76 _ ReflectliteValue.set Tryd.func76 (by kernel_rfl) (by kernel_rfl) (by kernel_rfl) (by kernel_rfl)
  have tO := typeOfE
  have mA := methodAssignableTo
  have a25 := assignableE
  have v25 := valueOfE
  have f6 := valueOfP
  have f7 := typeP
  have mK := methodKind
  have mE := methodElem
  have mI := methodImplements
  have k27 := kindP
  have k25 := kindE
  have e27 := elemP
  have i25 := implementsE
  have n8 := isNilP ⟨w.heap.size, 0, none⟩ t ((w.alloc (.cells #[.pointer (some t)] 97)).alloc (.cells #[.pointer (some ⟨1, 97, none⟩), .pointer (some ⟨w.heap.size, 0, none⟩), .int .u64 150] 116)) (by simp)
  have hb2 : Below w.heap.size w ((w.alloc (.cells #[.pointer (some t)] 97)).alloc (.cells #[.pointer (some ⟨1, 97, none⟩), .pointer (some ⟨w.heap.size, 0, none⟩), .int .u64 150] 116)) := Lat.trans (Lat.alloc _ _) (Lat.alloc _ _)
  have hg2 : ((w.alloc (.cells #[.pointer (some t)] 97)).alloc (.cells #[.pointer (some ⟨1, 97, none⟩), .pointer (some ⟨w.heap.size, 0, none⟩), .int .u64 150] 116)).cell? ⟨0, 0, none⟩ = some (.iface 132 (.agg #[.pointer (some ⟨1, 25, none⟩)])) := Lat.cell_at hb2 hg
  have hb4 : Below w.heap.size w ((((w.alloc (.cells #[.pointer (some t)] 97)).alloc (.cells #[.pointer (some ⟨1, 97, none⟩), .pointer (some ⟨w.heap.size, 0, none⟩), .int .u64 150] 116)).alloc (.cells #[.pointer (some ⟨1, 97, none⟩), .pointer (some ⟨w.heap.size, 0, none⟩), .int .u64 150] 116)).alloc (.cells #[.int .i64 n] 62)) := Lat.trans (Lat.trans (Lat.trans (Lat.alloc _ _) (Lat.alloc _ _)) (Lat.alloc _ _)) (Lat.alloc _ _)
  have htl : t.block < w.heap.size := World.block_lt_of_cell? _ _ ht0
  have el := elemVP ⟨w.heap.size, 0, none⟩ t (((w.alloc (.cells #[.pointer (some t)] 97)).alloc (.cells #[.pointer (some ⟨1, 97, none⟩), .pointer (some ⟨w.heap.size, 0, none⟩), .int .u64 150] 116)).alloc (.cells #[.pointer (some ⟨1, 97, none⟩), .pointer (some ⟨w.heap.size, 0, none⟩), .int .u64 150] 116)) (by rw [World.cell?_alloc_lt _ _ ⟨w.heap.size, 0, none⟩ (by simp; omega)]; simp)
  have st := setE t ⟨w.heap.size + 1 + 1 + 1, 0, none⟩ n old ((((w.alloc (.cells #[.pointer (some t)] 97)).alloc (.cells #[.pointer (some ⟨1, 97, none⟩), .pointer (some ⟨w.heap.size, 0, none⟩), .int .u64 150] 116)).alloc (.cells #[.pointer (some ⟨1, 97, none⟩), .pointer (some ⟨w.heap.size, 0, none⟩), .int .u64 150] 116)).alloc (.cells #[.int .i64 n] 62))
    (by rw [World.cell?_alloc_at _ _ _ _ (by simp)]; rfl) (Lat.cell_at hb4 ht0) (by rw [hb4.frozen htl]; exact hf0)
  unfold Hnd at hg
  clear hb2 hb4
  go_enter Tryd.func48, Tryd.ntmps48
  go_wp2
  refine wp_loop_rounds 1 ?_
  rw [rounds_succ]
  go_wp2
  go_ret
  exact ⟨rfl, rfl⟩

theorem told_nil (w : World) : Calls Tryd.prog 29 #[.nilIface] w fun e w' => e = .returned (.int .i64 0) ∧ Lat w w' := by
  go_enter Tryd.func29, Tryd.ntmps29
  go_wp2
  go_ret
  exact ⟨rfl, Lat.refl _⟩
theorem told_eno (n : Int) (w : World) (hg : Hnd w) : Calls Tryd.prog 29 #[eno n] w fun e w' => e = .returned (.int .i64 n) ∧ Lat w w' := by
  have hgA : Hnd (w.alloc (.cells #[.int .i64 0] 62)) := hg.keep (Lat.alloc _ _)
  have H := Lib.hid hgA
  clear hg hgA
  go_enter Tryd.func29, Tryd.ntmps29
  go_wp2_with (go_at_call 48; refine (as_hit n ⟨w.heap.size, 0, none⟩ (.int .i64 0) _ H.out (by simp) (by simp)).mono ?_; rintro e w' ⟨rfl, rfl⟩)
  go_ret
  exact ⟨rfl, Lat.trans (Lat.trans (Lat.trans (Lat.trans (Lat.alloc _ _) (Lat.alloc _ _)) (Lat.alloc _ _)) (Lat.alloc _ _)) (Lat.alloc _ _)⟩
end Go.Proofs.YtcpookgbneoilaaDoor

namespace Go.Proofs.YtcpookgbneoilaaDoor
open Go.ChangeShapes Go.WideShapes Go.ChangeAt Go.RowKit

def nxt (n : Int) : Int := n * 16807 % 2147483647
theorem nxt_bd (n : Int) : 0 ≤ nxt n ∧ nxt n < 2147483647 := by unfold nxt; omega
theorem nxt_eq (n : Int) : n * 16807 % 2147483647 = nxt n := rfl
def itn (n : Int) : Nat → Int
  | 0 => n
  | k + 1 => nxt (itn n k)
def rowL (n : Int) (k : Nat) : List Int := (List.range k).map fun i => itn n (i + 1)
theorem rowL_succ (n : Int) (k : Nat) : rowL n (k + 1) = rowL n k ++ [nxt (itn n k)] := by
  unfold rowL; rw [List.range_succ, List.map_append]; rfl

theorem go_any (n : Int) (w : World) (h0 : 0 ≤ n) (h1 : n ≤ 2147483647) :
    Calls Tryd.prog 52 #[.int .i64 n] w fun e w' => e = .returned (.int .i64 (nxt n)) ∧ w = w' := by
  go_enter Tryd.func52, Tryd.ntmps52
  go_wp2
  go_ret
  exact ⟨rfl, rfl⟩

theorem itn_bd (n : Int) (k : Nat) (h0 : 1 ≤ n) (h1 : n ≤ 2147483646) : 0 ≤ itn n k ∧ itn n k ≤ 2147483646 := by
  cases k with
  | zero => exact ⟨by unfold itn; omega, by unfold itn; omega⟩
  | succ k => have := nxt_bd (itn n k); exact ⟨this.1, by unfold itn; omega⟩
theorem rowL_length (n : Int) (k : Nat) : (rowL n k).length = k := by simp [rowL]
theorem rowL_wf (n : Int) (k : Nat) : ∀ z ∈ rowL n k, -9223372036854775808 ≤ z ∧ z ≤ 9223372036854775807 := by
  intro z hz
  unfold rowL at hz
  obtain ⟨i, _, rfl⟩ := List.mem_map.1 hz
  have := nxt_bd (itn n i)
  show _ ≤ nxt (itn n i) ∧ nxt (itn n i) ≤ _
  omega

end Go.Proofs.YtcpookgbneoilaaDoor

namespace Go.Proofs.YtcpookgbneoilaaDoor
open Go.ChangeShapes Go.WideShapes Go.ChangeAt Go.RowKit

def dgc (k n d : Nat) : Prop := n * k * d < 1000 * (d + k * (d - 1))
instance (k n d : Nat) : Decidable (dgc k n d) := inferInstanceAs (Decidable (_ < _))
def degFrom (k n : Nat) : Nat → Nat → Nat
  | 0, d => d
  | f + 1, d => if dgc k n d then d else degFrom k n f (d + 1)
def degF (k n : Nat) : Nat := if n * k < 1000 then 1 else degFrom k n (k - 2) 2

theorem dgc_top (k n : Nat) (hk : 1 ≤ k) (hn : n ≤ 999) : dgc k n k := by
  unfold dgc
  have h1 : k + k * (k - 1) = k * k := by
    obtain ⟨j, rfl⟩ : ∃ j, k = j + 1 := ⟨k - 1, by omega⟩
    simp only [Nat.add_sub_cancel]
    rw [Nat.mul_add (j + 1) j 1, Nat.mul_one]; omega
  rw [h1, Nat.mul_assoc]
  have : 0 < k * k := Nat.mul_pos hk hk
  exact Nat.mul_lt_mul_of_pos_right (by omega) this
theorem degFrom_eq (k n : Nat) : ∀ f d0 d, d0 ≤ d → d ≤ d0 + f → (∀ x, d0 ≤ x → x < d → ¬ dgc k n x) → (dgc k n d ∨ d = d0 + f) → degFrom k n f d0 = d
  | 0, d0, d, h1, h2, _, _ => by unfold degFrom; omega
  | f + 1, d0, d, h1, h2, h3, h4 => by
    unfold degFrom
    by_cases hd : d0 = d
    · subst hd
      rcases h4 with h | h
      · rw [if_pos h]
      · omega
    · rw [if_neg (h3 d0 (Nat.le_refl _) (by omega))]
      exact degFrom_eq k n f (d0 + 1) d (by omega) (by omega) (fun x hx hx2 => h3 x (by omega) hx2) (h4.imp id (fun h => by omega))
theorem degF_eq (k n d : Nat) (h0 : ¬ n * k < 1000) (h1 : 2 ≤ d) (h2 : d ≤ k) (h3 : ∀ x, 2 ≤ x → x < d → ¬ dgc k n x) (h4 : dgc k n d) : degF k n = d := by
  unfold degF; rw [if_neg h0]; exact degFrom_eq k n (k - 2) 2 d h1 (by omega) h3 (.inl h4)
theorem degF_bd (k n : Nat) (hk : 1 ≤ k) (hn : n ≤ 999) : 1 ≤ degF k n ∧ degF k n ≤ k := by
  unfold degF; split
  · omega
  · rename_i h
    have hk2 : 2 ≤ k := by
      rcases Nat.lt_or_ge k 2 with h2 | h2
      · have : k = 1 := by omega
        subst this; omega
      · exact h2
    have : ∀ f d, d ≤ degFrom k n f d ∧ degFrom k n f d ≤ d + f := by
      intro f
      induction f with
      | zero => intro d; unfold degFrom; omega
      | succ f ih =>
        intro d
        unfold degFrom; have := ih (d + 1); split <;> omega
    have := this (k - 2) 2
    omega

theorem dblocks_yes (k : Int) (w : World) (h0 : 1 ≤ k) (h1 : k ≤ 16) :
    Calls Tryd.prog 27 #[.int .i64 k] w fun e w' => e = .returned (.bool true) ∧ w = w' := by
  have hd : decide (k ≤ 16) = true := by simp; omega
  go_enter Tryd.func27, Tryd.ntmps27
  go_wp2
  go_ret
  exact ⟨rfl, rfl⟩
theorem dblocks_no (k : Int) (w : World) (h : k < 1 ∨ 16 < k) :
    Calls Tryd.prog 27 #[.int .i64 k] w fun e w' => e = .returned (.bool false) ∧ w = w' := by
  by_cases h0 : 1 ≤ k
  · have hd : decide (k ≤ 16) = false := by simp; omega
    clear h
    go_enter Tryd.func27, Tryd.ntmps27
    go_wp2
    go_ret
    exact ⟨rfl, rfl⟩
  · clear h
    go_enter Tryd.func27, Tryd.ntmps27
    go_wp2
    go_ret
    exact ⟨rfl, rfl⟩

theorem for_any (k n : Nat) (w : World) (hk : 1 ≤ k) (hk2 : k ≤ 16) (hn : n ≤ 999) :
    Calls Tryd.prog 53 #[.int .i64 k, .int .i64 n] w fun e w' => e = .returned (.int .i64 (degF k n)) ∧ w = w' := by
  have hp : n * k ≤ 999 * 16 := Nat.mul_le_mul hn hk2
  have hp' : (n : Int) * (k : Int) ≤ 15984 := by rw [← Int.natCast_mul]; omega
  have hp0 : 0 ≤ (n : Int) * (k : Int) := by rw [← Int.natCast_mul]; omega
  by_cases h1 : n * k < 1000
  · have e1 : degF k n = 1 := by unfold degF; rw [if_pos h1]
    have E := Lib.hid e1; clear e1
    have h1' : (n : Int) * (k : Int) < 1000 := by rw [← Int.natCast_mul]; omega
    clear hp h1
    go_enter Tryd.func53, Tryd.ntmps53
    go_wp2
    go_ret
    exact ⟨by rw [E.out]; rfl, rfl⟩
  · have h1' : 1000 ≤ (n : Int) * (k : Int) := by rw [← Int.natCast_mul]; omega
    have h1b : decide ((n : Int) * (k : Int) < 1000) = false := by simp; omega
    have HN := Lib.hid h1
    clear hp h1
    go_enter Tryd.func53, Tryd.ntmps53
    go_wp2
    go_loop [5] (fun d => ∃ j : Nat, 2 ≤ j ∧ j ≤ k ∧ d = .int .i64 j ∧ Hid (∀ x, 2 ≤ x → x < j → ¬ dgc k n x)) (fun d => k - (intOf d).toNat)
    case atStart =>
      have hk2 : 2 ≤ k := by
        rcases Nat.lt_or_ge k 2 with h2 | h2
        · have : k = 1 := by omega
          subst this; omega
        · exact h2
      exact ⟨2, Nat.le_refl _, hk2, rfl, fun x h1 h2 => by omega⟩
    case round =>
      obtain ⟨j, hj, hjk, rfl, hrel⟩ := hrel
      obtain ⟨A, hA⟩ : ∃ A, A = n * k * j := ⟨_, rfl⟩
      obtain ⟨B, hB⟩ : ∃ B, B = k * (j - 1) := ⟨_, rfl⟩
      have a1 : A ≤ 999 * 16 * 16 := by rw [hA]; exact Nat.mul_le_mul (Nat.mul_le_mul hn hk2) (by omega)
      have b1 : B ≤ 16 * 16 := by rw [hB]; exact Nat.mul_le_mul hk2 (by omega)
      have eA : (n : Int) * (k : Int) * (j : Int) = (A : Int) := by rw [hA]; simp
      have eB : (k : Int) * ((j : Int) - 1) = (B : Int) := by rw [hB, show ((j : Int) - 1) = ((j - 1 : Nat) : Int) from by omega]; simp
      have bA : 0 ≤ (n : Int) * (k : Int) * (j : Int) ∧ (n : Int) * (k : Int) * (j : Int) ≤ 255744 := by rw [eA]; omega
      have bB : 0 ≤ (k : Int) * ((j : Int) - 1) ∧ (k : Int) * ((j : Int) - 1) ≤ 256 := by rw [eB]; omega
      have hdg : dgc k n j ↔ ¬ 1000 * ((j : Int) + (k : Int) * ((j : Int) - 1)) ≤ (n : Int) * (k : Int) * (j : Int) := by
        unfold dgc; rw [eA, eB, ← hA, ← hB]; omega
      have HD := Lib.hid hdg
      clear eA eB hdg hA hB a1 b1
      by_cases hc : 1000 * ((j : Int) + (k : Int) * ((j : Int) - 1)) ≤ (n : Int) * (k : Int) * (j : Int)
      · have hlt : j < k := by
          rcases Nat.lt_or_ge j k with h | h
          · exact h
          · have : j = k := by omega
            subst this
            exact absurd hc (HD.out.1 (dgc_top j n hk hn))
        go_wp2
        go_round
        case rel => exact ⟨j + 1, by omega, by omega, by go_num, fun x h1 h2 => by
          by_cases hx : x = j
          · subst hx; intro h; exact HD.out.1 h hc
          · exact hrel.out x h1 (by omega)⟩
        case measure => simp [intOf]; omega
      · have he : degF k n = j := degF_eq k n j HN.out hj hjk hrel.out (HD.out.2 hc)
        have E := Lib.hid he; clear he
        go_wp2
        go_ret
        exact ⟨congrArg (fun x : Nat => Ending.returned (.int .i64 (x : Int))) E.out.symm, rfl⟩

theorem for_eq (k n d : Nat) (w : World) (hk : 1 ≤ k) (hk2 : k ≤ 16) (hn : n ≤ 999) (hd : degF k n = d + 1) :
    Calls Tryd.prog 53 #[.int .i64 k, .int .i64 n] w fun e w' => e = .returned (.int .i64 ((d : Int) + 1)) ∧ w = w' :=
  (for_any k n w hk hk2 hn).mono fun e w' h => ⟨by rw [h.1, hd]; rfl, h.2⟩

def tmsF (k : Nat) : Nat → Nat → Nat
  | 0, _ => 0
  | m + 1, j => tmsF k m j + if j + 1 = degF k m then 1 else 0
theorem tmsF_le (k : Nat) : ∀ m j, tmsF k m j ≤ m
  | 0, _ => Nat.le_refl _
  | m + 1, j => by have := tmsF_le k m j; unfold tmsF; split <;> omega
def tmsL (k : Nat) : List Int := (List.range k).map fun j => (tmsF k 1000 j : Int)
theorem tmsL_get (k j : Nat) (h : j < k) : (tmsL k).getD j 0 = (tmsF k 1000 j : Int) := by simp [tmsL, List.getD, h]
theorem tmsL_length (k : Nat) : (tmsL k).length = k := by simp [tmsL]

end Go.Proofs.YtcpookgbneoilaaDoor

namespace Go.Proofs.YtcpookgbneoilaaDoor

theorem degFrom_ge (k n : Nat) : ∀ f d, d ≤ degFrom k n f d
  | 0, d => Nat.le_refl _
  | f + 1, d => by unfold degFrom; have := degFrom_ge k n f (d + 1); split <;> omega
theorem dgc_mono (k n m d : Nat) (h : n ≤ m) (hm : dgc k m d) : dgc k n d := by
  unfold dgc at *
  have : n * k * d ≤ m * k * d := Nat.mul_le_mul_right _ (Nat.mul_le_mul_right _ h)
  omega
theorem degFrom_mono (k n m : Nat) (h : n ≤ m) : ∀ f d, degFrom k n f d ≤ degFrom k m f d
  | 0, d => Nat.le_refl _
  | f + 1, d => by
    unfold degFrom
    by_cases hm : dgc k m d
    · rw [if_pos hm, if_pos (dgc_mono k n m d h hm)]; exact Nat.le_refl _
    · rw [if_neg hm]
      by_cases hn : dgc k n d
      · rw [if_pos hn]; have := degFrom_ge k m f (d + 1); omega
      · rw [if_neg hn]; exact degFrom_mono k n m h f (d + 1)
theorem degF_mono (k n m : Nat) (h : n ≤ m) : degF k n ≤ degF k m := by
  have hk : n * k ≤ m * k := Nat.mul_le_mul_right _ h
  unfold degF
  by_cases h1 : m * k < 1000
  · rw [if_pos h1, if_pos (by omega)]; exact Nat.le_refl _
  · rw [if_neg h1]
    by_cases h2 : n * k < 1000
    · rw [if_pos h2]; have := degFrom_ge k m (k - 2) 2; omega
    · rw [if_neg h2]; exact degFrom_mono k n m h _ _

def tsum (k m : Nat) : Nat → Nat
  | 0 => 0
  | i + 1 => tsum k m i + tmsF k m i
theorem tsum_step (k m i : Nat) : tsum k m (i + 1) = tsum k m i + tmsF k m i := rfl
theorem tsum_zero (k : Nat) : ∀ i, tsum k 0 i = 0
  | 0 => rfl
  | i + 1 => by unfold tsum; rw [tsum_zero k i]; rfl
theorem tsum_succ (k m : Nat) (hm : 1 ≤ degF k m) : ∀ i, tsum k (m + 1) i = tsum k m i + if degF k m ≤ i then 1 else 0
  | 0 => by unfold tsum; rw [if_neg (by omega)]
  | i + 1 => by
    unfold tsum
    rw [tsum_succ k m hm i, tmsF]
    by_cases h1 : degF k m ≤ i
    · rw [if_pos h1, if_neg (by omega), if_pos (by omega)]; omega
    · by_cases h2 : i + 1 = degF k m
      · rw [if_neg h1, if_pos h2, if_pos (by omega)]; omega
      · rw [if_neg h1, if_neg h2, if_neg (by omega)]; omega
theorem tsum_all (k : Nat) (hk : 1 ≤ k) : ∀ m, m ≤ 1000 → tsum k m k = m
  | 0, _ => tsum_zero k k
  | m + 1, h => by
    have hb := degF_bd k m hk (by omega)
    rw [tsum_succ k m hb.1, tsum_all k hk m (by omega), if_pos hb.2]
theorem tsum_le (k m i : Nat) : tsum k m i ≤ i * m := by
  induction i with
  | zero => simp [tsum]
  | succ i ih => unfold tsum; have := tmsF_le k m i; rw [Nat.succ_mul]; omega
theorem tmsF_half : ∀ k, k ≤ 16 → 2 ≤ k → 500 ≤ tmsF k 1000 0 + tmsF k 1000 1 := by decide +kernel
theorem tmsF_two : tmsF 2 1000 0 = 500 := by decide +kernel
end Go.Proofs.YtcpookgbneoilaaDoor

namespace Go.Proofs.YtcpookgbneoilaaDoor
open Go.ChangeShapes Go.WideShapes Go.ChangeAt Go.RowKit

theorem own : ownKnob Tryd.prog.godebug = none := by kernel_rfl
theorem laidOut : laidOutB Tryd.prog = true := by kernel_rfl
theorem errType_at : Tryd.prog.globalNamed "errors.errorType" = some 0 := by kernel_rfl
theorem rtype_at : (Tryd.prog.cutTypes.find? (·.1 == "internal/reflectlite.rtype")).map (·.2) = some 132 := by kernel_rfl
theorem oneRow : ((List.range 195).filter fun t => Tryd.prog.rowNamed t [101, 114, 114, 111, 114]) = [25] := by kernel_rfl
theorem types_size : Tryd.prog.types.size = 195 := by kernel_rfl
theorem handle_of_laid {W : World} (h : laidMetH Tryd.prog [("errors.errorType", Rows.laid_errors_errorType)] W) : Hnd W := by
  have h' : laidMet Tryd.prog [] W ∧ handlesMet Tryd.prog [("errors.errorType", Rows.laid_errors_errorType)] W := h
  obtain ⟨name, u, ty, e1, e2, e3, e4, e5⟩ := h'.2 _ (List.mem_singleton.2 rfl)
  have en : name = [101, 114, 114, 111, 114] := (Option.some.inj e1).symm
  subst en
  obtain rfl := Option.some.inj (rtype_at.symm.trans e2)
  have hm : ty ∈ (List.range 195).filter fun t => Tryd.prog.rowNamed t [101, 114, 114, 111, 114] := List.mem_filter.2 ⟨List.mem_range.2 (by rw [← types_size]; exact e3), e4⟩
  rw [oneRow] at hm
  obtain rfl := List.mem_singleton.1 hm
  have hh : typeHandle Tryd.prog 25 = .pointer (some ⟨1, 25, none⟩) := by kernel_rfl
  rw [hh] at e5
  unfold Hnd
  simpa using World.var?_cell errType_at e5 0
noncomputable def laidWorld (os : Os) : World :=
  { World.holding Tryd.prog os ⟨#[], #[], []⟩ with heap := (World.holding Tryd.prog os ⟨#[], #[], []⟩).heap.modify 0 fun
      | .cells _ t frozen => .cells #[.iface 132 (.agg #[.pointer (some ⟨1, 25, none⟩)])] t frozen
      | o => o }
theorem laidWorld_met (os : Os) (args : Array Value) : laidMetH Tryd.prog [("errors.errorType", Rows.laid_errors_errorType)] ((laidWorld os).forCall (fun _ _ => 0) ⟨#[], args, []⟩).memory :=
  laidMetH_of_parts (laidMet_nil _ _) (by kernel_rfl)
end Go.Proofs.YtcpookgbneoilaaDoor

namespace Go.Proofs.YtcpookgbneoilaaDoor
def nxtN (n : Nat) : Nat := n * 16807 % 2147483647
def dgcB (k n d : Nat) : Bool := Nat.blt (n * k * d) (1000 * (d + k * (d - 1)))
def degFromB (k n : Nat) : Nat → Nat → Nat
  | 0, d => d
  | f + 1, d => bif dgcB k n d then d else degFromB k n f (d + 1)
def degFB (k n : Nat) : Nat := bif Nat.blt (n * k) 1000 then 1 else degFromB k n (k - 2) 2
def memB (i : Nat) : List Nat → Bool
  | [] => false
  | x :: l => bif Nat.beq x i then true else memB i l
def runB (k : Nat) : Nat → Nat → Nat → List Nat → Bool
  | 0, d, _, _ => Nat.beq d 0
  | f + 1, d, n, out => bif Nat.beq d 0 then true else bif memB (nxtN n % k) out then runB k f d (nxtN n) out else runB k f (d - 1) (nxtN n) (nxtN n % k :: out)
def okB (k seed : Nat) : Bool := runB k 150 (degFB k (nxtN seed % 1000)) (nxtN seed) []
def okAllB (k : Nat) : Nat → Nat → Bool
  | 0, _ => true
  | m + 1, s => bif okB k s then okAllB k m (s + 1) else false
set_option maxRecDepth 1000000
theorem okAll1 : okAllB 1 9999 2 = true := by decide +kernel
theorem okAll2 : okAllB 2 9998 3 = true := by decide +kernel
theorem okAll3 : okAllB 3 9997 4 = true := by decide +kernel
theorem okAll4 : okAllB 4 9996 5 = true := by decide +kernel
theorem okAll5 : okAllB 5 9995 6 = true := by decide +kernel
theorem okAll6 : okAllB 6 9994 7 = true := by decide +kernel
theorem okAll7 : okAllB 7 9993 8 = true := by decide +kernel
theorem okAll8 : okAllB 8 9992 9 = true := by decide +kernel
theorem okAll9 : okAllB 9 9991 10 = true := by decide +kernel
theorem okAll10 : okAllB 10 9990 11 = true := by decide +kernel
theorem okAll11 : okAllB 11 9989 12 = true := by decide +kernel
theorem okAll12 : okAllB 12 9988 13 = true := by decide +kernel
theorem okAll13 : okAllB 13 9987 14 = true := by decide +kernel
theorem okAll14 : okAllB 14 9986 15 = true := by decide +kernel
theorem okAll15 : okAllB 15 9985 16 = true := by decide +kernel
theorem okAll16 : okAllB 16 9984 17 = true := by decide +kernel
end Go.Proofs.YtcpookgbneoilaaDoor

namespace Go.Proofs.YtcpookgbneoilaaDoor

theorem nxt_cast (n : Nat) : nxt (n : Int) = (nxtN n : Int) := by unfold nxt nxtN; omega
theorem blt_eq (a b : Nat) : Nat.blt a b = decide (a < b) := by
  rw [Bool.eq_iff_iff]; simp [Nat.blt_eq]
theorem degFromB_eq (k n : Nat) : ∀ f d, degFromB k n f d = degFrom k n f d
  | 0, _ => rfl
  | f + 1, d => by
    unfold degFromB degFrom dgcB dgc
    rw [blt_eq, degFromB_eq k n f (d + 1)]
    by_cases h : n * k * d < 1000 * (d + k * (d - 1)) <;> simp [h]
theorem degFB_eq (k n : Nat) : degFB k n = degF k n := by
  unfold degFB degF
  rw [blt_eq, degFromB_eq]
  by_cases h : n * k < 1000 <;> simp [h]
theorem memB_iff (i : Nat) : ∀ l, memB i l = true ↔ i ∈ l
  | [] => by simp [memB]
  | x :: l => by
    unfold memB
    by_cases h : x = i
    · subst h; simp
    · have hb : Nat.beq x i = false := by rw [Bool.eq_false_iff]; intro e; exact h (Nat.eq_of_beq_eq_true e)
      rw [hb, cond_false, memB_iff i l]
      simp [Ne.symm h]
theorem okAllB_at (k : Nat) : ∀ m s, okAllB k m s = true → ∀ x, s ≤ x → x < s + m → okB k x = true
  | 0, s, _, x, h1, h2 => by omega
  | m + 1, s, h, x, h1, h2 => by
    unfold okAllB at h
    by_cases hs : okB k s = true
    · rw [hs, cond_true] at h
      by_cases e : x = s
      · subst e; exact hs
      · exact okAllB_at k m (s + 1) h x (by omega) (by omega)
    · rw [Bool.not_eq_true] at hs
      rw [hs, cond_false] at h
      cases h

def dgo (k d : Nat) : Nat → Nat → List Nat → List Nat
  | 0, _, out => out
  | f + 1, n, out => if out.length < d then dgo k d f (nxtN n) (if nxtN n % k ∈ out then out else out ++ [nxtN n % k]) else out
theorem dgo_done (k d f n : Nat) (out : List Nat) (h : ¬ out.length < d) : dgo k d f n out = out := by
  cases f with
  | zero => rfl
  | succ f => unfold dgo; rw [if_neg h]
theorem runB_dgo (k : Nat) : ∀ f d n L out, (∀ i, i ∈ L ↔ i ∈ out) → runB k f d n out = true → (dgo k (L.length + d) f n L).length = L.length + d
  | 0, d, n, L, out, _, h => by
    have : d = 0 := Nat.eq_of_beq_eq_true h
    subst this; rfl
  | f + 1, d, n, L, out, hm, h => by
    by_cases hd : d = 0
    · subst hd; rw [dgo_done _ _ _ _ _ (by omega)]; rfl
    · have hb : Nat.beq d 0 = false := by rw [Bool.eq_false_iff]; intro e; exact hd (Nat.eq_of_beq_eq_true e)
      unfold runB at h
      rw [hb, cond_false] at h
      unfold dgo
      rw [if_pos (by omega)]
      by_cases hmem : nxtN n % k ∈ out
      · rw [(memB_iff _ _).2 hmem, cond_true] at h
        rw [if_pos ((hm _).2 hmem)]
        exact runB_dgo k f d (nxtN n) L out hm h
      · have hmf : memB (nxtN n % k) out = false := by rw [Bool.eq_false_iff]; intro e; exact hmem ((memB_iff _ _).1 e)
        rw [hmf, cond_false] at h
        rw [if_neg (fun e => hmem ((hm _).1 e))]
        have ih := runB_dgo k f (d - 1) (nxtN n) (L ++ [nxtN n % k]) (nxtN n % k :: out) (by intro i; simp [hm i, or_comm]) h
        rw [List.length_append, List.length_singleton] at ih
        have e : L.length + 1 + (d - 1) = L.length + d := by omega
        rw [e] at ih
        exact ih
theorem dgo_nodup (k d : Nat) : ∀ f n L, L.Nodup → (dgo k d f n L).Nodup
  | 0, _, _, h => h
  | f + 1, n, L, h => by
    unfold dgo
    split
    · apply dgo_nodup
      split
      · exact h
      · rename_i hn
        rw [List.nodup_append]
        exact ⟨h, by simp, fun a ha b hb => by rw [List.mem_singleton] at hb; subst hb; intro e; exact hn (e ▸ ha)⟩
    · exact h
theorem dgo_lt (k d : Nat) (hk : 1 ≤ k) : ∀ f n L, (∀ i ∈ L, i < k) → ∀ i ∈ dgo k d f n L, i < k
  | 0, _, _, h => h
  | f + 1, n, L, h => by
    unfold dgo
    split
    · apply dgo_lt k d hk
      split
      · exact h
      · intro i hi
        rcases List.mem_append.1 hi with hi | hi
        · exact h i hi
        · rw [List.mem_singleton] at hi; subst hi; exact Nat.mod_lt _ (by omega)
    · exact h

theorem ok_every (k seed : Nat) (h1 : 1 ≤ k) (h2 : k ≤ 16) (h3 : k < seed) (h4 : seed ≤ 10000) : okB k seed = true := by
  have h : okAllB k (10000 - k) (k + 1) = true := by
    have hc : k = 1 ∨ k = 2 ∨ k = 3 ∨ k = 4 ∨ k = 5 ∨ k = 6 ∨ k = 7 ∨ k = 8 ∨ k = 9 ∨ k = 10 ∨ k = 11 ∨ k = 12 ∨ k = 13 ∨ k = 14 ∨ k = 15 ∨ k = 16 := by omega
    rcases hc with rfl | rfl | rfl | rfl | rfl | rfl | rfl | rfl | rfl | rfl | rfl | rfl | rfl | rfl | rfl | rfl
    · exact okAll1
    · exact okAll2
    · exact okAll3
    · exact okAll4
    · exact okAll5
    · exact okAll6
    · exact okAll7
    · exact okAll8
    · exact okAll9
    · exact okAll10
    · exact okAll11
    · exact okAll12
    · exact okAll13
    · exact okAll14
    · exact okAll15
    · exact okAll16
  exact okAllB_at k _ _ h seed (by omega) (by omega)

def drawn (k seed : Nat) : List Nat := dgo k (degF k (nxtN seed % 1000)) 150 (nxtN seed) []
theorem drawn_length (k seed : Nat) (h1 : 1 ≤ k) (h2 : k ≤ 16) (h3 : k < seed) (h4 : seed ≤ 10000) : (drawn k seed).length = degF k (nxtN seed % 1000) := by
  have h := ok_every k seed h1 h2 h3 h4
  unfold okB at h
  rw [degFB_eq] at h
  have := runB_dgo k 150 (degF k (nxtN seed % 1000)) (nxtN seed) [] [] (fun i => Iff.rfl) h
  rw [List.length_nil, Nat.zero_add] at this
  exact this
end Go.Proofs.YtcpookgbneoilaaDoor

namespace Go.Proofs.YtcpookgbneoilaaDoor
open Go.ChangeShapes Go.WideShapes Go.ChangeAt Go.RowKit

def whl (k x t : Nat) : Nat := if t % (k + x) < k then t % (k + x) + 1 else t % (k + x) + 1 + t / (k + x) * x
theorem whl_rx (k x t : Nat) : t / (k + x) * x ≤ t := by
  have h1 : t / (k + x) * x ≤ t / (k + x) * (k + x) := Nat.mul_le_mul_left _ (by omega)
  have h2 := Nat.div_mul_le_self t (k + x)
  omega

theorem seed_yes (n : Int) (w : World) (h0 : 1 ≤ n) (h1 : n ≤ 10000) :
    Calls Tryd.prog 51 #[.int .i64 n] w fun e w' => e = .returned (.bool true) ∧ w = w' := by
  have hd : decide (n ≤ 10000) = true := decide_eq_true (by omega)
  go_enter Tryd.func51, Tryd.ntmps51
  go_wp2
  go_ret
  exact ⟨rfl, rfl⟩
theorem seed_no (n : Int) (w : World) (h : n < 1 ∨ 10000 < n) :
    Calls Tryd.prog 51 #[.int .i64 n] w fun e w' => e = .returned (.bool false) ∧ w = w' := by
  by_cases h0 : 1 ≤ n
  · have hd : decide (n ≤ 10000) = false := decide_eq_false (by omega)
    clear h
    go_enter Tryd.func51, Tryd.ntmps51
    go_wp2
    go_ret
    exact ⟨rfl, rfl⟩
  · clear h
    go_enter Tryd.func51, Tryd.ntmps51
    go_wp2
    go_ret
    exact ⟨rfl, rfl⟩

end Go.Proofs.YtcpookgbneoilaaDoor

namespace Go.Proofs.YtcpookgbneoilaaDoor
open Go.ChangeShapes Go.WideShapes Go.ChangeAt Go.RowKit Go.Sort

abbrev encI : Int → Value := Value.int .i64
theorem take_putI (cur : Array Value) (ts : List Int) (h : ts.length ≤ cur.size) : (putCells encI 0 ts.toArray cur).toList.take ts.length = ts.map encI := by
  apply List.ext_getElem?
  intro j
  by_cases hj : j < ts.length
  · rw [List.getElem?_take_of_lt hj, Array.getElem?_toList]
    simp [putCells, hj, show j < cur.size by omega]
  · rw [List.getElem?_take_eq_none (by omega), List.getElem?_eq_none (by simp; omega)]

theorem sort_own (B : Nat) (v : Value) (zs : List Int) (w w0 : World) (h : OwnInts w B v zs) (hne : zs ≠ []) (hl : zs.length ≤ 1000000) (hB : B = w0.heap.size) (hb : Below B w0 w) :
    Calls Tryd.prog 55 #[v] w fun e w' => e = .returned (.tuple #[]) ∧ OwnInts w' B v (zs.mergeSort fun x y => decide (x ≤ y)) ∧ Below B w0 w' := by
  obtain ⟨hlen, hor⟩ := h
  rw [List.length_map] at hor
  rcases hor with ⟨rfl, h0⟩ | ⟨g, cap, cur, rfl, hg, hh, hn, hc, hs, ht⟩
  · exact absurd (List.eq_nil_of_length_eq_zero h0) hne
  · have hgl : g < w.heap.size := (Array.getElem?_eq_some_iff.1 hh).1
    rw [Nat.mul_one] at ht hs
    have hH : Holds (Value.int .i64) w g 0 zs.toArray := by
      intro j hj
      have hj' : j < zs.length := by simpa using hj
      refine ⟨?_, by simp [World.frozen?, hh]⟩
      have h1 : (cur.toList.take zs.length)[j]? = (zs.map encI)[j]? := by rw [ht]
      rw [List.getElem?_take_of_lt hj'] at h1
      simp only [World.cell?, hh, Nat.zero_add]
      simp only [Option.isSome_none, Bool.false_eq_true, if_false]
      rw [← Array.getElem?_toList, h1]
      simp [hj']
    refine (Tryd.slices_Sort_int g 0 cap zs w hH hgl (by omega)).mono ?_
    rintro e w' ⟨he, n, os, rfl⟩
    have hts : (zs.mergeSort fun x y => decide (x ≤ y)).length = zs.length := List.length_mergeSort _
    refine ⟨he, ⟨by simp, .inr ⟨g, cap, putCells encI 0 (zs.mergeSort fun x y => decide (x ≤ y)).toArray cur, ?_, hg, ?_, by simpa using hn, hc, by simp [putCells, hs], ?_⟩⟩, ?_⟩
    · simp
    · rw [heap_grow_old _ _ (by simpa using hgl)]
      simp [putRow, mapBlock, Sort.ahead, Array.getElem?_modify, hh, onCells]
    · rw [Nat.mul_one, List.length_map]; exact take_putI cur _ (by omega)
    · refine hb.trans ⟨rfl, rfl, rfl, by simp, fun k hk => ?_⟩
      have := hb.size
      rw [heap_grow_old _ _ (by simp; omega)]
      have : g ≠ k := by omega
      simp [putRow, mapBlock, Sort.ahead, Array.getElem?_modify, this]
end Go.Proofs.YtcpookgbneoilaaDoor

namespace Go.Proofs.YtcpookgbneoilaaDoor
open Go.ChangeShapes Go.WideShapes Go.ChangeAt Go.RowKit

def setZ (k seed : Nat) : List Int := if seed ≤ k then [((seed - 1 : Nat) : Int)] else ((drawn k seed).map Int.ofNat).mergeSort (fun x y => decide (x ≤ y))
theorem goN (n : Nat) (w : World) (h1 : n ≤ 2147483647) :
    Calls Tryd.prog 52 #[.int .i64 n] w fun e w' => e = .returned (.int .i64 (nxtN n)) ∧ w = w' :=
  (go_any n w (by omega) (by omega)).mono fun e w' h => ⟨by rw [h.1, nxt_cast], h.2⟩
theorem nxtN_lt (n : Nat) : nxtN n < 2147483647 := Nat.mod_lt _ (by omega)
theorem mem_ofNat (i : Nat) (L : List Nat) : ((i : Int) ∈ L.map Int.ofNat) ↔ i ∈ L := by
  constructor
  · intro h; obtain ⟨j, hj, e⟩ := List.mem_map.1 h
    have : j = i := by have e' : (j : Int) = (i : Int) := e; omega
    exact this ▸ hj
  · intro h; exact List.mem_map.2 ⟨i, h, rfl⟩
theorem setZ_lt (k seed : Nat) (h1 : 1 ≤ k) (h2 : 1 ≤ seed) : ∀ z ∈ setZ k seed, 0 ≤ z ∧ z < k := by
  intro z hz
  unfold setZ at hz
  split at hz
  · rw [List.mem_singleton] at hz; subst hz; omega
  · rw [List.mem_mergeSort] at hz
    obtain ⟨j, hj, rfl⟩ := List.mem_map.1 hz
    have := dgo_lt k _ h1 150 (nxtN seed) [] (by simp) j hj
    have e : Int.ofNat j = (j : Int) := rfl
    omega
theorem setZ_length (k seed : Nat) (h1 : 1 ≤ k) (h2 : k ≤ 16) (h4 : seed ≤ 10000) : 1 ≤ (setZ k seed).length ∧ (setZ k seed).length ≤ k := by
  unfold setZ
  split
  · simp; omega
  · rw [List.length_mergeSort, List.length_map, drawn_length k seed h1 h2 (by omega) h4]
    exact degF_bd k _ h1 (by omega)

set_option maxHeartbeats 1000000 in
set_option maxRecDepth 100000 in
theorem dropOf_new (k seed : Nat) (w : World) (h1 : 1 ≤ k) (h2 : k ≤ 16) (h3 : 1 ≤ seed) (h4 : seed ≤ 10000) :
    Calls Tryd.prog 35 #[.int .i64 k, .int .i64 seed] w fun e w' => ∃ a cap, e = .returned (.slice a (setZ k seed).length cap) ∧ IntsAt w' a (setZ k seed).length cap (setZ k seed) ∧ (∀ b o, a = some ⟨b, o, none⟩ → w.heap.size ≤ b) ∧ Lat w w' := by
  by_cases hle : seed ≤ k
  · have d1 : decide (seed ≤ k) = true := decide_eq_true hle
    have e1 : setZ k seed = [((seed - 1 : Nat) : Int)] := by unfold setZ; rw [if_pos hle]
    have e2 : (seed : Int) - 1 = ((seed - 1 : Nat) : Int) := by omega
    have hat := ints_new w [(seed : Int) - 1] 3 (by simp) (by intro z hz; rw [List.mem_singleton] at hz; subst hz; omega)
    rw [e1, ← e2]
    have HT := Lib.hid hat
    clear hat e1 e2
    go_enter Tryd.func35, Tryd.ntmps35
    go_wp2
    go_ret
    exact ⟨_, _, rfl, HT.out, fun b o e => by
      injection e with e
      injection e with e _ _
      exact Nat.le_of_eq e, Lat.alloc _ _⟩
  · have d1 : decide (seed ≤ k) = false := decide_eq_false hle
    have hl := drawn_length k seed h1 h2 (by omega) h4
    obtain ⟨d, hd⟩ : ∃ d, d = degF k (nxtN seed % 1000) := ⟨_, rfl⟩
    have hdb := degF_bd k (nxtN seed % 1000) h1 (by omega)
    rw [← hd] at hl hdb
    have hdr : dgo k d 150 (nxtN seed) [] = drawn k seed := by rw [hd]; rfl
    have hset : setZ k seed = ((drawn k seed).map Int.ofNat).mergeSort (fun x y => decide (x ≤ y)) := by unfold setZ; rw [if_neg hle]
    have hsl : (setZ k seed).length = d := by rw [hset, List.length_mergeSort, List.length_map, hl]
    rw [hsl]
    have HD := Lib.hid hd; have HL := Lib.hid hl; have HDR := Lib.hid hdr; have HS := Lib.hid hset
    have hs3 := nxtN_lt seed
    clear hd hl hdr hset hle hsl
    go_enter Tryd.func35, Tryd.ntmps35
    go_wp2_with (first | (go_at_call 52; refine (goN seed _ (by omega)).mono ?_; rintro e w' ⟨rfl, rfl⟩) | (go_at_call 53; refine (for_any k (nxtN seed % 1000) _ h1 h2 (by omega)).mono ?_; rw [← HD.out]; rintro e w' ⟨rfl, rfl⟩))
    have hd0 : 1 ≤ d := hdb.1
    have hd16 : d ≤ 16 := by omega
    clear hdb
    go_loopg [5, 7] 150 (fun f nv v wr => ∃ (nn : Nat) (L : List Nat), nv = .int .i64 nn ∧ nn < 2147483647 ∧ Hid (OwnInts wr w.heap.size v (L.map Int.ofNat) ∧ Lat w wr ∧ dgo k d f nn L = drawn k seed ∧ L.length ≤ d ∧ ∀ i ∈ L, i < k))
    case atStart => exact ⟨nxtN seed, [], rfl, hs3, Own.nil _ _ _, Lat.refl _, HDR.out, Nat.zero_le _, by simp⟩
    case round =>
      obtain ⟨nn, L, rfl, hnn, hrel⟩ := hrel
      obtain ⟨hown, hb, hdg, hLd, hLk⟩ := hrel.out
      obtain ⟨a, cap, rfl, hat⟩ := OwnInts.slice hown (fun z hz => by
        obtain ⟨j, hj, rfl⟩ := List.mem_map.1 hz
        have := hLk j hj
        have e : Int.ofNat j = (j : Int) := rfl
        omega)
      obtain ⟨ln, hln⟩ : ∃ ln, ln = (L.map Int.ofNat).length := ⟨_, rfl⟩
      have hln2 : ln = L.length := by rw [hln, List.length_map]
      rw [← hln] at hown hat hrel ⊢
      have hlb : ln ≤ 16 := by omega
      have HO := Lib.hid hown; have HDG := Lib.hid hdg; have HLN := Lib.hid hln2; have HLK := Lib.hid hLk; have HA := Lib.hid hat
      have hnext := nxtN_lt nn
      by_cases hlt : ln < d
      · have hgk : ∃ g, gk = g + 1 := by
          rcases Nat.eq_zero_or_pos gk with h0 | h0
          · subst h0
            exfalso
            have e : L = drawn k seed := hdg
            have := HL.out
            rw [← e] at this
            omega
          · exact ⟨gk - 1, by omega⟩
        obtain ⟨g, hg⟩ := hgk
        have hstep : dgo k d g (nxtN nn) (if nxtN nn % k ∈ L then L else L ++ [nxtN nn % k]) = drawn k seed := by
          rw [hg] at hdg
          rw [← hdg]
          have hL : L.length < d := by omega
          exact (if_pos hL).symm
        have HST := Lib.hid hstep
        have HG := Lib.hid hg
        have HB := Lib.hid hb
        have hkz : ((k : Int) == 0) = false := by simp; omega
        clear hown hdg hLd hLk hat hln hln2 hstep hg hrel
        by_cases hmem : nxtN nn % k ∈ L
        · have hm2 : ((nxtN nn : Nat) : Int) % (k : Int) ∈ L.map Int.ofNat := (mem_ofNat _ L).2 hmem
          have HM := Lib.hid hm2
          have HM1 := Lib.hid hmem
          clear hm2 hmem
          go_wp2_with (first | (go_at_call 52; refine (goN nn _ (by omega)).mono ?_; rintro e w' ⟨rfl, rfl⟩) | (go_at_call 54; refine (containsI_yes a ln cap (L.map Int.ofNat) _ _ HA.out HM.out).mono ?_; rintro e w' ⟨rfl, rfl⟩))
          go_roundg g
          case measure => rw [HG.out]; omega
          case rel => exact ⟨nxtN nn, L, rfl, hnext, HO.out, HB.out, by have := HST.out; rw [if_pos HM1.out] at this; exact this, by rw [← HLN.out]; omega, HLK.out⟩
        · have hm2 : ((nxtN nn : Nat) : Int) % (k : Int) ∉ L.map Int.ofNat := fun h => hmem ((mem_ofNat _ L).1 h)
          have HM := Lib.hid hm2
          have HM1 := Lib.hid hmem
          have hlen : (L.map Int.ofNat).length < 1000000000000 := by rw [List.length_map, ← HLN.out]; omega
          have HLL := Lib.hid hlen
          clear hm2 hmem hlen
          go_wp2_with (first | (go_at_call 52; refine (goN nn _ (by omega)).mono ?_; rintro e w' ⟨rfl, rfl⟩) | (go_at_call 54; refine (containsI_no a ln cap (L.map Int.ofNat) _ _ HA.out HM.out).mono ?_; rintro e w' ⟨rfl, rfl⟩) | (at_builtin; refine app_int wr w _ rfl _ _ rfl _ _ _ rfl HO.out rfl HLL.out rfl HB.out ?_; intro v' w2 hown' hb' _))
          go_roundg g
          case measure => rw [HG.out]; omega
          case rel =>
            refine ⟨nxtN nn, L ++ [nxtN nn % k], rfl, hnext, by rw [List.map_append]; exact hown', hb', by have := HST.out; rw [if_neg HM1.out] at this; exact this, by rw [List.length_append, List.length_singleton, ← HLN.out]; omega, fun i hi => ?_⟩
            rcases List.mem_append.1 hi with hi | hi
            · exact HLK.out i hi
            · rw [List.mem_singleton] at hi; subst hi; exact Nat.mod_lt _ (by omega)
      · have hLd' : L = drawn k seed := by
          rw [dgo_done _ _ _ _ _ (by omega)] at hdg; exact hdg
        have hlnd : ln = d := by omega
        have hne : L.map Int.ofNat ≠ [] := by intro e; rw [e] at hln; simp at hln; omega
        have hll : (L.map Int.ofNat).length ≤ 1000000 := by rw [← hln]; omega
        have HLD := Lib.hid hLd'; have HND := Lib.hid hlnd; have HNE := Lib.hid hne; have HLL := Lib.hid hll; have HB := Lib.hid hb; have HLN' := Lib.hid hln
        clear hown hdg hLd hLk hat hln2 hrel hLd' hlnd hne hll hln
        go_wp2_with (go_at_call 55; refine (sort_own w.heap.size _ (L.map Int.ofNat) _ w HO.out HNE.out HLL.out rfl HB.out).mono ?_; rintro e w' ⟨rfl, hown', hb'⟩)
        go_ret
        have hfin : ((L.map Int.ofNat).mergeSort fun x y => decide (x ≤ y)) = setZ k seed := by rw [HS.out, HLD.out]
        rw [hfin] at hown'
        obtain ⟨a2, cap2, hv, hat2⟩ := OwnInts.slice hown' (fun z hz => by have := setZ_lt k seed h1 h3 z hz; omega)
        have hsl : (setZ k seed).length = d := by rw [← hfin, List.length_mergeSort, ← HLN'.out, HND.out]
        rw [hsl] at hv hat2
        injection hv with e1 e2 e3
        subst e1
        subst e2
        subst e3
        exact ⟨a, cap, rfl, hat2, fun b o e => (Own.lt hown' b (by rw [e]; rfl)).1, hb'⟩
theorem dropOf_any (k seed : Nat) (w : World) (h1 : 1 ≤ k) (h2 : k ≤ 16) (h3 : 1 ≤ seed) (h4 : seed ≤ 10000) :
    Calls Tryd.prog 35 #[.int .i64 k, .int .i64 seed] w fun e w' => ∃ a cap, e = .returned (.slice a (setZ k seed).length cap) ∧ IntsAt w' a (setZ k seed).length cap (setZ k seed) ∧ Lat w w' :=
  (dropOf_new k seed w h1 h2 h3 h4).mono fun _ _ ⟨a, cap, he, hi, _, hb⟩ => ⟨a, cap, he, hi, hb⟩
end Go.Proofs.YtcpookgbneoilaaDoor

namespace Go.Proofs.YtcpookgbneoilaaDoor
open Go.ChangeShapes Go.WideShapes Go.ChangeAt Go.RowKit

theorem mem_getD (zs : List Int) (k : Nat) (h : k < zs.length) : zs.getD k 0 ∈ zs := by
  rw [List.getD_eq_getElem?_getD, List.getElem?_eq_getElem h]; exact List.getElem_mem h
def TestI (F : Nat) (p : Int → Bool) (zs : List Int) : Prop := ∀ z ∈ zs, ∀ w : World, Calls Tryd.prog F #[.int .i64 z] w fun e w' => e = .returned (.bool (p z)) ∧ w = w'
def IdxI (p : Int → Bool) (zs : List Int) (w : World) (e : Ending) (w' : World) : Prop := ∃ r : Int, e = .returned (.int .i64 r) ∧ decide (0 ≤ r) = zs.any p ∧ w = w'

set_option maxHeartbeats 400000 in
theorem indexFuncI (F : Nat) (eF : ∀ args w, (callFunc F args).run Tryd.prog w = .ok (.enter F args) w) (p : Int → Bool) (a : Option Addr) (n cap : Nat) (zs : List Int) (w : World) (h : IntsAt w a n cap zs) (hF : TestI F p zs) :
    Calls Tryd.prog 73 #[.slice a n cap, .func (.func F) #[] #[]] w (IdxI p zs w) := by
  have hcap2 := h.row.cap
  have hle2 := h.row.le
  unfold maxLen at hcap2
  have H := Lib.hid h
  have HF := Lib.hid hF
  clear h hF
  go_enter Tryd.func73, Tryd.ntmps73
  go_wp2
  go_loop [8] (fun i => ∃ k : Nat, k ≤ n ∧ i = .int .i64 k ∧ Hid (∀ j, j < k → p (zs.getD j 0) = false)) (fun i => n - (intOf i).toNat)
  case atStart => exact ⟨0, Nat.zero_le _, rfl, fun j hj => absurd hj (Nat.not_lt_zero _)⟩
  case round =>
    obtain ⟨k, hk, rfl, hrel⟩ := hrel
    by_cases hlt : k < n
    · obtain ⟨b, o, rfl, hc⟩ := H.out.row.at_ (by omega)
      have c1 := hc k hlt
      have hm := mem_getD zs k (by rw [H.out.len]; exact hlt)
      have hcall := HF.out _ hm
      obtain ⟨z, hz⟩ : ∃ z, z = zs.getD k 0 := ⟨_, rfl⟩
      rw [← hz] at c1 hm hcall
      have HZ := Lib.hid hz
      have HM := Lib.hid hm
      clear hc hz hm
      cases hq : p z with
      | true =>
        have HQ := Lib.hid hq
        simp only [hq] at hcall
        clear hq
        go_wp2_with (go_at_fn F; refine (hcall _).mono ?_; rintro e w' ⟨rfl, rfl⟩)
        go_ret
        exact ⟨k, rfl, by rw [List.any_eq_true.2 ⟨z, HM.out, HQ.out⟩]; exact decide_eq_true (by omega), rfl⟩
      | false =>
        have HQ := Lib.hid hq
        simp only [hq] at hcall
        clear hq
        go_wp2_with (go_at_fn F; refine (hcall _).mono ?_; rintro e w' ⟨rfl, rfl⟩)
        go_round
        case rel => exact ⟨k + 1, by omega, by go_num, fun j hj => by
          by_cases e : j = k
          · subst e; rw [← HZ.out]; exact HQ.out
          · exact hrel.out j (by omega)⟩
        case measure => simp [intOf]; omega
    · obtain rfl : k = n := by omega
      go_wp2
      go_ret
      refine ⟨-1, rfl, ?_, rfl⟩
      have : zs.any p = false := by
        rw [List.any_eq_false]
        intro x hx
        obtain ⟨j, hj, e⟩ := List.getElem_of_mem hx
        have := hrel.out j (by rw [← H.out.len]; exact hj)
        rw [List.getD_eq_getElem?_getD, List.getElem?_eq_getElem hj, Option.getD_some, e] at this
        rw [this]; simp
      rw [this]; rfl
theorem containsFuncI (F : Nat) (eF : ∀ args w, (callFunc F args).run Tryd.prog w = .ok (.enter F args) w) (p : Int → Bool) (a : Option Addr) (n cap : Nat) (zs : List Int) (w : World) (h : IntsAt w a n cap zs) (hF : TestI F p zs) :
    Calls Tryd.prog 60 #[.slice a n cap, .func (.func F) #[] #[]] w fun e w' => e = .returned (.bool (zs.any p)) ∧ w = w' := by
  have H := Lib.hid h
  have HF := Lib.hid hF
  clear h hF
  obtain ⟨Y, hY⟩ : ∃ Y, Y = zs.any p := ⟨_, rfl⟩
  rw [← hY]
  have HY := Lib.hid hY
  clear hY
  go_enter Tryd.func60, Tryd.ntmps60
  go_wp2_with fail
  refine (indexFuncI F eF p a n cap zs _ H.out HF.out).mono ?_
  rintro e w' ⟨r, rfl, hr, rfl⟩
  rw [← HY.out] at hr
  have HR := Lib.hid hr
  clear hr
  go_wp2
  go_ret
  exact ⟨congrArg (fun b => Ending.returned (.bool b)) HR.out, rfl⟩
end Go.Proofs.YtcpookgbneoilaaDoor

namespace Go.Proofs.YtcpookgbneoilaaDoor
open Go.ChangeShapes Go.WideShapes Go.ChangeAt Go.RowKit

def mayT (k : Nat) (T : Nat → Option Vec) (v : Vec) : Bool := !decide ((leftTo T v k).1 = 0 ∧ (leftTo T v k).2 ≠ noughts v.2.length)

set_option maxHeartbeats 2000000 in
set_option maxRecDepth 100000 in
theorem tadd_any (p b k m : Nat) (T : Nat → Option Vec) (v : Vec) (w : World) (h : TabAt w p b k T) (hk : k ≤ 16) (hT : TI m k T) (hv : v.1 < 2 ^ k) (hm : v.2.length = m) (hm8 : m ≤ 8) :
    Calls Tryd.prog 44 #[.pointer (some ⟨p, 0, none⟩), rowV v] w fun e w' => e = .returned (.tuple #[.bool (rsT k T v), .bool (mayT k T v)]) ∧ TabAt w' p b k (addT k T v) ∧ Fr (fun j => j = b) w w' := by
  have hcl := left_any p b k m T v
  have hlt := leftTo_lt hT hv k
  have hln := leftTo_len hT hm k
  have hk64 : (2 : Nat) ^ k ≤ 65536 := Nat.pow_le_pow_right (by omega) hk
  obtain ⟨u1, u2, hu⟩ : ∃ a b, leftTo T v k = (a, b) := ⟨_, _, rfl⟩
  have hrs : rsT k T v = decide (u1 ≠ 0) := by unfold rsT; rw [hu]
  have hmy : mayT k T v = !decide (u1 = 0 ∧ u2 ≠ noughts m) := by unfold mayT; rw [hu, hm]
  have hat : addT k T v = if u1 = 0 then T else insT T (lowI u1) (u1, u2) := by unfold addT; rw [hu]
  have hnl : u1 ≠ 0 → Low u1 (lowI u1) ∧ lowI u1 < k ∧ T (lowI u1) = none := fun h0 => by
    obtain ⟨h1, h2⟩ := lowI_low (n := u1) h0 (by rw [hu] at hlt; exact hlt) (show k ≤ 64 by omega)
    exact ⟨h1, h2, left_low_none hT (v := v) h2 (by rw [hu]; exact h1)⟩
  rw [hu] at hlt hln
  have hu16 : u1 < 65536 := Nat.lt_of_lt_of_le hlt hk64
  have hc2 := fun W (hW : TabAt W p b k T) => hcl W hW hk hT hv hm hm8
  rw [hu] at hc2
  rw [hrs, hmy, hat]
  have H := Lib.hid h; have HC := Lib.hid hc2; have HNL := Lib.hid hnl; have HLN : Hid (u2.length = m) := hln
  clear h hcl hc2 hnl hln hlt hu hrs hmy hat hT
  obtain ⟨v1, v2⟩ := v
  show Calls _ _ #[_, .agg #[.int .u64 v1, .string (S v2)]] _ _
  have hbx : Lat w (w.alloc (.cells #[.int .u64 v1, .string (S v2)] 93)) := Lat.alloc _ _
  have hr0 := row_new w v1 v2
  have hc3 : Calls Tryd.prog 62 #[.pointer (some ⟨p, 0, none⟩), .agg #[.int .u64 v1, .string (S v2)]] (w.alloc (.cells #[.int .u64 v1, .string (S v2)] 93)) fun e w' => e = .returned (.agg #[.int .u64 u1, .string (S u2)]) ∧ Lat (w.alloc (.cells #[.int .u64 v1, .string (S v2)] 93)) w' := HC.out _ (H.out.keep hbx)
  have HC3 := Lib.hid hc3; have HR0 := Lib.hid hr0; have HBX := Lib.hid hbx
  clear hc3 hr0 hbx
  go_enter Tryd.func44, Tryd.ntmps44
  go_wp2_with fail
  refine HC3.out.mono ?_
  rintro y w2 ⟨rfl, hb2⟩
  have hlw2 : Lat w w2 := Lat.trans HBX.out hb2
  have hrw2 := HR0.out.keep hb2
  have htab2 := H.out.keep hlw2
  have c0 := hrw2.c0
  have c1 := hrw2.c1
  have f0 := hrw2.f0
  have f1 := hrw2.f1
  obtain ⟨R, hR⟩ : ∃ R, R = w.heap.size := ⟨_, rfl⟩
  have hpR : p ≠ R := by have := H.out.lt.1; omega
  have hbR : b ≠ R := by have := H.out.lt.2; omega
  rw [← hR] at c0 c1 f0 f1 hrw2 ⊢
  have hput := row_put hrw2 u1 u2
  have htab3 := (htab2.fr (Fr.set (S := fun j => j = R) w2 ⟨R, 0, none⟩ (.int .u64 u1) rfl) hpR hbR).fr (Fr.set (S := fun j => j = R) _ ⟨R, 1, none⟩ (.string (S u2)) rfl) hpR hbR
  have hlw3 : Lat w ((w2.setCell ⟨R, 0, none⟩ (.int .u64 u1)).setCell ⟨R, 1, none⟩ (.string (S u2))) := (hlw2.setCell (p := ⟨R, 0, none⟩) (Nat.le_of_eq hR.symm) _).setCell (p := ⟨R, 1, none⟩) (Nat.le_of_eq hR.symm) _
  have HPUT := Lib.hid hput; have HTAB3 := Lib.hid htab3; have HLW3 := Lib.hid hlw3
  clear hput htab3 hlw3 htab2 hrw2 hlw2 hb2 hR
  by_cases h0 : u1 = 0
  · subst h0
    go_upto_region 2 with fail
    obtain ⟨W2, hW2⟩ : ∃ W, W = (w2.setCell ⟨R, 0, none⟩ (.int .u64 ((0 : Nat) : Int))).setCell ⟨R, 1, none⟩ (.string (S u2)) := ⟨_, rfl⟩
    have hput := HPUT.out
    have htab3 := HTAB3.out
    have hlw3 := HLW3.out
    rw [← hW2] at hput htab3 hlw3
    have hw2' : W2 = (w2.setCell ⟨R, 0, none⟩ (.int .u64 0)).setCell ⟨R, 1, none⟩ (.string (S u2)) := hW2
    rw [← hw2']
    have k0 : W2.cell? ⟨R, 0, none⟩ = some (.int .u64 0) := hput.c0
    have k1 := hput.c1
    have HT3 := Lib.hid htab3; have HL3 := Lib.hid hlw3
    clear hW2 hw2' hput htab3 hlw3 HPUT HTAB3 HLW3 c0 c1 f0 f1
    go_upto_region 3 with fail
    have hF : W2.drew.cell? ⟨R, 1, none⟩ = some (.string (S u2)) := k1
    refine wp_region_gate (fun w' => w'.cell? ⟨R, 1, none⟩ = some (.string (S u2))) (fun _ => True) 1000 (by kernel_rfl) ?_
    refine gate_takeF (i := 0) (v := ?_) rfl (by kernel_rfl) (by kernel_rfl) (by kernel_rfl) (fun _ _ _ h => h) (by decide) ⟨hF, fun _ => trivial⟩ (Or.inl ⟨by rfl, ?_⟩) ?_
    rotate_left
    · intro wq hSw; have s0 := hSw; go_simp; rfl
    simp only [Act.put]
    refine gate_takeF (i := 1) (v := ?_) rfl (by kernel_rfl) (by kernel_rfl) (by kernel_rfl) (fun _ _ _ h => h) (by decide) ⟨hF, fun _ => trivial⟩ (Or.inl ⟨by rfl, ?_⟩) ?_
    rotate_left
    · intro wq hSw; have s0 := hSw; go_simp; rfl
    simp only [Act.put]
    refine gate_takeF (i := 2) (v := ?_) rfl (by kernel_rfl) (by kernel_rfl) (by kernel_rfl) (fun _ _ _ h => h) (by decide) ⟨hF, fun _ => trivial⟩ (Or.inl ⟨by rfl, ?_⟩) ?_
    rotate_left
    · intro wq hSw; have s0 := hSw; go_simp; rfl
    simp only [Act.put]
    refine gate_takeF (i := 3) (v := ?_) rfl (by kernel_rfl) (by kernel_rfl) (by kernel_rfl) (fun _ _ _ h => h) (by decide) ⟨hF, fun _ => trivial⟩ (Or.inl ⟨by rfl, ?_⟩) ?_
    rotate_left
    · intro wq hSw; have s0 := hSw; go_simp; rfl
    simp only [Act.put]
    refine gate_takeF (i := 4) (v := ?_) rfl (by kernel_rfl) (by kernel_rfl) (by kernel_rfl) (fun _ _ _ h => h) (by decide) ⟨hF, fun _ => trivial⟩ (Or.inl ⟨by rfl, ?_⟩) ?_
    rotate_left
    · intro wq hSw; have s0 := hSw; go_simp; rfl
    simp only [Act.put]
    refine gate_one (i := 5) (by kernel_rfl) rfl (fun K hK => ?_)
    go_simp
    refine (noughts_any (S u2).size _ (by show u2.length ≤ _; rw [HLN.out]; omega)).mono ?_
    rintro y w4 ⟨rfl, hb4⟩
    have hF' : w4.cell? ⟨R, 1, none⟩ = some (.string (S u2)) := hb4.cell_at hF
    refine hK _ _ ⟨hF', fun _ => trivial⟩ ?_
    clear hK K hF
    have hF := hF'
    clear hF'
    refine gate_takeF (i := 6) (v := ?_) rfl (by kernel_rfl) (by kernel_rfl) (by kernel_rfl) (fun _ _ _ h => h) (by decide) ⟨hF, fun _ => trivial⟩ (Or.inl ⟨by rfl, ?_⟩) ?_
    rotate_left
    · intro wq hSw; have s0 := hSw; go_simp; rfl
    simp only [Act.put]
    refine gate_takeF (i := 7) (v := ?_) rfl (by kernel_rfl) (by kernel_rfl) (by kernel_rfl) (fun _ _ _ h => h) (by decide) ⟨hF, fun _ => trivial⟩ (Or.inl ⟨by rfl, ?_⟩) ?_
    rotate_left
    · intro wq hSw; have s0 := hSw; go_simp; rfl
    simp only [Act.put]
    refine gate_takeF (i := 8) (v := ?_) rfl (by kernel_rfl) (by kernel_rfl) (by kernel_rfl) (fun _ _ _ h => h) (by decide) ⟨hF, fun _ => trivial⟩ (Or.inl ⟨by rfl, ?_⟩) ?_
    rotate_left
    · intro wq hSw; have s0 := hSw; go_simp; rfl
    simp only [Act.put]
    refine gate_done (by kernel_rfl) ?_ _
    clear hF k0 k1
    have HL4 := Lib.hid (Lat.trans (Lat.drew W2) hb4)
    clear hb4
    go_wp2
    go_ret2
    refine ⟨?_, ?_, ?_⟩
    · have e1 : u2.length = m := HLN.out
      show Ending.returned (.tuple #[.bool false, .bool (u2 == noughts u2.length)]) = _
      rw [e1]
      by_cases hx : u2 = noughts m
      · rw [hx, beq_self_eq_true, decide_eq_true rfl]
      · rw [beq_eq_false_iff_ne.2 hx, decide_eq_false hx]
    · exact HT3.out.keep HL4.out
    · exact Fr.lat (Lat.trans HL3.out HL4.out)
  · have hn0 : ((u1 : Int) == 0) = false := beq_eq_false_iff_ne.2 (by omega)
    go_upto_region 2 with fail
    obtain ⟨W2, hW2⟩ : ∃ W, W = (w2.setCell ⟨R, 0, none⟩ (.int .u64 u1)).setCell ⟨R, 1, none⟩ (.string (S u2)) := ⟨_, rfl⟩
    have hput := HPUT.out
    have htab3 := HTAB3.out
    have hlw3 := HLW3.out
    rw [← hW2] at hput htab3 hlw3 ⊢
    have k0 := hput.c0
    have k1 := hput.c1
    have kp := htab3.cell
    obtain ⟨hlo, hlk, hTn⟩ := HNL.out h0
    obtain ⟨w5, hrun, htab5, hfr5⟩ := (htab3.keep (Lat.drew W2)).store hk (lowI u1) hlk hTn (u1, u2)
    have hrun2 : (Instr.mapUpdate 108 (.map (some b)) (.int .u64 (bitP (lowI u1) : Int)) (.agg #[.int .u64 u1, .string (S u2)])).run Tryd.prog W2.drew = .ok () w5 := hrun
    have HT5 := Lib.hid htab5; have HF5 := Lib.hid hfr5; have HL3 := Lib.hid hlw3; have HRUN := Lib.hid hrun2; have H0 := Lib.hid h0
    clear hW2 hput htab3 hlw3 HPUT HTAB3 HLW3 c0 c1 f0 f1 htab5 hfr5 hrun hrun2 hlo hTn h0
    go_upto_region 4 with fail
    have hF : W2.drew.cell? ⟨p, 0, none⟩ = some (.map (some b)) ∧ W2.drew.cell? ⟨R, 0, none⟩ = some (.int .u64 u1) ∧ W2.drew.cell? ⟨R, 1, none⟩ = some (.string (S u2)) := ⟨kp, k0, k1⟩
    refine wp_region_gate (fun w' => w'.cell? ⟨p, 0, none⟩ = some (.map (some b)) ∧ w'.cell? ⟨R, 0, none⟩ = some (.int .u64 u1) ∧ w'.cell? ⟨R, 1, none⟩ = some (.string (S u2))) (fun _ => True) 1000 (by kernel_rfl) ?_
    refine gate_takeF (i := 0) (v := ?_) rfl (by kernel_rfl) (by kernel_rfl) (by kernel_rfl) (fun _ _ _ h => h) (by decide) ⟨hF, fun _ => trivial⟩ (Or.inl ⟨by rfl, ?_⟩) ?_
    rotate_left
    · intro wq hSw; obtain ⟨s0, s1, s2⟩ := hSw; go_simp; rfl
    simp only [Act.put]
    refine gate_takeF (i := 1) (v := ?_) rfl (by kernel_rfl) (by kernel_rfl) (by kernel_rfl) (fun _ _ _ h => h) (by decide) ⟨hF, fun _ => trivial⟩ (Or.inl ⟨by rfl, ?_⟩) ?_
    rotate_left
    · intro wq hSw; obtain ⟨s0, s1, s2⟩ := hSw; go_simp; rfl
    simp only [Act.put]
    refine gate_takeF (i := 2) (v := ?_) rfl (by kernel_rfl) (by kernel_rfl) (by kernel_rfl) (fun _ _ _ h => h) (by decide) ⟨hF, fun _ => trivial⟩ (Or.inl ⟨by rfl, ?_⟩) ?_
    rotate_left
    · intro wq hSw; obtain ⟨s0, s1, s2⟩ := hSw; go_simp; rfl
    simp only [Act.put]
    refine gate_takeF (i := 3) (v := ?_) rfl (by kernel_rfl) (by kernel_rfl) (by kernel_rfl) (fun _ _ _ h => h) (by decide) ⟨hF, fun _ => trivial⟩ (Or.inl ⟨by rfl, ?_⟩) ?_
    rotate_left
    · intro wq hSw; obtain ⟨s0, s1, s2⟩ := hSw; go_simp; rfl
    simp only [Act.put]
    refine gate_takeF (i := 4) (v := ?_) rfl (by kernel_rfl) (by kernel_rfl) (by kernel_rfl) (fun _ _ _ h => h) (by decide) ⟨hF, fun _ => trivial⟩ (Or.inl ⟨by rfl, ?_⟩) ?_
    rotate_left
    · intro wq hSw; obtain ⟨s0, s1, s2⟩ := hSw; go_simp; rfl
    simp only [Act.put]
    refine gate_takeF (i := 5) (v := ?_) rfl (by kernel_rfl) (by kernel_rfl) (by kernel_rfl) (fun _ _ _ h => h) (by decide) ⟨hF, fun _ => trivial⟩ (Or.inl ⟨by rfl, ?_⟩) ?_
    rotate_left
    · intro wq hSw; obtain ⟨s0, s1, s2⟩ := hSw; go_simp; rfl
    simp only [Act.put]
    refine gate_takeF (i := 7) (v := ?_) rfl (by kernel_rfl) (by kernel_rfl) (by kernel_rfl) (fun _ _ _ h => h) (by decide) ⟨hF, fun _ => trivial⟩ (Or.inl ⟨by rfl, ?_⟩) ?_
    rotate_left
    · intro wq hSw; obtain ⟨s0, s1, s2⟩ := hSw; go_simp; rfl
    simp only [Act.put]
    refine gate_one (i := 6) (by kernel_rfl) rfl (fun K hK => ?_)
    go_simp
    refine (low_any u1 _ H0.out hu16).mono ?_
    rintro y w4 ⟨rfl, rfl⟩
    refine hK _ _ ⟨hF, fun _ => trivial⟩ ?_
    clear hK K
    refine gate_one (i := 8) (by kernel_rfl) rfl (fun K hK => ?_)
    have hrun := HRUN.out
    go_simp
    have hF' : w5.cell? ⟨p, 0, none⟩ = some (.map (some b)) ∧ w5.cell? ⟨R, 0, none⟩ = some (.int .u64 u1) ∧ w5.cell? ⟨R, 1, none⟩ = some (.string (S u2)) := ⟨HT5.out.cell, HF5.out.cell_at hF.2.1 (fun e => hbR e.symm), HF5.out.cell_at hF.2.2 (fun e => hbR e.symm)⟩
    refine hK _ _ ⟨hF', fun _ => trivial⟩ ?_
    clear hK K hF hF' hrun
    refine gate_done (by kernel_rfl) ?_ _
    clear k0 k1 kp
    go_wp2
    go_ret2
    refine ⟨?_, ?_, ?_⟩
    · rfl
    · exact HT5.out
    · exact (Fr.lat (Lat.trans HL3.out (Lat.drew W2))).trans HF5.out (fun _ _ e => e)
end Go.Proofs.YtcpookgbneoilaaDoor

namespace Go.Proofs.YtcpookgbneoilaaDoor
open Go.ChangeShapes Go.WideShapes Go.ChangeAt Go.RowKit

def noSeed (z : Int) : Bool := !decide (1 ≤ z ∧ z ≤ 10000)
def rdyE (k : Int) (zs : List Int) : Nat := if 60 < zs.length then 4 else if k < 1 ∨ 16 < k then 1 else if zs.any noSeed = true then 1 else 0
theorem rdyE_zero {k : Int} {zs : List Int} (h : rdyE k zs = 0) : zs.length ≤ 60 ∧ 1 ≤ k ∧ k ≤ 16 ∧ ∀ z ∈ zs, 1 ≤ z ∧ z ≤ 10000 := by
  unfold rdyE at h
  by_cases h1 : 60 < zs.length
  · rw [if_pos h1] at h; cases h
  rw [if_neg h1] at h
  by_cases h2 : k < 1 ∨ 16 < k
  · rw [if_pos h2] at h; cases h
  rw [if_neg h2] at h
  by_cases h3 : zs.any noSeed = true
  · rw [if_pos h3] at h; cases h
  refine ⟨by omega, by omega, by omega, fun z hz => ?_⟩
  by_cases h4 : 1 ≤ z ∧ z ≤ 10000
  · exact h4
  · exact absurd (List.any_eq_true.2 ⟨z, hz, by unfold noSeed; rw [decide_eq_false h4]; rfl⟩) h3
theorem seedR_yes (z : Int) (w : World) (h1 : 1 ≤ z) (h2 : z ≤ 10000) :
    Calls Tryd.prog 51 #[.int .i64 z] w fun e w' => e = .returned (.bool true) ∧ w = w' := by
  have hd : decide (z ≤ 10000) = true := decide_eq_true h2
  go_enter Tryd.func51, Tryd.ntmps51
  go_wp2
  go_ret
  exact ⟨rfl, rfl⟩
theorem seedR_no (z : Int) (w : World) (h : z < 1 ∨ 10000 < z) :
    Calls Tryd.prog 51 #[.int .i64 z] w fun e w' => e = .returned (.bool false) ∧ w = w' := by
  rcases h with h | h
  · have hd : decide (1 ≤ z) = false := decide_eq_false (by omega)
    go_enter Tryd.func51, Tryd.ntmps51
    go_wp2
    go_ret
    exact ⟨rfl, rfl⟩
  · have hd : decide (1 ≤ z) = true := decide_eq_true (by omega)
    have hd2 : decide (z ≤ 10000) = false := decide_eq_false (by omega)
    go_enter Tryd.func51, Tryd.ntmps51
    go_wp2
    go_ret
    exact ⟨rfl, rfl⟩
theorem ready_clos (z : Int) (w : World) : Calls Tryd.prog 61 #[.int .i64 z] w fun e w' => e = .returned (.bool (noSeed z)) ∧ w = w' := by
  by_cases h : 1 ≤ z ∧ z ≤ 10000
  · have hn : noSeed z = false := by unfold noSeed; rw [decide_eq_true h]; rfl
    rw [hn]
    go_enter Tryd.func61, Tryd.ntmps61
    go_wp2_with (go_at_call 51; refine (seedR_yes z _ h.1 h.2).mono ?_; rintro e w' ⟨rfl, rfl⟩)
    go_ret
    exact ⟨rfl, rfl⟩
  · have hn : noSeed z = true := by unfold noSeed; rw [decide_eq_false h]; rfl
    rw [hn]
    have h2 : z < 1 ∨ 10000 < z := by omega
    clear h
    go_enter Tryd.func61, Tryd.ntmps61
    go_wp2_with (go_at_call 51; refine (seedR_no z _ h2).mono ?_; rintro e w' ⟨rfl, rfl⟩)
    go_ret
    exact ⟨rfl, rfl⟩
set_option maxRecDepth 100000 in
theorem ready_any (k : Int) (a : Option Addr) (n cap : Nat) (zs : List Int) (w : World) (h : IntsAt w a n cap zs) :
    Calls Tryd.prog 39 #[.int .i64 k, .slice a n cap] w fun e w' => e = .returned (errv (rdyE k zs)) ∧ w = w' := by
  have hl := h.len
  have hcm := h.row.cap
  have hle := h.row.le
  unfold maxLen at hcm
  have hE : rdyE k zs = if 60 < n then 4 else if k < 1 ∨ 16 < k then 1 else if zs.any noSeed = true then 1 else 0 := by unfold rdyE; rw [hl]
  have hcf := containsFuncI 61 (enters_of Tryd.func61 (by kernel_rfl) rfl) noSeed a n cap zs w h (fun z _ W => ready_clos z W)
  rw [hE]
  have HC := Lib.hid hcf
  clear h hl hE hcf
  by_cases h1 : 60 < n
  · rw [if_pos h1, errv_pos (by omega)]
    have d1 : decide ((60 : Int) < (n : Int)) = true := decide_eq_true (by omega)
    go_enter Tryd.func39, Tryd.ntmps39
    go_wp2
    go_ret
    exact ⟨rfl, rfl⟩
  rw [if_neg h1]
  have d1 : decide ((60 : Int) < (n : Int)) = false := decide_eq_false (by omega)
  by_cases h2 : k < 1 ∨ 16 < k
  · rw [if_pos h2, errv_pos (by omega)]
    go_enter Tryd.func39, Tryd.ntmps39
    go_wp2_with (go_at_call 27; refine (dblocks_no k _ h2).mono ?_; rintro e w' ⟨rfl, rfl⟩)
    go_ret
    exact ⟨rfl, rfl⟩
  rw [if_neg h2]
  have k1 : 1 ≤ k := by omega
  have k2 : k ≤ 16 := by omega
  clear h2
  obtain ⟨t, ht⟩ : ∃ t, t = zs.any noSeed := ⟨_, rfl⟩
  rw [← ht] at HC ⊢
  clear ht
  cases t with
  | true =>
    rw [if_pos rfl, errv_pos (by omega)]
    go_enter Tryd.func39, Tryd.ntmps39
    go_wp2_with (first
      | (go_at_call 27; refine (dblocks_yes k _ k1 k2).mono ?_; rintro e w' ⟨rfl, rfl⟩)
      | (go_at_call 60; refine HC.out.mono ?_; rintro e w' ⟨rfl, rfl⟩))
    go_ret
    exact ⟨rfl, rfl⟩
  | false =>
    rw [if_neg (by simp), errv_zero rfl]
    go_enter Tryd.func39, Tryd.ntmps39
    go_wp2_with (first
      | (go_at_call 27; refine (dblocks_yes k _ k1 k2).mono ?_; rintro e w' ⟨rfl, rfl⟩)
      | (go_at_call 60; refine HC.out.mono ?_; rintro e w' ⟨rfl, rfl⟩))
    go_ret
    exact ⟨rfl, rfl⟩
end Go.Proofs.YtcpookgbneoilaaDoor

namespace Go.Proofs.YtcpookgbneoilaaDoor
open Go.ChangeShapes Go.WideShapes Go.ChangeAt Go.RowKit

def rowOf (k : Nat) (z : Int) : Vec := (bitsN (setZ k z.toNat), [])
def rowsOf (k : Nat) (zs : List Int) : List Vec := zs.map (rowOf k)
theorem rowOf_lt (k : Nat) (z : Int) (hk : 1 ≤ k) (hz : 1 ≤ z) : (rowOf k z).1 < 2 ^ k := bitsTo_lt _ k (setZ_lt k _ hk (by omega)) _ (Nat.le_refl _)
theorem rowsOf_bare {k : Nat} {zs : List Int} (hk : 1 ≤ k) (hz : ∀ z ∈ zs, 1 ≤ z ∧ z ≤ 10000) : Bare k (rowsOf k zs) := fun v hv => by
  obtain ⟨z, hm, rfl⟩ := List.mem_map.1 hv
  exact ⟨rfl, rowOf_lt k z hk (hz z hm).1⟩
theorem rowsOf_getD (k : Nat) (zs : List Int) (j : Nat) (h : j < zs.length) : (rowsOf k zs).getD j (0, []) = rowOf k (zs.getD j 0) := by
  unfold rowsOf
  rw [List.getD_eq_getElem?_getD, List.getElem?_map, List.getD_eq_getElem?_getD, List.getElem?_eq_getElem h]; rfl
theorem rowsOf_len (k : Nat) (zs : List Int) : (rowsOf k zs).length = zs.length := List.length_map _

theorem Fr.grown {b : Nat} {w w' : World} (h : Fr (fun j => j = b) w w') : w.grownBy w' (some b) := ⟨h.os, h.tape, h.output, h.size, fun k hk hne => h.block k hk (fun e => hne (by rw [e]))⟩
theorem Own.frB {w w' : World} {B b : Nat} {e : TypeId} {v : Value} {xs : List Value} (h : Own w B e v xs) (hf : Fr (fun j => j = b) w w') (hb : b < B) : Own w' B e v xs :=
  Own.grown h hf.grown fun g hg e => by
    injection e with e
    have := (Own.lt h g hg).1
    omega
theorem app_intF (wr : World) (B : Nat) {ops : Array Oper} {rest : List Oper} {o : Oper} {a : Act} {Q : Exit → Act → World → Prop}
    (hg : o.guard = none) (s x : Operand) (ho : o.op = .call { callee := .builtin .append, args := #[s, x], argTypes := #[32, 32] })
    (v : Value) (zs : List Int) (z : Int) (hs : a.eval s = v) (hown : OwnInts wr B v zs) (hx : a.eval x = .slice (some ⟨wr.heap.size, 0, none⟩) 1 1)
    (hn : zs.length < 1000000) (hB : B ≤ wr.heap.size)
    (K : ∀ v' w', OwnInts w' B v' (zs ++ [z]) → Fr (fun j => v.ownBlock = some j) wr w' → wpList Tryd.prog ops Q rest (a.put o.dst v') w') :
    wpList Tryd.prog ops Q (o :: rest) a (wr.alloc (.cells #[.int .i64 z] 3)) := by
  have hal : OwnInts (wr.alloc (.cells #[.int .i64 z] 3)) B v zs := Own.alloc hown _
  have hrow1 : RowAt (wr.alloc (.cells #[.int .i64 z] 3)) (some ⟨wr.heap.size, 0, none⟩) 1 1 (fun j => [Value.int .i64 z].getD j undef) := by
    refine ⟨Nat.le_refl _, by unfold maxLen; omega, fun _ => ⟨wr.heap.size, 0, rfl, fun j hj => ?_⟩⟩
    obtain rfl : j = 0 := by omega
    simp
  obtain ⟨v', w', hrun, h2, h3, _⟩ := run_app_many (P := Tryd.prog) (wr.alloc (.cells #[.int .i64 z] 3)) B 32 o.type 3 (.int .i64 0) 8 Tryd.underlying32 info_int rfl (by decide) v _ hal (some ⟨wr.heap.size, 0, none⟩) 1 1 [.int .i64 z] rfl
    hrow1 (fun u hu => by rw [List.mem_singleton.1 hu]; rfl) (by rw [List.length_map]; omega) (by simp; omega)
  refine wpList_plain hg fun K' hK => ?_
  unfold Oper.wp execOp
  simp only [ho, resolve, invoke, builtin, Sem.run_bind, Sem.run_pure, Result.andThen_ok, List.map_toArray, List.map_cons, List.map_nil, hs, hx, hrun]
  refine hK _ _ (K v' w' (by simpa [OwnInts] using h2) ⟨h3.os, h3.tape, h3.output, ?_, fun k hk hne => ?_⟩)
  · have := h3.size; simp at this; omega
  · rw [h3.block k (by simp; omega) (fun e => hne e.symm)]; exact heap_alloc_old wr _ hk

set_option maxRecDepth 100000 in
theorem nadd_any (p b k : Nat) (T : Nat → Option Vec) (a : Option Addr) (n cap : Nat) (zs : List Int) (w : World) (h : TabAt w p b k T) (hz : IntsAt w a n cap zs) (hk : k ≤ 16) (hT : TI 0 k T) (hv : bitsN zs < 2 ^ k) (hz2 : ∀ z ∈ zs, 0 ≤ z ∧ z < 16) :
    Calls Tryd.prog 41 #[.pointer (some ⟨p, 0, none⟩), .slice a n cap] w fun e w' => e = .returned (.bool (rsT k T (bitsN zs, []))) ∧ TabAt w' p b k (addT k T (bitsN zs, [])) ∧ Fr (fun j => j = b) w w' := by
  have h1 := bits_any a n cap zs w hz hz2
  have h2 := tadd_any p b k 0 T (bitsN zs, []) w h hk hT hv rfl (by omega)
  obtain ⟨B, hB⟩ : ∃ B, B = bitsN zs := ⟨_, rfl⟩
  rw [← hB] at h1 h2 ⊢
  have h3 : Calls Tryd.prog 44 #[.pointer (some ⟨p, 0, none⟩), .agg #[.int .u64 B, .string { data := #[] }]] w fun e w' => e = .returned (.tuple #[.bool (rsT k T (B, [])), .bool (mayT k T (B, []))]) ∧ TabAt w' p b k (addT k T (B, [])) ∧ Fr (fun j => j = b) w w' := h2
  obtain ⟨r1, hr1⟩ : ∃ r, r = rsT k T (B, []) := ⟨_, rfl⟩
  obtain ⟨r2, hr2⟩ : ∃ r, r = mayT k T (B, []) := ⟨_, rfl⟩
  rw [← hr1, ← hr2] at h3
  rw [← hr1]
  have H1 := Lib.hid h1; have H3 := Lib.hid h3
  clear h hz hT hv hz2 h1 h2 h3 hB hr1 hr2
  go_enter Tryd.func41, Tryd.ntmps41
  go_wp2_with (first
    | (go_at_call 45; refine H1.out.mono ?_; rintro e w' ⟨rfl, rfl⟩)
    | (go_at_call 44; refine H3.out.mono ?_; rintro e w' ⟨rfl, ht, hf⟩))
  go_ret
  exact ⟨rfl, ht, hf⟩

theorem tab_next {k : Nat} {zs : List Int} (j : Nat) (hj : j < zs.length) : addT k (tabT k ((rowsOf k zs).take j)) (rowOf k (zs.getD j 0)) = tabT k ((rowsOf k zs).take (j + 1)) := by
  rw [take_snocV _ j (by rw [rowsOf_len]; exact hj), tabT_snoc, rowsOf_getD k zs j hj]

def rankR (k : Int) (zs : List Int) : Nat := if rdyE k zs = 0 then rk k.toNat (rowsOf k.toNat zs) else 0
set_option maxHeartbeats 2000000 in
set_option maxRecDepth 100000 in
theorem srank_any (k : Int) (a : Option Addr) (n cap : Nat) (zs : List Int) (w : World) (h : IntsAt w a n cap zs) :
    Calls Tryd.prog 23 #[.int .i64 k, .slice a n cap] w fun e w' => e = .returned (.tuple #[.int .i64 (rankR k zs), errv (rdyE k zs)]) ∧ Lat w w' := by
  have hr := ready_any k a n cap zs w h
  by_cases h0 : rdyE k zs = 0
  · obtain ⟨h1, h2, h3, h4⟩ := rdyE_zero h0
    obtain ⟨f, rfl⟩ : ∃ f : Nat, k = f := ⟨k.toNat, by omega⟩
    have hR : rankR f zs = rk f (rowsOf f zs) := by unfold rankR; rw [if_pos h0, Int.toNat_natCast]
    rw [h0, errv_zero rfl] at hr ⊢
    rw [hR]
    have hl := h.len
    have hn60 : n ≤ 60 := by omega
    have hba := rowsOf_bare (k := f) (zs := zs) (by omega) h4
    have hti := fun j => (tab_st (k := f) (by omega) (hba.take j)).ti
    have hfin : rk f (rowsOf f zs) = rnkT (tabT f ((rowsOf f zs).take n)) f := by
      rw [List.take_of_length_le (by rw [rowsOf_len]; omega)]; rfl
    rw [hfin]
    have H := Lib.hid h; have HR := Lib.hid hr; have HZ := Lib.hid h4; have HTI := Lib.hid hti; have HL := Lib.hid hl; have HBA := Lib.hid hba
    have hf1 : 1 ≤ f := by omega
    have hf16 : f ≤ 16 := by omega
    clear h hr h0 h1 h2 h3 h4 hR hl hti hfin hba
    go_enter Tryd.func23, Tryd.ntmps23
    go_wp2_with (first
      | (go_at_call 39; refine HR.out.mono ?_; rintro e w' ⟨rfl, rfl⟩)
      | (go_at_call 40; refine (newTable_any f _).mono ?_; rintro e w1 ⟨⟨p, b, rfl, hp, hb, ht⟩, hb1⟩))
    have HP := Lib.hid hp; have HB := Lib.hid hb
    have hTab0 : TabAt w1 p b f (tabT f ((rowsOf f zs).take 0)) := ht
    have HT0 := Lib.hid hTab0; have HB1 := Lib.hid hb1
    clear hp hb ht hTab0 hb1
    go_loopw [9, 19] (fun _ i wr => ∃ j : Nat, j ≤ n ∧ i = .int .i64 j ∧ Hid (TabAt wr p b f (tabT f ((rowsOf f zs).take j)) ∧ Lat w wr)) (fun _ i _ => n - (intOf i).toNat)
    case atStart => exact ⟨0, Nat.zero_le _, rfl, HT0.out, HB1.out⟩
    case round =>
      obtain ⟨j, hj, rfl, hrel⟩ := hrel
      by_cases hlt : j < n
      · obtain ⟨htab, hlat⟩ := hrel.out
        obtain ⟨ab, ao, rfl, hc⟩ := (H.out.keep hlat).row.at_ (by omega)
        have c1 := hc j hlt
        have hm := HZ.out _ (getD_mem zs j (by rw [HL.out]; exact hlt))
        have hnx := tab_next (k := f) (zs := zs) j (by rw [HL.out]; exact hlt)
        obtain ⟨s, hs⟩ : ∃ s : Nat, zs.getD j 0 = (s : Int) := ⟨(zs.getD j 0).toNat, by omega⟩
        rw [hs] at c1 hm hnx
        have hrow : rowOf f (s : Int) = (bitsN (setZ f s), []) := by unfold rowOf; rw [Int.toNat_natCast]
        rw [hrow] at hnx
        have hs1 : 1 ≤ s := by omega
        have hs2 : s ≤ 10000 := by omega
        have hbl : bitsN (setZ f s) < 2 ^ f := by have := rowOf_lt f (s : Int) hf1 (by omega); rw [hrow] at this; exact this
        have hsz : ∀ z ∈ setZ f s, 0 ≤ z ∧ z < 16 := fun z hz => by have := setZ_lt f s hf1 hs1 z hz; omega
        have HTB := Lib.hid htab; have HLT := Lib.hid hlat; have HNX := Lib.hid hnx; have HBL := Lib.hid hbl; have HSZ := Lib.hid hsz
        clear hrel htab hlat hc hm hs hrow hnx hbl hsz
        go_wp2_with (first
          | (go_at_call 35; refine (dropOf_any f s _ hf1 hf16 hs1 hs2).mono ?_; rintro e w2 ⟨oa, oc, rfl, hoi, hb2⟩)
          | (go_at_call 45; refine (bits_any _ _ _ _ _ hoi HSZ.out).mono ?_; rintro e w' ⟨rfl, rfl⟩)
          | (go_at_call 44; refine (tadd_any p b f 0 _ (bitsN (setZ f s), []) _ (HTB.out.keep hb2) hf16 (HTI.out j) HBL.out rfl (by omega)).mono ?_; rintro e w3 ⟨rfl, ht3, hf3⟩))
        have hl3 : Lat w w3 := hf3.lat_of (Lat.trans HLT.out hb2) (fun i e => by rw [e]; exact HB.out)
        rw [HNX.out] at ht3
        have HT3 := Lib.hid ht3; have HL3 := Lib.hid hl3
        clear ht3 hf3 hl3 hoi hb2
        go_roundw
        case rel => exact ⟨j + 1, by omega, by go_num, HT3.out, HL3.out⟩
        case measure => simp [intOf]; omega
      · obtain rfl : j = n := by omega
        obtain ⟨htab, hlat⟩ := hrel.out
        have HTB := Lib.hid htab; have HLT := Lib.hid hlat
        clear hrel htab hlat
        go_wp2_with (go_at_call 42; refine (rank_tab p b f _ _ HTB.out).mono ?_; rintro e w' ⟨rfl, rfl⟩)
        go_ret2
        exact ⟨rfl, HLT.out⟩
  · have hR : rankR k zs = 0 := by unfold rankR; rw [if_neg h0]
    rw [hR]
    rw [errv_pos h0] at hr ⊢
    have HR := Lib.hid hr
    clear h hr h0 hR
    go_enter Tryd.func23, Tryd.ntmps23
    go_wp2_with (go_at_call 39; refine HR.out.mono ?_; rintro e w' ⟨rfl, rfl⟩)
    go_ret2
    exact ⟨rfl, Lat.refl _⟩
end Go.Proofs.YtcpookgbneoilaaDoor

namespace Go.Proofs.YtcpookgbneoilaaDoor
open Go.ChangeShapes Go.WideShapes Go.ChangeAt Go.RowKit

def ofNats (l : List Nat) : List Int := l.map Int.ofNat
theorem ofNats_snoc (l : List Nat) (i : Nat) : ofNats (l ++ [i]) = ofNats l ++ [(i : Int)] := by unfold ofNats; rw [List.map_append]; rfl
def firstR (k : Int) (zs : List Int) : Nat := if rdyE k zs = 0 then fstN k.toNat (rowsOf k.toNat zs) else 0
def firstE (k : Int) (zs : List Int) : Nat := if rdyE k zs ≠ 0 then rdyE k zs else if fstN k.toNat (rowsOf k.toNat zs) = 0 then 8 else 0

set_option maxHeartbeats 2000000 in
set_option maxRecDepth 100000 in
theorem first_any (k : Int) (a : Option Addr) (n cap : Nat) (zs : List Int) (w : World) (h : IntsAt w a n cap zs) :
    Calls Tryd.prog 19 #[.int .i64 k, .slice a n cap] w fun e w' => e = .returned (.tuple #[.int .i64 (firstR k zs), errv (firstE k zs)]) ∧ Lat w w' := by
  have hr := ready_any k a n cap zs w h
  by_cases h0 : rdyE k zs = 0
  · obtain ⟨h1, h2, h3, h4⟩ := rdyE_zero h0
    obtain ⟨f, rfl⟩ : ∃ f : Nat, k = f := ⟨k.toNat, by omega⟩
    obtain ⟨F, hF⟩ : ∃ F, F = fstN f (rowsOf f zs) := ⟨_, rfl⟩
    have hR : firstR f zs = F := by unfold firstR; rw [if_pos h0, Int.toNat_natCast, hF]
    have hE : firstE f zs = if F = 0 then 8 else 0 := by unfold firstE; rw [if_neg (by omega), Int.toNat_natCast, hF]
    rw [h0, errv_zero rfl] at hr
    rw [hR, hE]
    obtain ⟨EV, hEV⟩ : ∃ x, x = errv (if F = 0 then 8 else 0) := ⟨_, rfl⟩
    rw [← hEV]
    have HEV := Lib.hid hEV
    clear hEV
    have hl := h.len
    have hn60 : n ≤ 60 := by omega
    have hba := rowsOf_bare (k := f) (zs := zs) (by omega) h4
    have hti := fun j => (tab_st (k := f) (by omega) (hba.take j)).ti
    have hF0 : fstA f (rowsOf f zs) n 0 = F := by rw [hF]; unfold fstN; rw [rowsOf_len, hl]
    have H := Lib.hid h; have HR := Lib.hid hr; have HZ := Lib.hid h4; have HTI := Lib.hid hti; have HL := Lib.hid hl; have HF0 := Lib.hid hF0
    have hf1 : 1 ≤ f := by omega
    have hf16 : f ≤ 16 := by omega
    clear h hr h0 h1 h2 h3 h4 hR hE hl hti hba hF hF0
    go_enter Tryd.func19, Tryd.ntmps19
    go_wp2_with (first
      | (go_at_call 39; refine HR.out.mono ?_; rintro e w' ⟨rfl, rfl⟩)
      | (go_at_call 40; refine (newTable_any f _).mono ?_; rintro e w1 ⟨⟨p, b, rfl, hp, hb, ht⟩, hb1⟩))
    have HB := Lib.hid hb
    have hTab0 : TabAt w1 p b f (tabT f ((rowsOf f zs).take 0)) := ht
    have HT0 := Lib.hid hTab0; have HB1 := Lib.hid hb1
    clear hp hb ht hTab0 hb1
    go_loopw [8, 9, 19] (fun _ _ i wr => ∃ j : Nat, j ≤ n ∧ i = .int .i64 j ∧ Hid (fstA f (rowsOf f zs) (n - j) j = F ∧ TabAt wr p b f (tabT f ((rowsOf f zs).take j)) ∧ Lat w wr)) (fun _ _ i _ => n - (intOf i).toNat)
    case atStart => exact ⟨0, Nat.zero_le _, rfl, HF0.out, HT0.out, HB1.out⟩
    case round =>
      obtain ⟨j, hj, rfl, hrel⟩ := hrel
      by_cases hlt : j < n
      · obtain ⟨hfa, htab, hlat⟩ := hrel.out
        have hst : F = if rk f ((rowsOf f zs).take (j + 1)) = f then j + 1 else fstA f (rowsOf f zs) (n - (j + 1)) (j + 1) := by
          rw [← hfa, show n - j = (n - (j + 1)) + 1 by omega]; rfl
        obtain ⟨ab, ao, rfl, hc⟩ := (H.out.keep hlat).row.at_ (by omega)
        have c1 := hc j hlt
        have hm := HZ.out _ (getD_mem zs j (by rw [HL.out]; exact hlt))
        have hnx := tab_next (k := f) (zs := zs) j (by rw [HL.out]; exact hlt)
        obtain ⟨s, hs⟩ : ∃ s : Nat, zs.getD j 0 = (s : Int) := ⟨(zs.getD j 0).toNat, by omega⟩
        rw [hs] at c1 hm hnx
        have hrow : rowOf f (s : Int) = (bitsN (setZ f s), []) := by unfold rowOf; rw [Int.toNat_natCast]
        rw [hrow] at hnx
        have hs1 : 1 ≤ s := by omega
        have hs2 : s ≤ 10000 := by omega
        have hbl : bitsN (setZ f s) < 2 ^ f := by have := rowOf_lt f (s : Int) hf1 (by omega); rw [hrow] at this; exact this
        have hsz : ∀ z ∈ setZ f s, 0 ≤ z ∧ z < 16 := fun z hz => by have := setZ_lt f s hf1 hs1 z hz; omega
        obtain ⟨rkn, hrkn⟩ : ∃ r, r = rk f ((rowsOf f zs).take (j + 1)) := ⟨_, rfl⟩
        rw [← hrkn] at hst
        have HTB := Lib.hid htab; have HLT := Lib.hid hlat; have HNX := Lib.hid hnx; have HBL := Lib.hid hbl; have HSZ := Lib.hid hsz
        have HRK : Hid (rnkT (tabT f ((rowsOf f zs).take (j + 1))) f = rkn) := hrkn.symm
        have HST := Lib.hid hst
        clear hrel hfa htab hlat hc hm hs hrow hnx hbl hsz hst hrkn
        by_cases hfull : rkn = f
        · have d1 : ((rkn : Int) == (f : Int)) = true := by rw [hfull]; exact beq_self_eq_true _
          go_wp2_with (first
            | (go_at_call 35; refine (dropOf_any f s _ hf1 hf16 hs1 hs2).mono ?_; rintro e w2 ⟨oa, oc, rfl, hoi, hb2⟩)
            | (go_at_call 41; refine (nadd_any p b f _ _ _ _ _ _ (HTB.out.keep hb2) hoi hf16 (HTI.out j) HBL.out HSZ.out).mono ?_; rintro e w3 ⟨rfl, ht3, hf3⟩; rw [HNX.out] at ht3)
            | (go_at_call 42; refine (rank_tab p b f _ _ ht3).mono ?_; rw [HRK.out]; rintro e w' ⟨rfl, rfl⟩))
          have hl3 : Lat w w3 := hf3.lat_of (Lat.trans HLT.out hb2) (fun i e => by rw [e]; exact HB.out)
          have hFj : F = j + 1 := by rw [HST.out, if_pos hfull]
          have HL3 := Lib.hid hl3; have HFJ := Lib.hid hFj
          clear ht3 hf3 hl3 hoi hb2 hFj
          go_wp2
          go_ret2
          exact ⟨by rw [HEV.out, HFJ.out, if_neg (by omega), errv_zero rfl]; rfl, HL3.out⟩
        · have d1 : ((rkn : Int) == (f : Int)) = false := beq_eq_false_iff_ne.2 (by omega)
          go_wp2_with (first
            | (go_at_call 35; refine (dropOf_any f s _ hf1 hf16 hs1 hs2).mono ?_; rintro e w2 ⟨oa, oc, rfl, hoi, hb2⟩)
            | (go_at_call 41; refine (nadd_any p b f _ _ _ _ _ _ (HTB.out.keep hb2) hoi hf16 (HTI.out j) HBL.out HSZ.out).mono ?_; rintro e w3 ⟨rfl, ht3, hf3⟩; rw [HNX.out] at ht3)
            | (go_at_call 42; refine (rank_tab p b f _ _ ht3).mono ?_; rw [HRK.out]; rintro e w' ⟨rfl, rfl⟩))
          have hl3 : Lat w w3 := hf3.lat_of (Lat.trans HLT.out hb2) (fun i e => by rw [e]; exact HB.out)
          have hFj : fstA f (rowsOf f zs) (n - (j + 1)) (j + 1) = F := by rw [HST.out, if_neg hfull]
          have HL3 := Lib.hid hl3; have HFJ := Lib.hid hFj; have HT3 := Lib.hid ht3
          clear ht3 hf3 hl3 hoi hb2 hFj hfull
          go_roundw
          case rel => exact ⟨j + 1, by omega, by go_num, HFJ.out, HT3.out, HL3.out⟩
          case measure => simp [intOf]; omega
      · obtain rfl : j = n := by omega
        obtain ⟨hfa, htab, hlat⟩ := hrel.out
        have hF0 : F = 0 := by rw [← hfa, Nat.sub_self]; rfl
        have HLT := Lib.hid hlat; have HF1 := Lib.hid hF0
        clear hrel htab hlat hfa hF0
        go_wp2
        go_ret2
        exact ⟨by rw [HEV.out, HF1.out, if_pos rfl, errv_pos (by omega)]; rfl, HLT.out⟩
  · have hR : firstR k zs = 0 := by unfold firstR; rw [if_neg h0]
    have hE : firstE k zs = rdyE k zs := by unfold firstE; rw [if_pos h0]
    rw [hR, hE]
    rw [errv_pos h0] at hr ⊢
    have HR := Lib.hid hr
    clear h hr h0 hR hE
    go_enter Tryd.func19, Tryd.ntmps19
    go_wp2_with (go_at_call 39; refine HR.out.mono ?_; rintro e w' ⟨rfl, rfl⟩)
    go_ret2
    exact ⟨rfl, Lat.refl _⟩

def newR (k : Int) (zs : List Int) : List Int := if rdyE k zs = 0 then ofNats (newL k.toNat (rowsOf k.toNat zs) zs.length) else []
theorem newL_lt (k : Nat) (L : List Vec) : ∀ i, ∀ j ∈ newL k L i, j < i
  | 0, j, h => by cases h
  | i + 1, j, h => by
    unfold newL at h
    split at h
    · rcases List.mem_append.1 h with h | h
      · have := newL_lt k L i j h; omega
      · have := List.mem_singleton.1 h; omega
    · have := newL_lt k L i j h; omega
theorem newL_le (k : Nat) (L : List Vec) : ∀ i, (newL k L i).length ≤ i
  | 0 => Nat.le_refl _
  | i + 1 => by
    have ih := newL_le k L i
    unfold newL
    split
    · rw [List.length_append, List.length_singleton]; omega
    · omega
theorem lackL_le (k : Nat) (L : List Vec) : ∀ i, (lackL k L i).length ≤ i
  | 0 => Nat.le_refl _
  | i + 1 => by
    have ih := lackL_le k L i
    unfold lackL
    split
    · rw [List.length_append, List.length_singleton]; omega
    · omega
theorem own_ints_at {w : World} {B : Nat} {v : Value} {l : List Nat} (h : OwnInts w B v (ofNats l)) (hl : ∀ i ∈ l, i < 1000) : ∃ a c, v = .slice a l.length c ∧ IntsAt w a l.length c (ofNats l) :=
  OwnInts.sliceN h (fun z hz => by
    obtain ⟨i, hi, rfl⟩ := List.mem_map.1 hz
    have := hl i hi
    show -9223372036854775808 ≤ (i : Int) ∧ (i : Int) ≤ 9223372036854775807
    omega) (by unfold ofNats; rw [List.length_map])

set_option maxHeartbeats 2000000 in
set_option maxRecDepth 100000 in
theorem new_any (k : Int) (a : Option Addr) (n cap : Nat) (zs : List Int) (w : World) (h : IntsAt w a n cap zs) :
    Calls Tryd.prog 20 #[.int .i64 k, .slice a n cap] w fun e w' => (∃ b m c, e = .returned (.tuple #[.slice b m c, errv (rdyE k zs)]) ∧ IntsAt w' b m c (newR k zs)) ∧ Lat w w' := by
  have hr := ready_any k a n cap zs w h
  by_cases h0 : rdyE k zs = 0
  · obtain ⟨h1, h2, h3, h4⟩ := rdyE_zero h0
    obtain ⟨f, rfl⟩ : ∃ f : Nat, k = f := ⟨k.toNat, by omega⟩
    have hR : newR f zs = ofNats (newL f (rowsOf f zs) zs.length) := by unfold newR; rw [if_pos h0, Int.toNat_natCast]
    rw [h0, errv_zero rfl] at hr ⊢
    have hl := h.len
    rw [hR, hl]
    have hn60 : n ≤ 60 := by omega
    have hba := rowsOf_bare (k := f) (zs := zs) (by omega) h4
    have hti := fun j => (tab_st (k := f) (by omega) (hba.take j)).ti
    have H := Lib.hid h; have HR := Lib.hid hr; have HZ := Lib.hid h4; have HTI := Lib.hid hti; have HL := Lib.hid hl
    have hf1 : 1 ≤ f := by omega
    have hf16 : f ≤ 16 := by omega
    clear h hr h0 h1 h2 h3 h4 hR hl hti hba
    go_enter Tryd.func20, Tryd.ntmps20
    go_wp2_with (first
      | (go_at_call 39; refine HR.out.mono ?_; rintro e w' ⟨rfl, rfl⟩)
      | (go_at_call 40; refine (newTable_any f _).mono ?_; rintro e w1 ⟨⟨p, b, rfl, hp, hb, ht⟩, hb1⟩))
    have HB := Lib.hid hb
    have hTab0 : TabAt w1 p b f (tabT f ((rowsOf f zs).take 0)) := ht
    have HT0 := Lib.hid hTab0; have HB1 := Lib.hid hb1; have HLTB := Lib.hid ht.lt
    clear hp hb ht hTab0 hb1
    go_loopw [8, 9, 10, 20] (fun out _ _ i wr => ∃ j : Nat, j ≤ n ∧ i = .int .i64 j ∧ Hid (OwnInts wr w1.heap.size out (ofNats (newL f (rowsOf f zs) j)) ∧ w1.heap.size ≤ wr.heap.size ∧ TabAt wr p b f (tabT f ((rowsOf f zs).take j)) ∧ Lat w wr)) (fun _ _ _ i _ => n - (intOf i).toNat)
    case atStart => exact ⟨0, Nat.zero_le _, rfl, Own.nil _ _ _, Nat.le_refl _, HT0.out, HB1.out⟩
    case round =>
      obtain ⟨j, hj, rfl, hrel⟩ := hrel
      by_cases hlt : j < n
      · obtain ⟨hout, hsz1, htab, hlat⟩ := hrel.out
        obtain ⟨ab, ao, rfl, hc⟩ := (H.out.keep hlat).row.at_ (by omega)
        have c1 := hc j hlt
        have hm := HZ.out _ (getD_mem zs j (by rw [HL.out]; exact hlt))
        have hnx := tab_next (k := f) (zs := zs) j (by rw [HL.out]; exact hlt)
        have hgd := rowsOf_getD f zs j (by rw [HL.out]; exact hlt)
        obtain ⟨s, hs⟩ : ∃ s : Nat, zs.getD j 0 = (s : Int) := ⟨(zs.getD j 0).toNat, by omega⟩
        rw [hs] at c1 hm hnx hgd
        have hrow : rowOf f (s : Int) = (bitsN (setZ f s), []) := by unfold rowOf; rw [Int.toNat_natCast]
        rw [hrow] at hnx hgd
        have hst : newL f (rowsOf f zs) (j + 1) = if rsT f (tabT f ((rowsOf f zs).take j)) (bitsN (setZ f s), []) = true then newL f (rowsOf f zs) j ++ [j] else newL f (rowsOf f zs) j := by rw [← hgd]; rfl
        have hs1 : 1 ≤ s := by omega
        have hs2 : s ≤ 10000 := by omega
        have hbl : bitsN (setZ f s) < 2 ^ f := by have := rowOf_lt f (s : Int) hf1 (by omega); rw [hrow] at this; exact this
        have hsz : ∀ z ∈ setZ f s, 0 ≤ z ∧ z < 16 := fun z hz => by have := setZ_lt f s hf1 hs1 z hz; omega
        have hcall := fun (W : World) (oa : Option Addr) (oc : Nat) (hW : TabAt W p b f (tabT f ((rowsOf f zs).take j))) (hoi : IntsAt W oa (setZ f s).length oc (setZ f s)) => nadd_any p b f _ oa _ oc _ W hW hoi hf16 (HTI.out j) hbl hsz
        obtain ⟨rs, hrs⟩ : ∃ r, r = rsT f (tabT f ((rowsOf f zs).take j)) (bitsN (setZ f s), []) := ⟨_, rfl⟩
        simp only [← hrs, hnx] at hcall
        rw [← hrs] at hst
        have hnl : (ofNats (newL f (rowsOf f zs) j)).length < 1000000 := by unfold ofNats; rw [List.length_map]; have := newL_le f (rowsOf f zs) j; omega
        have HOUT := Lib.hid hout; have HS1 := Lib.hid hsz1; have HTB := Lib.hid htab; have HLT := Lib.hid hlat; have HST := Lib.hid hst; have HCALL := Lib.hid hcall; have HNL := Lib.hid hnl
        clear hrel hout hsz1 htab hlat hc hm hs hrow hnx hgd hbl hsz hst hcall hrs hnl
        cases rs with
        | true =>
          go_wp2_with (first
            | (go_at_call 35; refine (dropOf_any f s _ hf1 hf16 hs1 hs2).mono ?_; rintro e w2 ⟨oa, oc, rfl, hoi, hb2⟩)
            | (go_at_call 41; refine (HCALL.out _ _ _ (HTB.out.keep hb2) hoi).mono ?_; rintro e w3 ⟨rfl, ht3, hf3⟩)
            | (at_builtin; refine app_intF w3 w1.heap.size rfl (.tmp 30) (.tmp 32) rfl u8 _ (j : Int) rfl ((HOUT.out.keep hb2).frB hf3 HLTB.out.2) rfl HNL.out (Nat.le_trans HS1.out (Nat.le_trans hb2.size hf3.size)) ?_; intro v' w4 hown' hf4))
          have hl3 : Lat w w3 := hf3.lat_of (Lat.trans HLT.out hb2) (fun i e => by rw [e]; exact HB.out)
          have hob : ∀ i, u8.ownBlock = some i → w1.heap.size ≤ i := fun i e => (Own.lt HOUT.out i e).1
          have hl4 : Lat w w4 := hf4.lat_of hl3 (fun i e => Nat.le_trans HB1.out.size (hob i e))
          have ht4 := ht3.fr hf4 (fun e => by have := hob p e; have := HLTB.out.1; omega) (fun e => by have := hob b e; have := HLTB.out.2; omega)
          have ho4 : OwnInts w4 w1.heap.size v' (ofNats (newL f (rowsOf f zs) (j + 1))) := by rw [HST.out, if_pos (by simp), ofNats_snoc]; exact hown'
          have hs4 : w1.heap.size ≤ w4.heap.size := Nat.le_trans HS1.out (Nat.le_trans hb2.size (Nat.le_trans hf3.size hf4.size))
          have HO4 := Lib.hid ho4; have HT4 := Lib.hid ht4; have HL4 := Lib.hid hl4; have HS4 := Lib.hid hs4
          clear ht3 hf3 hl3 hoi hb2 hob hl4 ht4 ho4 hs4 hown' hf4
          go_wp2
          go_roundw
          case rel => exact ⟨j + 1, by omega, by go_num, HO4.out, HS4.out, HT4.out, HL4.out⟩
          case measure => simp [intOf]; omega
        | false =>
          go_wp2_with (first
            | (go_at_call 35; refine (dropOf_any f s _ hf1 hf16 hs1 hs2).mono ?_; rintro e w2 ⟨oa, oc, rfl, hoi, hb2⟩)
            | (go_at_call 41; refine (HCALL.out _ _ _ (HTB.out.keep hb2) hoi).mono ?_; rintro e w3 ⟨rfl, ht3, hf3⟩))
          have hl3 : Lat w w3 := hf3.lat_of (Lat.trans HLT.out hb2) (fun i e => by rw [e]; exact HB.out)
          have ho4 : OwnInts w3 w1.heap.size u8 (ofNats (newL f (rowsOf f zs) (j + 1))) := by rw [HST.out, if_neg (by simp)]; exact (HOUT.out.keep hb2).frB hf3 HLTB.out.2
          have hs4 : w1.heap.size ≤ w3.heap.size := Nat.le_trans HS1.out (Nat.le_trans hb2.size hf3.size)
          have HO4 := Lib.hid ho4; have HT4 := Lib.hid ht3; have HL4 := Lib.hid hl3; have HS4 := Lib.hid hs4
          clear ht3 hf3 hl3 hoi hb2 ho4 hs4
          go_wp2
          go_roundw
          case rel => exact ⟨j + 1, by omega, by go_num, HO4.out, HS4.out, HT4.out, HL4.out⟩
          case measure => simp [intOf]; omega
      · obtain rfl : j = n := by omega
        obtain ⟨hout, hsz1, htab, hlat⟩ := hrel.out
        obtain ⟨oa, oc, hv, hat⟩ := own_ints_at hout (fun i hi => by have := newL_lt _ _ _ i hi; omega)
        subst hv
        have HAT := Lib.hid hat; have HLT := Lib.hid hlat
        clear hrel hout hsz1 htab hlat hat
        go_wp2
        go_ret2
        exact ⟨⟨_, _, _, rfl, HAT.out⟩, HLT.out⟩
  · have hR : newR k zs = [] := by unfold newR; rw [if_neg h0]
    rw [hR]
    rw [errv_pos h0] at hr ⊢
    have HR := Lib.hid hr
    clear h hr h0 hR
    go_enter Tryd.func20, Tryd.ntmps20
    go_wp2_with (go_at_call 39; refine HR.out.mono ?_; rintro e w' ⟨rfl, rfl⟩)
    go_ret2
    exact ⟨⟨_, _, _, rfl, IntsAt.nil _⟩, Lat.refl _⟩
end Go.Proofs.YtcpookgbneoilaaDoor

namespace Go.Proofs.YtcpookgbneoilaaDoor
open Go.ChangeShapes Go.WideShapes Go.ChangeAt Go.RowKit

def lackR (k : Int) (zs : List Int) : List Int := if rdyE k zs = 0 then ofNats (lackL k.toNat (rowsOf k.toNat zs) k.toNat) else []
theorem bits_one (i : Nat) : (bitsN [(i : Int)], ([] : List UInt8)) = unit i := by
  unfold unit bitsN
  show (0 ||| bitP i, []) = _
  rw [Nat.zero_or]; rfl

set_option maxHeartbeats 2000000 in
set_option maxRecDepth 100000 in
theorem lacks_own (k : Int) (a : Option Addr) (n cap : Nat) (zs : List Int) (w : World) (h : IntsAt w a n cap zs) :
    Calls Tryd.prog 22 #[.int .i64 k, .slice a n cap] w fun e w' => (∃ b c, e = .returned (.tuple #[.slice b (lackR k zs).length c, errv (rdyE k zs)]) ∧ OwnInts w' w.heap.size (.slice b (lackR k zs).length c) (lackR k zs)) ∧ Lat w w' := by
  have hr := ready_any k a n cap zs w h
  by_cases h0 : rdyE k zs = 0
  · obtain ⟨h1, h2, h3, h4⟩ := rdyE_zero h0
    obtain ⟨f, rfl⟩ : ∃ f : Nat, k = f := ⟨k.toNat, by omega⟩
    have hR : lackR f zs = ofNats (lackL f (rowsOf f zs) f) := by unfold lackR; rw [if_pos h0, Int.toNat_natCast]
    rw [h0, errv_zero rfl] at hr ⊢
    rw [hR]
    have hl := h.len
    have hn60 : n ≤ 60 := by omega
    have hba := rowsOf_bare (k := f) (zs := zs) (by omega) h4
    have hti := fun j => (tab_st (k := f) (by omega) (hba.take j)).ti
    have hti2 := fun i (hi : i ≤ f) => (tab_st (k := f) (by omega) (hba.append (bare_range hi))).ti
    have H := Lib.hid h; have HR := Lib.hid hr; have HZ := Lib.hid h4; have HTI := Lib.hid hti; have HL := Lib.hid hl; have HTI2 := Lib.hid hti2
    have hf1 : 1 ≤ f := by omega
    have hf16 : f ≤ 16 := by omega
    clear h hr h0 h1 h2 h3 h4 hR hl hti hti2 hba
    go_enter Tryd.func22, Tryd.ntmps22
    go_wp2_with (first
      | (go_at_call 39; refine HR.out.mono ?_; rintro e w' ⟨rfl, rfl⟩)
      | (go_at_call 40; refine (newTable_any f _).mono ?_; rintro e w1 ⟨⟨p, b, rfl, hp, hb, ht⟩, hb1⟩))
    have HB := Lib.hid hb
    have hTab0 : TabAt w1 p b f (tabT f ((rowsOf f zs).take 0)) := ht
    have HT0 := Lib.hid hTab0; have HB1 := Lib.hid hb1; have HLTB := Lib.hid ht.lt
    clear hp hb ht hTab0 hb1
    go_loopw [9, 21] (fun _ i wr => ∃ j : Nat, j ≤ n ∧ i = .int .i64 j ∧ Hid (w1.heap.size ≤ wr.heap.size ∧ TabAt wr p b f (tabT f ((rowsOf f zs).take j)) ∧ Lat w wr)) (fun _ i _ => n - (intOf i).toNat)
    case atStart => exact ⟨0, Nat.zero_le _, rfl, Nat.le_refl _, HT0.out, HB1.out⟩
    case round =>
      obtain ⟨j, hj, rfl, hrel⟩ := hrel
      by_cases hlt : j < n
      · obtain ⟨hsz1, htab, hlat⟩ := hrel.out
        obtain ⟨ab, ao, rfl, hc⟩ := (H.out.keep hlat).row.at_ (by omega)
        have c1 := hc j hlt
        have hm := HZ.out _ (getD_mem zs j (by rw [HL.out]; exact hlt))
        have hnx := tab_next (k := f) (zs := zs) j (by rw [HL.out]; exact hlt)
        obtain ⟨s, hs⟩ : ∃ s : Nat, zs.getD j 0 = (s : Int) := ⟨(zs.getD j 0).toNat, by omega⟩
        rw [hs] at c1 hm hnx
        have hrow : rowOf f (s : Int) = (bitsN (setZ f s), []) := by unfold rowOf; rw [Int.toNat_natCast]
        rw [hrow] at hnx
        have hs1 : 1 ≤ s := by omega
        have hs2 : s ≤ 10000 := by omega
        have hbl : bitsN (setZ f s) < 2 ^ f := by have := rowOf_lt f (s : Int) hf1 (by omega); rw [hrow] at this; exact this
        have hsz : ∀ z ∈ setZ f s, 0 ≤ z ∧ z < 16 := fun z hz => by have := setZ_lt f s hf1 hs1 z hz; omega
        have HTB := Lib.hid htab; have HLT := Lib.hid hlat; have HNX := Lib.hid hnx; have HBL := Lib.hid hbl; have HSZ := Lib.hid hsz; have HS1 := Lib.hid hsz1
        clear hrel hsz1 htab hlat hc hm hs hrow hnx hbl hsz
        go_wp2_with (first
          | (go_at_call 35; refine (dropOf_any f s _ hf1 hf16 hs1 hs2).mono ?_; rintro e w2 ⟨oa, oc, rfl, hoi, hb2⟩)
          | (go_at_call 41; refine (nadd_any p b f _ _ _ _ _ _ (HTB.out.keep hb2) hoi hf16 (HTI.out j) HBL.out HSZ.out).mono ?_; rintro e w3 ⟨rfl, ht3, hf3⟩; rw [HNX.out] at ht3))
        have hl3 : Lat w w3 := hf3.lat_of (Lat.trans HLT.out hb2) (fun i e => by rw [e]; exact HB.out)
        have HT3 := Lib.hid ht3; have HL3 := Lib.hid hl3; have HS3 := Lib.hid (Nat.le_trans HS1.out (Nat.le_trans hb2.size hf3.size))
        clear ht3 hf3 hl3 hoi hb2
        go_roundw
        case rel => exact ⟨j + 1, by omega, by go_num, HS3.out, HT3.out, HL3.out⟩
        case measure => simp [intOf]; omega
      · obtain rfl : j = n := by omega
        obtain ⟨hsz1, htab, hlat⟩ := hrel.out
        have hall : (rowsOf f zs).take j = rowsOf f zs := List.take_of_length_le (by rw [rowsOf_len, HL.out]; exact Nat.le_refl _)
        rw [hall] at htab
        have htab2 : TabAt wr p b f (tabT f (rowsOf f zs ++ (List.range 0).map unit)) := by simpa using htab
        have HTB := Lib.hid htab2; have HLT := Lib.hid hlat; have HS1 := Lib.hid hsz1
        clear hrel hsz1 htab hlat hall htab2
        obtain ⟨wo, hwo⟩ : ∃ wo : World, wo = wr := ⟨_, rfl⟩
        subst hwo
        go_wp2
        go_loopw [10, 11, 32] (fun out _ i wr => ∃ j : Nat, j ≤ f ∧ i = .int .i64 j ∧ Hid (OwnInts wr w1.heap.size out (ofNats (lackL f (rowsOf f zs) j)) ∧ w1.heap.size ≤ wr.heap.size ∧ TabAt wr p b f (tabT f (rowsOf f zs ++ (List.range j).map unit)) ∧ Lat w wr)) (fun _ _ i _ => f - (intOf i).toNat)
        case atStart => exact ⟨0, Nat.zero_le _, rfl, Own.nil _ _ _, HS1.out, HTB.out, HLT.out⟩
        case round =>
          obtain ⟨q, hq, rfl, hrel⟩ := hrel
          by_cases hqf : q < f
          · obtain ⟨hout, hsz1, htab, hlat⟩ := hrel.out
            have hone : IntsAt (wr.alloc (.cells #[.int .i64 q] 3)) (some ⟨wr.heap.size, 0, none⟩) 1 1 [(q : Int)] := by
              have := ints_new wr [(q : Int)] 3 (by simp) (by intro z hz; rw [List.mem_singleton] at hz; subst hz; omega)
              simpa using this
            have hbl : bitsN [(q : Int)] < 2 ^ f := by
              have h2 := unit_lt (k := f) hqf
              rw [← bits_one] at h2; exact h2
            have hcall := nadd_any p b f _ _ 1 1 [(q : Int)] _ (htab.keep (Lat.alloc wr (.cells #[.int .i64 q] 3))) hone hf16 (HTI2.out q hq) hbl (fun z hz => by rw [List.mem_singleton.1 hz]; omega)
            rw [bits_one] at hcall
            have hnx : addT f (tabT f (rowsOf f zs ++ (List.range q).map unit)) (unit q) = tabT f (rowsOf f zs ++ (List.range (q + 1)).map unit) := by rw [← tabT_snoc, units_snoc, List.append_assoc]
            have hst : lackL f (rowsOf f zs) (q + 1) = if rsT f (tabT f (rowsOf f zs ++ (List.range q).map unit)) (unit q) = true then lackL f (rowsOf f zs) q ++ [q] else lackL f (rowsOf f zs) q := rfl
            obtain ⟨rs, hrs⟩ : ∃ r, r = rsT f (tabT f (rowsOf f zs ++ (List.range q).map unit)) (unit q) := ⟨_, rfl⟩
            rw [hnx, ← hrs] at hcall
            rw [← hrs] at hst
            have hnl : (ofNats (lackL f (rowsOf f zs) q)).length < 1000000 := by unfold ofNats; rw [List.length_map]; have := lackL_le f (rowsOf f zs) q; omega
            have HOUT := Lib.hid hout; have HS1 := Lib.hid hsz1; have HLT := Lib.hid hlat; have HST := Lib.hid hst; have HCALL := Lib.hid hcall; have HNL := Lib.hid hnl
            clear hrel hout hsz1 htab hlat hone hbl hcall hnx hst hrs hnl
            cases rs with
            | true =>
              go_wp2_with (first
                | (go_at_call 41; refine HCALL.out.mono ?_; rintro e w3 ⟨rfl, ht3, hf3⟩)
                | (at_builtin; refine app_intF w3 w1.heap.size rfl (.tmp 39) (.tmp 41) rfl u10 _ (q : Int) rfl ((HOUT.out.keep (Lat.alloc _ _)).frB hf3 HLTB.out.2) rfl HNL.out (Nat.le_trans HS1.out (Nat.le_trans (Lat.alloc _ _).size hf3.size)) ?_; intro v' w4 hown' hf4))
              have hl3 : Lat w w3 := hf3.lat_of (Lat.trans HLT.out (Lat.alloc _ _)) (fun i e => by rw [e]; exact HB.out)
              have hob : ∀ i, u10.ownBlock = some i → w1.heap.size ≤ i := fun i e => (Own.lt HOUT.out i e).1
              have hl4 : Lat w w4 := hf4.lat_of hl3 (fun i e => Nat.le_trans HB1.out.size (hob i e))
              have ht4 := ht3.fr hf4 (fun e => by have := hob p e; have := HLTB.out.1; omega) (fun e => by have := hob b e; have := HLTB.out.2; omega)
              have ho4 : OwnInts w4 w1.heap.size v' (ofNats (lackL f (rowsOf f zs) (q + 1))) := by rw [HST.out, if_pos (by simp), ofNats_snoc]; exact hown'
              have hs4 : w1.heap.size ≤ w4.heap.size := Nat.le_trans HS1.out (Nat.le_trans (Lat.alloc wr (.cells #[.int .i64 q] 3)).size (Nat.le_trans hf3.size hf4.size))
              have HO4 := Lib.hid ho4; have HT4 := Lib.hid ht4; have HL4 := Lib.hid hl4; have HS4 := Lib.hid hs4
              clear ht3 hf3 hl3 hob hl4 ht4 ho4 hs4 hown' hf4
              go_wp2
              go_roundw
              case rel => exact ⟨q + 1, by omega, by go_num, HO4.out, HS4.out, HT4.out, HL4.out⟩
              case measure => simp [intOf]; omega
            | false =>
              go_wp2_with (go_at_call 41; refine HCALL.out.mono ?_; rintro e w3 ⟨rfl, ht3, hf3⟩)
              have hl3 : Lat w w3 := hf3.lat_of (Lat.trans HLT.out (Lat.alloc _ _)) (fun i e => by rw [e]; exact HB.out)
              have ho4 : OwnInts w3 w1.heap.size u10 (ofNats (lackL f (rowsOf f zs) (q + 1))) := by rw [HST.out, if_neg (by simp)]; exact (HOUT.out.keep (Lat.alloc _ _)).frB hf3 HLTB.out.2
              have hs4 : w1.heap.size ≤ w3.heap.size := Nat.le_trans HS1.out (Nat.le_trans (Lat.alloc wr (.cells #[.int .i64 q] 3)).size hf3.size)
              have HO4 := Lib.hid ho4; have HT4 := Lib.hid ht3; have HL4 := Lib.hid hl3; have HS4 := Lib.hid hs4
              clear ht3 hf3 hl3 ho4 hs4
              go_wp2
              go_roundw
              case rel => exact ⟨q + 1, by omega, by go_num, HO4.out, HS4.out, HT4.out, HL4.out⟩
              case measure => simp [intOf]; omega
          · obtain rfl : q = f := by omega
            obtain ⟨hout, hsz1, htab, hlat⟩ := hrel.out
            obtain ⟨oa, oc, hv, hat⟩ := own_ints_at hout (fun i hi => by have := lackL_lt _ _ _ i hi; omega)
            subst hv
            have hln : (ofNats (lackL q (rowsOf q zs) q)).length = (lackL q (rowsOf q zs) q).length := List.length_map _
            have HAT := Lib.hid (hout.mono HB1.out.size); have HLT := Lib.hid hlat; have HLN := Lib.hid hln
            clear hrel hout hsz1 htab hlat hat hln
            go_wp2
            go_ret2
            rw [HLN.out]
            exact ⟨⟨_, _, rfl, HAT.out⟩, HLT.out⟩
  · have hR : lackR k zs = [] := by unfold lackR; rw [if_neg h0]
    rw [hR]
    rw [errv_pos h0] at hr ⊢
    have HR := Lib.hid hr
    clear h hr h0 hR
    go_enter Tryd.func22, Tryd.ntmps22
    go_wp2_with (go_at_call 39; refine HR.out.mono ?_; rintro e w' ⟨rfl, rfl⟩)
    go_ret2
    exact ⟨⟨none, 0, rfl, Own.nil _ _ _⟩, Lat.refl _⟩
theorem lackR_wf (k : Int) (zs : List Int) : ∀ z ∈ lackR k zs, -9223372036854775808 ≤ z ∧ z ≤ 9223372036854775807 := by
  intro z hz
  unfold lackR at hz
  split at hz
  · rename_i h0
    obtain ⟨-, h1, h2, -⟩ := rdyE_zero h0
    obtain ⟨i, hi, rfl⟩ := List.mem_map.1 hz
    have := lackL_lt _ _ _ i hi
    show -9223372036854775808 ≤ (i : Int) ∧ (i : Int) ≤ 9223372036854775807
    omega
  · cases hz
theorem own_lacks {w : World} {B : Nat} {a : Option Addr} {c : Nat} {k : Int} {zs : List Int} (h : OwnInts w B (.slice a (lackR k zs).length c) (lackR k zs)) : IntsAt w a (lackR k zs).length c (lackR k zs) := by
  obtain ⟨a', c', e, hi⟩ := OwnInts.sliceN h (lackR_wf k zs) rfl
  injection e with e1 _ e3
  subst e1; subst e3
  exact hi
theorem lacks_any (k : Int) (a : Option Addr) (n cap : Nat) (zs : List Int) (w : World) (h : IntsAt w a n cap zs) :
    Calls Tryd.prog 22 #[.int .i64 k, .slice a n cap] w fun e w' => (∃ b m c, e = .returned (.tuple #[.slice b m c, errv (rdyE k zs)]) ∧ IntsAt w' b m c (lackR k zs)) ∧ Lat w w' :=
  (lacks_own k a n cap zs w h).mono fun _ _ ⟨⟨b, c, he, ho⟩, hl⟩ => ⟨⟨b, _, c, he, own_lacks ho⟩, hl⟩
end Go.Proofs.YtcpookgbneoilaaDoor

namespace Go.Proofs.YtcpookgbneoilaaDoor
open Go.ChangeShapes Go.WideShapes Go.ChangeAt Go.RowKit

theorem rowOf_unit (f i : Nat) (h : i < f) : rowOf f ((i : Int) + 1) = unit i := by
  unfold rowOf
  have e : ((i : Int) + 1).toNat = i + 1 := by omega
  have e2 : setZ f (i + 1) = [(i : Int)] := by unfold setZ; rw [if_pos (by omega)]; rfl
  rw [e, e2]; exact bits_one i
def seedsOf (l : List Nat) : List Int := l.map fun (i : Nat) => (i : Int) + 1
theorem rows_seedsOf (f : Nat) (l : List Nat) (h : ∀ i ∈ l, i < f) : rowsOf f (seedsOf l) = l.map unit := by
  unfold rowsOf seedsOf
  rw [List.map_map]
  exact List.map_congr_left fun i hi => rowOf_unit f i (h i hi)
theorem rows_app (f : Nat) (zs ys : List Int) : rowsOf f (zs ++ ys) = rowsOf f zs ++ rowsOf f ys := by unfold rowsOf; rw [List.map_append]
theorem rdyE_of {f : Nat} {zs : List Int} (h1 : zs.length ≤ 60) (h2 : 1 ≤ f) (h3 : f ≤ 16) (h4 : ∀ z ∈ zs, 1 ≤ z ∧ z ≤ 10000) : rdyE f zs = 0 := by
  unfold rdyE
  rw [if_neg (by omega), if_neg (by omega), if_neg]
  intro h
  obtain ⟨z, hz, hn⟩ := List.any_eq_true.1 h
  unfold noSeed at hn
  rw [decide_eq_true (h4 z hz)] at hn
  cases hn
theorem seeds_ok {f : Nat} {l : List Nat} (h : ∀ i ∈ l, i < f) (h3 : f ≤ 16) : ∀ z ∈ seedsOf l, 1 ≤ z ∧ z ≤ 10000 := fun z hz => by
  obtain ⟨i, hi, rfl⟩ := List.mem_map.1 hz
  have := h i hi
  omega
theorem both_ok {zs ys : List Int} (h : ∀ z ∈ zs, 1 ≤ z ∧ z ≤ 10000) (h2 : ∀ z ∈ ys, 1 ≤ z ∧ z ≤ 10000) : ∀ z ∈ zs ++ ys, 1 ≤ z ∧ z ≤ 10000 := fun z hz => by
  rcases List.mem_append.1 hz with hz | hz
  · exact h z hz
  · exact h2 z hz
theorem rankR_of {f : Nat} {zs : List Int} (h : rdyE f zs = 0) : rankR f zs = rk f (rowsOf f zs) := by unfold rankR; rw [if_pos h, Int.toNat_natCast]
def fewTo (l : List Nat) (wo : Int) : Nat → List Nat
  | 0 => []
  | j + 1 => if (j : Int) = wo then fewTo l wo j else fewTo l wo j ++ [l.getD j 0]
theorem fewTo_mem (l : List Nat) (wo : Int) : ∀ j, j ≤ l.length → ∀ i ∈ fewTo l wo j, i ∈ l
  | 0, _, i, h => by cases h
  | j + 1, hj, i, h => by
    unfold fewTo at h
    split at h
    · exact fewTo_mem l wo j (by omega) i h
    · rcases List.mem_append.1 h with h | h
      · exact fewTo_mem l wo j (by omega) i h
      · rw [List.mem_singleton.1 h, List.getD_eq_getElem?_getD, List.getElem?_eq_getElem (by omega)]
        exact List.getElem_mem _
theorem fewTo_len (l : List Nat) (wo : Int) : ∀ j, (fewTo l wo j).length = if 0 ≤ wo ∧ wo < (j : Int) then j - 1 else j
  | 0 => by rw [if_neg (by omega)]; rfl
  | j + 1 => by
    have ih := fewTo_len l wo j
    unfold fewTo
    by_cases e : (j : Int) = wo
    · rw [if_pos e, ih, if_neg (by omega), if_pos (by omega)]; omega
    · rw [if_neg e, List.length_append, List.length_singleton, ih]
      by_cases h : 0 ≤ wo ∧ wo < (j : Int)
      · rw [if_pos h, if_pos (by omega)]; omega
      · rw [if_neg h, if_neg (by omega)]
theorem rank_all {f : Nat} {zs : List Int} (h2 : 1 ≤ f) (h3 : f ≤ 16) (h4 : ∀ z ∈ zs, 1 ≤ z ∧ z ≤ 10000) (hl : (zs ++ seedsOf (lackL f (rowsOf f zs) f)).length ≤ 60) : rankR f (zs ++ seedsOf (lackL f (rowsOf f zs) f)) = f ∧ rdyE f (zs ++ seedsOf (lackL f (rowsOf f zs) f)) = 0 := by
  have hlt := lackL_lt f (rowsOf f zs) f
  have he := rdyE_of (f := f) hl h2 h3 (both_ok h4 (seeds_ok hlt h3))
  refine ⟨?_, he⟩
  rw [rankR_of he, rows_app, rows_seedsOf f _ hlt]
  exact rk_filled (by omega) (rowsOf_bare h2 h4)
theorem rank_few {f : Nat} {zs : List Int} (h2 : 1 ≤ f) (h3 : f ≤ 16) (h4 : ∀ z ∈ zs, 1 ≤ z ∧ z ≤ 10000) (wo : Int) (hl : (zs ++ seedsOf (lackL f (rowsOf f zs) f)).length ≤ 60) :
    rdyE f (zs ++ seedsOf (fewTo (lackL f (rowsOf f zs) f) wo (lackL f (rowsOf f zs) f).length)) = 0 ∧
    (0 ≤ wo → wo < ((lackL f (rowsOf f zs) f).length : Int) → rankR f (zs ++ seedsOf (fewTo (lackL f (rowsOf f zs) f) wo (lackL f (rowsOf f zs) f).length)) < f) := by
  have hlt := lackL_lt f (rowsOf f zs) f
  have hmem := fewTo_mem (lackL f (rowsOf f zs) f) wo (lackL f (rowsOf f zs) f).length (Nat.le_refl _)
  have hfl := fewTo_len (lackL f (rowsOf f zs) f) wo (lackL f (rowsOf f zs) f).length
  have hlk := lack_len (k := f) (by omega) (rowsOf_bare h2 h4)
  have hll : (seedsOf (fewTo (lackL f (rowsOf f zs) f) wo (lackL f (rowsOf f zs) f).length)).length ≤ (lackL f (rowsOf f zs) f).length := by
    unfold seedsOf
    rw [List.length_map, hfl]; split <;> omega
  have hl1 : (seedsOf (lackL f (rowsOf f zs) f)).length = (lackL f (rowsOf f zs) f).length := List.length_map _
  rw [List.length_append, hl1] at hl
  have he := rdyE_of (f := f) (zs := zs ++ seedsOf (fewTo (lackL f (rowsOf f zs) f) wo (lackL f (rowsOf f zs) f).length)) (by rw [List.length_append]; omega) h2 h3 (both_ok h4 (seeds_ok (fun i hi => hlt i (hmem i hi)) h3))
  refine ⟨he, fun a b => ?_⟩
  rw [rankR_of he, rows_app, rows_seedsOf f _ (fun i hi => hlt i (hmem i hi))]
  have hb := (rowsOf_bare (k := f) h2 h4).append (bare_units (k := f) (fewTo (lackL f (rowsOf f zs) f) wo (lackL f (rowsOf f zs) f).length) (fun i hi => hlt i (hmem i hi)))
  have h5 := (rk_append (k := f) (by omega) _ _ rfl hb).2
  rw [List.length_map, hfl, if_pos ⟨a, by omega⟩] at h5
  omega
theorem first_full {f : Nat} {zs : List Int} (h1 : zs.length ≤ 60) (h2 : 1 ≤ f) (h3 : f ≤ 16) (h4 : ∀ z ∈ zs, 1 ≤ z ∧ z ≤ 10000) (hr : rk f (rowsOf f zs) = f) :
    ∃ F, firstR f zs = F ∧ firstE f zs = 0 ∧ f ≤ F ∧ F ≤ zs.length ∧ rankR f (zs.take F) = f ∧ rdyE f (zs.take F) = 0 ∧ rankR f (zs.take (F - 1)) < f ∧ rdyE f (zs.take (F - 1)) = 0 := by
  have he := rdyE_of h1 h2 h3 h4
  have hb := rowsOf_bare (k := f) h2 h4
  have hne := (fst_iff (by omega) h2 hb).2 hr
  obtain ⟨a1, a2, a3, a4⟩ := fstA_ne _ _ hne
  have hF : fstA f (rowsOf f zs) (rowsOf f zs).length 0 = fstN f (rowsOf f zs) := rfl
  rw [hF] at a1 a2 a3 a4
  rw [rowsOf_len] at a3
  have htk : ∀ j, rdyE f (zs.take j) = 0 := fun j => rdyE_of (by rw [List.length_take]; omega) h2 h3 fun z hz => h4 z (List.mem_of_mem_take hz)
  have hrt : ∀ j, rankR f (zs.take j) = rk f ((rowsOf f zs).take j) := fun j => by
    rw [rankR_of (htk j)]; unfold rowsOf; rw [List.map_take]
  refine ⟨fstN f (rowsOf f zs), by unfold firstR; rw [if_pos he, Int.toNat_natCast], by unfold firstE; rw [if_neg (by omega), Int.toNat_natCast, if_neg hne], ?_, by omega, by rw [hrt]; exact a1, htk _, ?_, htk _⟩
  · have := rk_len (k := f) (by omega) (hb.take (fstN f (rowsOf f zs)))
    rw [a1, List.length_take] at this
    omega
  · rw [hrt]
    have hle := rk_le f ((rowsOf f zs).take (fstN f (rowsOf f zs) - 1))
    by_cases e : fstN f (rowsOf f zs) = 1
    · rw [e]
      show rk f ((rowsOf f zs).take 0) < f
      rw [List.take_zero, rk_nil]; omega
    · have := a4 (fstN f (rowsOf f zs) - 2) (by omega) (by omega)
      rw [show fstN f (rowsOf f zs) - 2 + 1 = fstN f (rowsOf f zs) - 1 by omega] at this
      omega
theorem first_none {f : Nat} {zs : List Int} (h1 : zs.length ≤ 60) (h2 : 1 ≤ f) (h3 : f ≤ 16) (h4 : ∀ z ∈ zs, 1 ≤ z ∧ z ≤ 10000) (hr : rk f (rowsOf f zs) ≠ f) : firstR f zs = 0 ∧ firstE f zs = 8 := by
  have he := rdyE_of h1 h2 h3 h4
  have hz : fstN f (rowsOf f zs) = 0 := by
    by_cases e : fstN f (rowsOf f zs) = 0
    · exact e
    · exact absurd ((fst_iff (by omega) h2 (rowsOf_bare h2 h4)).1 e) hr
  constructor
  · unfold firstR; rw [if_pos he, Int.toNat_natCast, hz]
  · unfold firstE; rw [if_neg (by omega), Int.toNat_natCast, if_pos hz]
theorem ofNats_len (l : List Nat) : (ofNats l).length = l.length := List.length_map _
theorem ofNats_getD (l : List Nat) (j : Nat) (h : j < l.length) : (ofNats l).getD j 0 = (l.getD j 0 : Int) := by
  unfold ofNats
  rw [List.getD_eq_getElem?_getD, List.getElem?_map, List.getD_eq_getElem?_getD, List.getElem?_eq_getElem h]; rfl
theorem seedsOf_snoc (l : List Nat) (i : Nat) : seedsOf (l ++ [i]) = seedsOf l ++ [(i : Int) + 1] := by unfold seedsOf; rw [List.map_append]; rfl
end Go.Proofs.YtcpookgbneoilaaDoor

namespace Go.Proofs.YtcpookgbneoilaaDoor
open Go.ChangeShapes Go.WideShapes Go.ChangeAt Go.RowKit

theorem flat_snoc (A : List Vec) (x : Vec) : ((A ++ [x]).map lineC).flatten = (A.map lineC).flatten ++ lineC x := by
  rw [List.map_append, List.flatten_append]; simp
theorem run_app_line (w : World) (B : Nat) (ty : TypeId) (v : Value) (A : List Vec) (hown : OwnL w B v A) (ad : Addr) (x : Vec) (hx : ∀ j u, (lineC x)[j]? = some u → w.cell? (ad.add j) = some u) (hn : A.length < 1000000) (hB : B ≤ w.heap.size) :
    ∃ v' w', (Builtin.append_ #[76, 76] ty #[v, .slice (some ad) 1 1]).run Tryd.prog w = .ok v' w' ∧ OwnL w' B v' (A ++ [x]) ∧ OwnL w' B v A ∧ Fr (fun k => v.ownBlock = some k) w w' ∧ (∀ k, v'.ownBlock = some k → v.ownBlock = some k ∨ w.heap.size ≤ k) := by
  obtain ⟨i, hi, hz, hsz, hby⟩ := info_parts line_info
  have ht := Tryd.underlying76
  have hcl := lineC_len x
  have h1 := lineC_one x
  obtain ⟨hs, hfl, hor⟩ := hown
  rw [List.length_map] at hfl hor
  have hs2 : ∀ r ∈ (A ++ [x]).map lineC, r.length = 17 := fun r hr => by
    obtain ⟨u, _, rfl⟩ := List.mem_map.1 hr
    exact lineC_len u
  have hlen : ((A ++ [x]).map lineC).flatten.length = ((A ++ [x]).map lineC).length * 17 := flat_len hs2
  have hl2 : ((A ++ [x]).map lineC).length = A.length + 1 := by rw [List.length_map, List.length_append]; rfl
  have hfx := flat_snoc A x
  have grown : ∀ (old : Nat), old < A.length + 1 →
      OwnL (w.drew.alloc (.cells ((A.map lineC).flatten.toArray ++ (lineC x).toArray ++ Builtin.zeroCells (lineV (0, [])).cells (grownCap w (A.length + 1) old 78 - (A.length + 1))) 78)) B
        (.slice (some ⟨w.heap.size, 0, none⟩) (A.length + 1) (grownCap w (A.length + 1) old 78)) (A ++ [x]) := fun old ho => by
    have hge := grownCap_ge w (A.length + 1) old 78
    have hcm : grownCap w (A.length + 1) old 78 ≤ maxLen := grownCap_le_maxLen w (A.length + 1) old _ (by unfold maxLen; omega)
    refine ⟨hs2, hlen, .inr ⟨w.heap.size, _, _, by rw [hl2], hB, heap_alloc_new w.drew _, by rw [hl2]; exact hge, hcm, ?_, ?_⟩⟩
    · have hzs : (lineV (0, [])).cells.size = 17 := by show (lineC (0, [])).toArray.size = 17; rw [List.size_toArray, lineC_len]
      simp only [Array.size_append, List.size_toArray, size_zeroCells, hzs, hfl, hcl]
      omega
    · simp only [Array.toList_append, List.append_assoc]
      rw [← List.append_assoc, ← hfx, ← hlen]
      exact List.take_left
  have keepV : ∀ o, OwnL w B v A → OwnL (w.drew.alloc o) B v A := fun o h => OwnL.keep h ((Lat.drew w).trans (Lat.alloc _ _))
  have frN : ∀ o, Fr (fun k => v.ownBlock = some k) w (w.drew.alloc o) := fun o => Fr.lat ((Lat.drew w).trans (Lat.alloc _ _))
  have hown2 : OwnL w B v A := ⟨hs, by rw [List.length_map]; exact hfl, by rw [List.length_map]; exact hor⟩
  rcases hor with ⟨rfl, h0⟩ | ⟨g, cap, cur, rfl, hbg, hg, hnc, hcm, hcs, htake⟩
  · have hA : A = [] := List.eq_nil_of_length_eq_zero h0
    subst hA
    have hr := run_append_nil (P := Tryd.prog) w 76 ty 78 i _ ht hi hz ad 1 1 (lineC x) (by rw [hcl, hsz]) hx (by omega) (by omega) (by rw [hby]; omega)
    have hgr := grown 0 (by omega)
    refine ⟨_, _, hr, ?_, keepV _ hown2, frN _, fun k hk => ?_⟩
    · simpa using hgr
    · cases hk; exact .inr (Nat.le_refl _)
  · by_cases hroom : A.length + 1 ≤ cap
    · have hfit : A.length * i.size + (lineC x).length ≤ cur.size := by
        rw [hcl, hcs, hsz, ← Nat.succ_mul]
        exact Nat.mul_le_mul_right _ hroom
      have hr := run_append_room (P := Tryd.prog) w 76 ty 78 i ht hi g A.length cap cur hg ad 1 1 (lineC x) (by rw [hcl, hsz]) hx h1 hroom hfit
      rw [hsz] at hr hfit
      have hcl2 : cur.toList.length = cap * 17 := (Array.length_toList (xs := cur)).trans hcs
      have hsz2 : (cur.toList.take (A.length * 17) ++ lineC x ++ cur.toList.drop (A.length * 17 + (lineC x).length)).toArray.size = cap * 17 := by
        simp only [List.size_toArray, List.length_append, List.length_take, List.length_drop, hcl2]
        rw [hcs] at hfit
        omega
      refine ⟨_, _, hr, ⟨hs2, hlen, .inr ⟨g, cap, _, by rw [hl2], hbg, setRow_heap w g cur _ _ _ hg, by rw [hl2]; exact hroom, hcm, hsz2, ?_⟩⟩, ⟨hs, by rw [List.length_map]; exact hfl, .inr ⟨g, cap, _, by rw [List.length_map], hbg, setRow_heap w g cur _ _ _ hg, by rw [List.length_map]; exact hnc, hcm, hsz2, ?_⟩⟩, ⟨rfl, rfl, rfl, by simp, fun k _ hk => setRow_other w g k _ (fun e => hk (by rw [e]; rfl))⟩, fun k hk => .inl hk⟩
      · rw [htake, ← hfx, ← hlen]
        exact List.take_left
      · rw [htake, List.length_map, List.append_assoc, ← hfl]
        exact List.take_left
    · have holds : ∀ j u, (A.map lineC).flatten[j]? = some u → w.cell? ((⟨g, 0, none⟩ : Addr).add j) = some u := fun j u hu => World.ownsRow.cells hown2.2 (g := g) rfl j u hu
      have hr := run_append_grow (P := Tryd.prog) w 76 ty 78 i _ ht hi hz ⟨g, 0, none⟩ A.length cap (A.map lineC).flatten (by rw [hfl, hsz]) holds ad 1 1 (lineC x) (by rw [hcl, hsz]) hx (by omega) (by unfold maxLen at hcm; omega) (growslice_fits (by omega) (by rw [hby]; omega))
      have hgr := grown cap (by omega)
      exact ⟨_, _, hr, hgr, keepV _ hown2, frN _, fun k hk => by cases hk; exact .inr (Nat.le_refl _)⟩
theorem fold_zip : ∀ (l : List Value) (k : Nat) (cs : Array Value), k + l.length = cs.size → (List.foldl (fun (cs : Array Value) (x : Value × Nat) => cs.setIfInBounds x.snd x.fst) cs (l.zipIdx k)).toList = cs.toList.take k ++ l
  | [], k, cs, h => by
    have hl : cs.toList.length = cs.size := Array.length_toList
    rw [List.zipIdx_nil, List.foldl_nil, List.append_nil, List.take_of_length_le (by rw [List.length_nil] at h; omega)]
  | v :: r, k, cs, h => by
    rw [List.length_cons] at h
    have hl : cs.toList.length = cs.size := Array.length_toList
    rw [List.zipIdx_cons, List.foldl_cons, fold_zip r (k + 1) _ (by rw [Array.size_setIfInBounds]; omega), Array.toList_setIfInBounds, List.take_set, List.take_succ_eq_append_getElem (by omega), List.set_append_right _ _ (by rw [List.length_take]; omega), List.length_take, Nat.min_eq_left (by omega), Nat.sub_self]
    simp
theorem bs_line (u : Vec) : List.foldl (fun (cs : Array Value) (x : Value × Nat) => cs.setIfInBounds x.snd x.fst) #[Value.bool false, Value.bool false, Value.bool false, Value.bool false, Value.bool false, Value.bool false, Value.bool false, Value.bool false, Value.bool false, Value.bool false, Value.bool false, Value.bool false, Value.bool false, Value.bool false, Value.bool false, Value.bool false, Value.string { data := #[] }] (lineC u).zipIdx = (lineC u).toArray := by
  refine Array.ext' ?_
  rw [fold_zip (lineC u) 0 _ (by rw [lineC_len]; rfl), List.take_zero, List.nil_append]
theorem app_line (wr : World) (B : Nat) {ops : Array Oper} {rest : List Oper} {o : Oper} {a : Act} {Q : Exit → Act → World → Prop}
    (hg : o.guard = none) (s x : Operand) (ho : o.op = .call { callee := .builtin .append, args := #[s, x], argTypes := #[76, 76] })
    (v : Value) (A : List Vec) (u : Vec) (hs : a.eval s = v) (hown : OwnL wr B v A) (hx : a.eval x = .slice (some ⟨wr.heap.size, 0, none⟩) 1 1)
    (hn : A.length < 1000000) (hB : B ≤ wr.heap.size)
    (K : ∀ v' w', OwnL w' B v' (A ++ [u]) → OwnL w' B v A → Fr (fun k => v.ownBlock = some k) wr w' → wpList Tryd.prog ops Q rest (a.put o.dst v') w') :
    wpList Tryd.prog ops Q (o :: rest) a (wr.alloc (.cells (lineC u).toArray 78)) := by
  obtain ⟨v', w', hrun, h2, h3, h4, _⟩ := run_app_line (wr.alloc (.cells (lineC u).toArray 78)) B o.type v A (hown.keep (Lat.alloc _ _)) ⟨wr.heap.size, 0, none⟩ u (fun j y hy => by rw [Addr.add_lit, World.cell?_alloc_at _ _ _ _ rfl, Nat.zero_add]; simpa using hy) hn (by simp; omega)
  refine wpList_plain hg fun K' hK => ?_
  unfold Oper.wp execOp
  simp only [ho, resolve, invoke, builtin, Sem.run_bind, Sem.run_pure, Result.andThen_ok, List.map_toArray, List.map_cons, List.map_nil, hs, hx, hrun]
  exact hK _ _ (K v' w' h2 h3 ((Fr.lat (Lat.alloc _ _)).trans h4 (fun _ _ e => e)))
end Go.Proofs.YtcpookgbneoilaaDoor

namespace Go.Proofs.YtcpookgbneoilaaDoor
open Go.ChangeShapes Go.WideShapes Go.ChangeAt Go.RowKit

def putL (zs : List Int) (v : Int) : List Int := zs.takeWhile (fun x => decide (x < v)) ++ v :: zs.dropWhile (fun x => decide (x < v))
theorem tw_split (v : Int) : ∀ (zs : List Int) (k : Nat), k ≤ zs.length → (∀ j, j < k → zs.getD j 0 < v) → (k = zs.length ∨ ¬ zs.getD k 0 < v) →
    zs.take k = zs.takeWhile (fun x => decide (x < v)) ∧ zs.drop k = zs.dropWhile (fun x => decide (x < v))
  | [], k, hk, _, _ => by simp
  | z :: zs, 0, _, _, h => by
    have hz : ¬ z < v := by
      rcases h with h | h
      · simp at h
      · simpa using h
    simp [hz]
  | z :: zs, k + 1, hk, h1, h2 => by
    have hz : z < v := by simpa using h1 0 (by omega)
    have ih := tw_split v zs k (by simpa using hk) (fun j hj => by simpa using h1 (j + 1) (by omega)) (by simpa using h2)
    simp [hz, ih.1, ih.2]
theorem putL_length (zs : List Int) (v : Int) : (putL zs v).length = zs.length + 1 := by
  have h := congrArg List.length (List.takeWhile_append_dropWhile (p := fun x : Int => decide (x < v)) (l := zs))
  rw [List.length_append] at h
  unfold putL
  rw [List.length_append, List.length_cons]; omega
theorem putL_perm (zs : List Int) (v : Int) : (putL zs v).Perm (v :: zs) := by
  unfold putL
  refine List.perm_middle.trans ?_
  rw [List.takeWhile_append_dropWhile]
theorem mem_putL (zs : List Int) (v x : Int) : x ∈ putL zs v ↔ x = v ∨ x ∈ zs := by
  rw [(putL_perm zs v).mem_iff, List.mem_cons]
theorem dropWhile_ge (v : Int) : ∀ (zs : List Int), zs.Pairwise (· ≤ ·) → ∀ x ∈ zs.dropWhile (fun x => decide (x < v)), v ≤ x
  | [], _, x, hx => by simp at hx
  | z :: zs, h, x, hx => by
    rw [List.pairwise_cons] at h
    by_cases hz : z < v
    · rw [List.dropWhile_cons, if_pos (by simpa using hz)] at hx
      exact dropWhile_ge v zs h.2 x hx
    · rw [List.dropWhile_cons, if_neg (by simpa using hz)] at hx
      rcases List.mem_cons.1 hx with e | e
      · omega
      · have := h.1 x e; omega
theorem takeWhile_lt (v : Int) : ∀ (zs : List Int), ∀ x ∈ zs.takeWhile (fun x => decide (x < v)), x < v
  | [], x, hx => by simp at hx
  | z :: zs, x, hx => by
    by_cases hz : z < v
    · rw [List.takeWhile_cons, if_pos (by simpa using hz)] at hx
      rcases List.mem_cons.1 hx with e | e
      · omega
      · exact takeWhile_lt v zs x e
    · rw [List.takeWhile_cons, if_neg (by simpa using hz)] at hx; simp at hx
theorem putL_sorted (zs : List Int) (v : Int) (h : zs.Pairwise (· ≤ ·)) : (putL zs v).Pairwise (· ≤ ·) := by
  have hsp := List.takeWhile_append_dropWhile (p := fun x : Int => decide (x < v)) (l := zs)
  rw [← hsp, List.pairwise_append] at h
  obtain ⟨h1, h2, _⟩ := h
  have hg := dropWhile_ge v zs (by rw [← hsp, List.pairwise_append]; exact ⟨h1, h2, ‹_›⟩)
  unfold putL
  rw [List.pairwise_append, List.pairwise_cons]
  refine ⟨h1, ⟨fun x hx => hg x hx, h2⟩, fun a ha b hb => ?_⟩
  have := takeWhile_lt v zs a ha
  rcases List.mem_cons.1 hb with e | e
  · omega
  · have := hg b e; omega
abbrev srt (zs : List Int) : List Int := zs.mergeSort (fun x y => decide (x ≤ y))
theorem srt_sorted (zs : List Int) : (srt zs).Pairwise (· ≤ ·) :=
  (List.pairwise_mergeSort (le := fun x y : Int => decide (x ≤ y)) (fun a b c h1 h2 => by simp only [decide_eq_true_eq] at *; omega) (fun a b => by simp only [Bool.or_eq_true, decide_eq_true_eq]; omega) zs).imp (fun {a b} h => by simpa using h)
theorem sorted_eq {a b : List Int} (ha : a.Pairwise (· ≤ ·)) (hb : b.Pairwise (· ≤ ·)) (h : a.Perm b) : a = b :=
  List.Perm.eq_of_pairwise (le := (· ≤ ·)) (fun _ _ _ _ h1 h2 => Int.le_antisymm h1 h2) ha hb h
theorem putL_srt (zs : List Int) (v : Int) : putL (srt zs) v = srt (zs ++ [v]) := by
  refine sorted_eq (putL_sorted _ _ (srt_sorted _)) (srt_sorted _) ?_
  refine (putL_perm _ _).trans ?_
  refine ((List.mergeSort_perm zs _).cons v).trans ?_
  refine List.Perm.trans ?_ (List.mergeSort_perm (zs ++ [v]) _).symm
  exact (List.perm_append_singleton v zs).symm

theorem IntsAt.from_ {w : World} {a : Option Addr} {n cap : Nat} {zs : List Int} (h : IntsAt w a n cap zs) (k : Nat) (hk : k ≤ n) : IntsAt w (if cap = k then a else a.map (·.add k)) (n - k) (cap - k) (zs.drop k) := by
  have hl := h.len
  have hle := h.row.le
  refine ⟨by rw [List.length_drop, hl], ⟨by omega, by have := h.row.cap; unfold maxLen at this ⊢; omega, fun hne => ?_⟩, fun z hz => h.wf z (List.mem_of_mem_drop hz)⟩
  obtain ⟨b, o, rfl, hc⟩ := h.row.at_ (by omega)
  rw [if_neg (by omega)]
  refine ⟨b, o + k, by rw [Option.map_some, Addr.add_lit], fun j hj => ?_⟩
  have := hc (k + j) (by omega)
  rw [Nat.add_assoc, this]
  congr 2
  rw [List.getD_eq_getElem?_getD, List.getD_eq_getElem?_getD, List.getElem?_drop]

set_option maxHeartbeats 1000000 in
set_option maxRecDepth 100000 in
theorem refPut (a : Option Addr) (n cap : Nat) (zs : List Int) (v : Int) (w : World) (h : IntsAt w a n cap zs) (hn : n ≤ 1000000) :
    Calls Tryd.prog 33 #[.slice a n cap, .int .i64 v] w fun e w' => ∃ u, e = .returned u ∧ OwnInts w' w.heap.size u (putL zs v) ∧ Lat w w' := by
  have hcap2 := h.row.cap
  have hle2 := h.row.le
  unfold maxLen at hcap2
  have hl := h.len
  have H := Lib.hid h
  have HL := Lib.hid hl
  clear h hl
  go_enter Tryd.func33, Tryd.ntmps33
  go_wp2
  go_loopw [5, 6] (fun u i wr => ∃ k : Nat, k ≤ n ∧ i = .int .i64 k ∧ Hid (OwnInts wr w.heap.size u (zs.take k) ∧ Lat w wr ∧ ∀ j, j < k → zs.getD j 0 < v)) (fun _ i _ => n - (intOf i).toNat)
  case atStart => exact ⟨0, Nat.zero_le _, rfl, by rw [List.take_zero]; exact Own.nil _ _ _, Lat.refl _, fun j hj => by omega⟩
  case round =>
    obtain ⟨k, hk, rfl, hrel⟩ := hrel
    have hsp : (k = n ∨ ¬ zs.getD k 0 < v) ∨ (k < n ∧ zs.getD k 0 < v) := by
      by_cases h1 : k < n
      · by_cases h2 : zs.getD k 0 < v
        · exact .inr ⟨h1, h2⟩
        · exact .inl (.inr h2)
      · exact .inl (.inl (by omega))
    have HA := Lib.hid (H.out.keep hrel.out.2.1)
    rcases hsp with hend | ⟨hlt, hz⟩
    · have hw := tw_split v zs k (by rw [HL.out]; exact hk) hrel.out.2.2 (by rw [HL.out]; exact hend)
      have hfin : putL zs v = (zs.take k ++ [v]) ++ zs.drop k := by
        unfold putL; rw [hw.1, hw.2, List.append_assoc]; rfl
      have HF := Lib.hid hfin
      have hlen : (zs.take k).length < 1000000000000 := by rw [List.length_take]; omega
      have hlen2 : (zs.take k ++ [v]).length + (n - k) < 1000000000000 := by rw [List.length_append, List.length_take, List.length_singleton]; omega
      have HLN := Lib.hid hlen
      have HLN2 := Lib.hid hlen2
      have hc : (decide (k < n) = false ∧ n ≤ k) ∨ (decide ((k : Int) < (n : Int)) = true ∧ ∃ b o, a = some ⟨b, o, none⟩ ∧ wr.cell? ⟨b, o + k, none⟩ = some (.int .i64 (zs.getD k 0)) ∧ decide (zs.getD k 0 < v) = false ∧ k < n) := by
        by_cases h1 : k < n
        · right
          obtain ⟨b, o, ha, hc⟩ := HA.out.row.at_ (by omega)
          exact ⟨decide_eq_true (by omega), b, o, ha, hc k h1, decide_eq_false (by rcases hend with h2 | h2; omega; exact h2), h1⟩
        · exact .inl ⟨decide_eq_false (by omega), by omega⟩
      clear hend hw hfin hlen hlen2
      rcases hc with ⟨dk, hge⟩ | ⟨dk, b, o, rfl, ck, dz, hlt⟩
      rotate_left
      focus
        obtain ⟨z, hz⟩ : ∃ z, z = zs.getD k 0 := ⟨_, rfl⟩
        rw [← hz] at ck dz
        clear hz
      rotate_left
      focus
        have i1 : (0 : Int) ≤ (k : Int) := by omega
        have i2 : (k : Int) ≤ (n : Int) := by omega
        go_upto_region 7 with (at_builtin; refine app_int wr w _ rfl (.tmp 28) (.tmp 30) rfl _ _ v rfl hrel.out.1 rfl HLN.out rfl hrel.out.2.1 ?_; intro v' w2 hown' hb' _)
        have hat := (H.out.keep hb').from_ k hk
        obtain ⟨A2, hA2⟩ : ∃ A2, A2 = (if cap = k then a else a.map (·.add k)) := ⟨_, rfl⟩
        rw [← hA2, show n - k = 0 from by omega] at hat
        have hrun : ∀ W : World, (Instr.slice 32 (.slice a n cap) (some (.int .i64 k)) none none).run Tryd.prog W = .ok (.slice A2 0 (cap - k)) W := fun W => by
          rw [hA2, ← show n - k = 0 from by omega]; simp [go_sem, i1, i2]
        have HAT := Lib.hid hat
        have hl3 : (zs.take k ++ [v]).length + 0 < 1000000000000 := by have := HLN2.out; omega
        have HLN3 := Lib.hid hl3
        clear hl3
        clear hA2 hat
        go_wp2_with (at_builtin; refine app_ints _ w _ rfl (.tmp 32) (.tmp 35) rfl _ _ (zs.drop k) rfl hown' _ 0 _ rfl HAT.out HLN3.out rfl hb' ?_; intro v'' w3 hown'' hb'' _)
        go_ret
        exact ⟨_, rfl, by rw [HF.out]; exact hown'', hb''⟩
      focus
        have i1 : (0 : Int) ≤ (k : Int) := by omega
        have i2 : (k : Int) ≤ (n : Int) := by omega
        go_upto_region 7 with (at_builtin; refine app_int wr w _ rfl (.tmp 28) (.tmp 30) rfl _ _ v rfl hrel.out.1 rfl HLN.out rfl hrel.out.2.1 ?_; intro v' w2 hown' hb' _)
        have hat := (H.out.keep hb').from_ k hk
        rw [if_neg (by omega), Option.map_some, Addr.add_lit] at hat
        have HAT := Lib.hid hat
        clear hat
        go_wp2_with (at_builtin; refine app_ints _ w _ rfl (.tmp 32) (.tmp 35) rfl _ _ (zs.drop k) rfl hown' _ (n - k) _ rfl HAT.out HLN2.out rfl hb' ?_; intro v'' w3 hown'' hb'' _)
        go_ret
        exact ⟨_, rfl, by rw [HF.out]; exact hown'', hb''⟩
    · obtain ⟨b, o, rfl, hc⟩ := HA.out.row.at_ (by omega)
      have ck := hc k hlt
      have hst : zs.take (k + 1) = zs.take k ++ [zs.getD k 0] := by
        have hkz : k < zs.length := by rw [HL.out]; exact hlt
        rw [List.take_succ_eq_append_getElem hkz, List.getD_eq_getElem?_getD, List.getElem?_eq_getElem hkz]; rfl
      have hall : ∀ j, j < k + 1 → zs.getD j 0 < v := fun j hj => by
        by_cases e : j = k
        · subst e; exact hz
        · exact hrel.out.2.2 j (by omega)
      have HALL := Lib.hid hall
      have HST := Lib.hid hst
      have hlen : (zs.take k).length < 1000000000000 := by rw [List.length_take]; omega
      have HLN := Lib.hid hlen
      obtain ⟨z, hze⟩ : ∃ z, z = zs.getD k 0 := ⟨_, rfl⟩
      rw [← hze] at ck hz
      have HZE := Lib.hid hze
      have dk : decide ((k : Int) < (n : Int)) = true := decide_eq_true (by omega)
      have dz : decide (z < v) = true := decide_eq_true hz
      clear hc hst hall hlen hze
      go_wp2_with (at_builtin; refine app_int wr w _ rfl _ _ rfl _ _ z rfl hrel.out.1 rfl HLN.out rfl hrel.out.2.1 ?_; intro v' w2 hown' hb' _)
      go_roundw
      case rel => exact ⟨k + 1, by omega, by go_num, by rw [HST.out, ← HZE.out]; exact hown', hb', HALL.out⟩
      case measure => simp [intOf]; omega
end Go.Proofs.YtcpookgbneoilaaDoor

namespace Go.Proofs.YtcpookgbneoilaaDoor
open Go.ChangeShapes Go.WideShapes Go.ChangeAt Go.RowKit

theorem degF_top (k n : Nat) (h0 : ¬ n * k < 1000) (h2 : 2 ≤ k) (h3 : ∀ x, 2 ≤ x → x < k → ¬ dgc k n x) : degF k n = k := by
  unfold degF; rw [if_neg h0]; exact degFrom_eq k n (k - 2) 2 k h2 (by omega) h3 (.inr (by omega))

set_option maxHeartbeats 400000 in
set_option maxRecDepth 100000 in
theorem refDegree (k n : Nat) (w : World) (hk : 1 ≤ k) (hk2 : k ≤ 16) (hn : n ≤ 999) :
    Calls Tryd.prog 50 #[.int .i64 k, .int .i64 n] w fun e w' => e = .returned (.int .i64 (degF k n)) ∧ w = w' := by
  have hp : n * k ≤ 999 * 16 := Nat.mul_le_mul hn hk2
  have hp' : (n : Int) * (k : Int) ≤ 15984 := by rw [← Int.natCast_mul]; omega
  have hp0 : 0 ≤ (n : Int) * (k : Int) := by rw [← Int.natCast_mul]; omega
  by_cases h1 : n * k < 1000
  · have e1 : degF k n = 1 := by unfold degF; rw [if_pos h1]
    have E := Lib.hid e1; clear e1
    have h1' : (n : Int) * (k : Int) < 1000 := by rw [← Int.natCast_mul]; omega
    clear hp h1
    go_enter Tryd.func50, Tryd.ntmps50
    go_wp2
    go_ret
    exact ⟨by rw [E.out]; rfl, rfl⟩
  · have h1' : 1000 ≤ (n : Int) * (k : Int) := by rw [← Int.natCast_mul]; omega
    have h1b : decide ((n : Int) * (k : Int) < 1000) = false := decide_eq_false (by omega)
    have HN := Lib.hid h1
    have hk3 : 2 ≤ k := by
      rcases Nat.lt_or_ge k 2 with h2 | h2
      · have : k = 1 := by omega
        subst this; omega
      · exact h2
    clear hp h1
    go_enter Tryd.func50, Tryd.ntmps50
    go_wp2
    go_loop [5] (fun d => ∃ j : Nat, 2 ≤ j ∧ j ≤ k ∧ d = .int .i64 j ∧ Hid (∀ x, 2 ≤ x → x < j → ¬ dgc k n x)) (fun d => k - (intOf d).toNat)
    case atStart => exact ⟨2, Nat.le_refl _, hk3, rfl, fun x h1 h2 => by omega⟩
    case round =>
      obtain ⟨j, hj, hjk, rfl, hrel⟩ := hrel
      by_cases hlt : j < k
      · obtain ⟨A, hA⟩ : ∃ A, A = n * k * j := ⟨_, rfl⟩
        obtain ⟨B, hB⟩ : ∃ B, B = k * (j - 1) := ⟨_, rfl⟩
        have a1 : A ≤ 999 * 16 * 16 := by rw [hA]; exact Nat.mul_le_mul (Nat.mul_le_mul hn hk2) (by omega)
        have b1 : B ≤ 16 * 16 := by rw [hB]; exact Nat.mul_le_mul hk2 (by omega)
        have eA : (n : Int) * (k : Int) * (j : Int) = (A : Int) := by rw [hA]; simp
        have eB : (k : Int) * ((j : Int) - 1) = (B : Int) := by rw [hB, show ((j : Int) - 1) = ((j - 1 : Nat) : Int) from by omega]; simp
        have bA : 0 ≤ (n : Int) * (k : Int) * (j : Int) ∧ (n : Int) * (k : Int) * (j : Int) ≤ 255744 := by rw [eA]; omega
        have bB : 0 ≤ (k : Int) * ((j : Int) - 1) ∧ (k : Int) * ((j : Int) - 1) ≤ 256 := by rw [eB]; omega
        have hdg : dgc k n j ↔ (n : Int) * (k : Int) * (j : Int) < 1000 * ((j : Int) + (k : Int) * ((j : Int) - 1)) := by
          unfold dgc; rw [eA, eB, ← hA, ← hB]; omega
        have HD := Lib.hid hdg
        clear eA eB hdg hA hB a1 b1
        by_cases hc : (n : Int) * (k : Int) * (j : Int) < 1000 * ((j : Int) + (k : Int) * ((j : Int) - 1))
        · have he : degF k n = j := degF_eq k n j HN.out hj hjk hrel.out (HD.out.2 hc)
          have E := Lib.hid he; clear he
          go_wp2
          go_ret
          exact ⟨congrArg (fun x : Nat => Ending.returned (.int .i64 (x : Int))) E.out.symm, rfl⟩
        · have hc' : 1000 * ((j : Int) + (k : Int) * ((j : Int) - 1)) ≤ (n : Int) * (k : Int) * (j : Int) := by omega
          have HC := Lib.hid hc
          clear hc
          go_wp2
          go_round
          case rel => exact ⟨j + 1, by omega, by omega, by go_num, fun x h1 h2 => by
            by_cases hx : x = j
            · subst hx; intro h; exact HC.out (HD.out.1 h)
            · exact hrel.out x h1 (by omega)⟩
          case measure => simp [intOf]; omega
      · obtain rfl : j = k := by omega
        have he : degF j n = j := degF_top j n HN.out hk3 hrel.out
        have E := Lib.hid he; clear he
        go_wp2
        go_ret
        exact ⟨congrArg (fun x : Nat => Ending.returned (.int .i64 (x : Int))) E.out.symm, rfl⟩
end Go.Proofs.YtcpookgbneoilaaDoor

namespace Go.Proofs.YtcpookgbneoilaaDoor
open Go.ChangeShapes Go.WideShapes Go.ChangeAt Go.RowKit

theorem refNext (n : Nat) (w : World) (h1 : n ≤ 2147483647) :
    Calls Tryd.prog 49 #[.int .i64 n] w fun e w' => e = .returned (.int .i64 (nxtN n)) ∧ w = w' := by
  go_enter Tryd.func49, Tryd.ntmps49
  go_wp2
  go_ret
  exact ⟨by rw [← nxt_cast]; rfl, rfl⟩

set_option maxHeartbeats 1000000 in
set_option maxRecDepth 100000 in
theorem refSet (k seed : Nat) (w : World) (h1 : 1 ≤ k) (h2 : k ≤ 16) (h3 : 1 ≤ seed) (h4 : seed ≤ 10000) :
    Calls Tryd.prog 31 #[.int .i64 k, .int .i64 seed] w fun e w' => ∃ a cap, e = .returned (.slice a (setZ k seed).length cap) ∧ IntsAt w' a (setZ k seed).length cap (setZ k seed) ∧ Lat w w' := by
  by_cases hle : seed ≤ k
  · have d1 : decide (seed ≤ k) = true := decide_eq_true hle
    have e1 : setZ k seed = [((seed - 1 : Nat) : Int)] := by unfold setZ; rw [if_pos hle]
    have e2 : (seed : Int) - 1 = ((seed - 1 : Nat) : Int) := by omega
    have hat := ints_new w [(seed : Int) - 1] 3 (by simp) (by intro z hz; rw [List.mem_singleton] at hz; subst hz; omega)
    rw [e1, ← e2]
    have HT := Lib.hid hat
    clear hat e1 e2
    go_enter Tryd.func31, Tryd.ntmps31
    go_wp2
    go_ret
    exact ⟨_, _, rfl, HT.out, Lat.alloc _ _⟩
  · have d1 : decide (seed ≤ k) = false := decide_eq_false hle
    have hl := drawn_length k seed h1 h2 (by omega) h4
    obtain ⟨d, hd⟩ : ∃ d, d = degF k (nxtN seed % 1000) := ⟨_, rfl⟩
    have hdb := degF_bd k (nxtN seed % 1000) h1 (by omega)
    rw [← hd] at hl hdb
    have hdr : dgo k d 150 (nxtN seed) [] = drawn k seed := by rw [hd]; rfl
    have hset : setZ k seed = srt ((drawn k seed).map Int.ofNat) := by unfold setZ; rw [if_neg hle]
    have hsl : (setZ k seed).length = d := by rw [hset, List.length_mergeSort, List.length_map, hl]
    rw [hsl]
    have HD := Lib.hid hd; have HL := Lib.hid hl; have HDR := Lib.hid hdr; have HS := Lib.hid hset; have HSL := Lib.hid hsl
    have hs3 := nxtN_lt seed
    clear hd hl hdr hset hle hsl
    go_enter Tryd.func31, Tryd.ntmps31
    go_wp2_with (first | (go_at_call 49; refine (refNext seed _ (by omega)).mono ?_; rintro e w' ⟨rfl, rfl⟩) | (go_at_call 50; refine (refDegree k (nxtN seed % 1000) _ h1 h2 (by omega)).mono ?_; rw [← HD.out]; rintro e w' ⟨rfl, rfl⟩))
    have hd0 : 1 ≤ d := hdb.1
    have hd16 : d ≤ 16 := by omega
    clear hdb
    go_loopg [5, 7] 150 (fun f nv v wr => ∃ (nn : Nat) (L : List Nat) (a : Option Addr) (ln cap : Nat), nv = .int .i64 nn ∧ nn < 2147483647 ∧ v = .slice a ln cap ∧ Hid (ln = L.length ∧ IntsAt wr a ln cap (srt (L.map Int.ofNat)) ∧ Lat w wr ∧ dgo k d f nn L = drawn k seed ∧ L.length ≤ d ∧ ∀ i ∈ L, i < k))
    case atStart => exact ⟨nxtN seed, [], none, 0, 0, rfl, hs3, rfl, rfl, by rw [List.map_nil, srt, List.mergeSort_nil]; exact IntsAt.nil _, Lat.refl _, HDR.out, Nat.zero_le _, by simp⟩
    case round =>
      obtain ⟨nn, L, a, ln, cap, rfl, hnn, rfl, hrel⟩ := hrel
      obtain ⟨hln2, hat, hb, hdg, hLd, hLk⟩ := hrel.out
      have hlb : ln ≤ 16 := by omega
      have HDG := Lib.hid hdg; have HLN := Lib.hid hln2; have HLK := Lib.hid hLk; have HA := Lib.hid hat; have HB := Lib.hid hb
      have hnext := nxtN_lt nn
      by_cases hlt : ln < d
      · have hgk : ∃ g, gk = g + 1 := by
          rcases Nat.eq_zero_or_pos gk with h0 | h0
          · subst h0
            exfalso
            have e : L = drawn k seed := hdg
            have := HL.out
            rw [← e] at this
            omega
          · exact ⟨gk - 1, by omega⟩
        obtain ⟨g, hg⟩ := hgk
        have hstep : dgo k d g (nxtN nn) (if nxtN nn % k ∈ L then L else L ++ [nxtN nn % k]) = drawn k seed := by
          rw [hg] at hdg
          rw [← hdg]
          have hL : L.length < d := by omega
          exact (if_pos hL).symm
        have HST := Lib.hid hstep
        have HG := Lib.hid hg
        have hkz : ((k : Int) == 0) = false := by simp; omega
        clear hdg hLd hLk hat hb hln2 hstep hg hrel
        by_cases hmem : nxtN nn % k ∈ L
        · have hm2 : ((nxtN nn : Nat) : Int) % (k : Int) ∈ srt (L.map Int.ofNat) := by rw [List.mem_mergeSort]; exact (mem_ofNat _ L).2 hmem
          have HM := Lib.hid hm2
          have HM1 := Lib.hid hmem
          clear hm2 hmem
          go_wp2_with (first | (go_at_call 49; refine (refNext nn _ (by omega)).mono ?_; rintro e w' ⟨rfl, rfl⟩) | (go_at_call 9; refine (refIn_yes a ln cap (srt (L.map Int.ofNat)) _ _ HA.out HM.out).mono ?_; rintro e w' ⟨rfl, rfl⟩))
          go_roundg g
          case measure => rw [HG.out]; omega
          case rel => exact ⟨nxtN nn, L, a, ln, cap, rfl, hnext, rfl, HLN.out, HA.out, HB.out, by have := HST.out; rw [if_pos HM1.out] at this; exact this, by rw [← HLN.out]; omega, HLK.out⟩
        · have hm2 : ((nxtN nn : Nat) : Int) % (k : Int) ∉ srt (L.map Int.ofNat) := fun h => hmem ((mem_ofNat _ L).1 (by rw [List.mem_mergeSort] at h; exact h))
          have HM := Lib.hid hm2
          have HM1 := Lib.hid hmem
          have hput : putL (srt (L.map Int.ofNat)) ((nxtN nn % k : Nat) : Int) = srt ((L ++ [nxtN nn % k]).map Int.ofNat) := by
            rw [putL_srt, List.map_append]; rfl
          have hpl : (putL (srt (L.map Int.ofNat)) ((nxtN nn % k : Nat) : Int)).length = ln + 1 := by
            rw [putL_length, List.length_mergeSort, List.length_map, HLN.out]
          have hwf : ∀ z ∈ putL (srt (L.map Int.ofNat)) ((nxtN nn % k : Nat) : Int), -9223372036854775808 ≤ z ∧ z ≤ 9223372036854775807 := fun z hz => by
            rw [mem_putL] at hz
            rcases hz with hz | hz
            · subst hz
              have : nxtN nn % k < k := Nat.mod_lt _ (by omega)
              omega
            · exact HA.out.wf z hz
          have HP := Lib.hid hput
          have HPL := Lib.hid hpl
          have HWF := Lib.hid hwf
          have hln1 : ln ≤ 1000000 := by omega
          clear hm2 hmem hput hpl hwf
          go_wp2_with (first | (go_at_call 49; refine (refNext nn _ (by omega)).mono ?_; rintro e w' ⟨rfl, rfl⟩) | (go_at_call 9; refine (refIn_no a ln cap (srt (L.map Int.ofNat)) _ _ HA.out HM.out).mono ?_; rintro e w' ⟨rfl, rfl⟩) | (go_at_call 33; refine (refPut a ln cap (srt (L.map Int.ofNat)) ((nxtN nn % k : Nat) : Int) _ HA.out hln1).mono ?_; rintro e w' ⟨u, rfl, hown', hb'⟩))
          obtain ⟨a2, cap2, hu, hat2⟩ := OwnInts.slice hown' HWF.out
          rw [HPL.out] at hu hat2
          subst hu
          go_roundg g
          case measure => rw [HG.out]; omega
          case rel =>
            refine ⟨nxtN nn, L ++ [nxtN nn % k], a2, ln + 1, cap2, rfl, hnext, rfl, by rw [List.length_append, List.length_singleton, HLN.out], by rw [← HP.out]; exact hat2, Lat.trans HB.out hb', by have := HST.out; rw [if_neg HM1.out] at this; exact this, by rw [List.length_append, List.length_singleton, ← HLN.out]; omega, fun i hi => ?_⟩
            rcases List.mem_append.1 hi with hi | hi
            · exact HLK.out i hi
            · rw [List.mem_singleton] at hi; subst hi; exact Nat.mod_lt _ (by omega)
      · have hLd' : L = drawn k seed := by
          rw [dgo_done _ _ _ _ _ (by omega)] at hdg; exact hdg
        have hlnd : ln = d := by omega
        have hfin : srt (L.map Int.ofNat) = setZ k seed := by rw [HS.out, hLd']
        have HF := Lib.hid hfin; have HND := Lib.hid hlnd
        clear hdg hLd hLk hat hb hln2 hrel hLd' hlnd hfin
        go_wp2_with fail
        go_ret
        have h := HA.out
        rw [HF.out] at h
        obtain rfl := HND.out
        exact ⟨a, cap, rfl, h, HB.out⟩
end Go.Proofs.YtcpookgbneoilaaDoor

namespace Go.Proofs.YtcpookgbneoilaaDoor
open Go.ChangeShapes Go.WideShapes Go.ChangeAt Go.RowKit

theorem Bare.ln16 {k : Nat} {L : List Vec} (h : Bare k L) (hk : k ≤ 16) : Ln 0 16 L := fun u hu => ⟨(h.ln u hu).1, Nat.lt_of_lt_of_le (h.ln u hu).2 (Nat.pow_le_pow_right (by omega) hk)⟩
theorem rowsOf_takeR (k : Nat) (zs : List Int) (i : Nat) (h : i < zs.length) : (rowsOf k zs).take (i + 1) = (rowsOf k zs).take i ++ [rowOf k (zs.getD i 0)] := by
  unfold rowsOf
  rw [List.take_succ_eq_append_getElem (by rw [List.length_map]; exact h), List.getElem_map, List.getD_eq_getElem?_getD, List.getElem?_eq_getElem h]; rfl
theorem zarr_there (w : World) (t : TypeId) : (w.alloc (.cells #[Value.int .i64 0, Value.int .i64 0, Value.int .i64 0, Value.int .i64 0, Value.int .i64 0, Value.int .i64 0, Value.int .i64 0, Value.int .i64 0, Value.int .i64 0, Value.int .i64 0, Value.int .i64 0, Value.int .i64 0, Value.int .i64 0, Value.int .i64 0, Value.int .i64 0, Value.int .i64 0] t)).there w.heap.size 0 16 := by
  have := (blk_new w (List.replicate 16 (Value.int .i64 0)) 16 (fun _ => .int .i64 0) t (fun j h => by rw [List.getElem?_replicate, if_pos h])).there
  rw [zint] at this; exact this
theorem setZ_16 {k : Nat} (h1 : 1 ≤ k) (h2 : k ≤ 16) (s : Nat) (hs : 1 ≤ s) : ∀ z ∈ setZ k s, 0 ≤ z ∧ z < 16 := fun z hz => by
  have := setZ_lt k s h1 hs z hz
  omega

set_option maxHeartbeats 8000000 in
set_option maxRecDepth 100000 in
theorem refRank (k : Nat) (a : Option Addr) (n cap : Nat) (zs : List Int) (w : World) (h : IntsAt w a n cap zs) (h1 : 1 ≤ k) (h2 : k ≤ 16) (hz : ∀ z ∈ zs, 1 ≤ z ∧ z ≤ 10000) (hn : n ≤ 60) :
    Calls Tryd.prog 18 #[.int .i64 k, .slice a n cap] w fun e w' => e = .returned (.int .i64 (rk k (rowsOf k zs) : Nat)) ∧ Lat w w' := by
  have hlen := h.len
  have hbare := rowsOf_bare (k := k) h1 hz
  have hrl := rowsOf_len k zs
  have hsnoc := rowsOf_takeR k zs
  have hfin := clrF_eq (k := k) (by omega) hbare
  rw [hlen] at hrl
  obtain ⟨R, hR⟩ : ∃ R, R = rowsOf k zs := ⟨_, rfl⟩
  rw [← hR] at hbare hrl hsnoc hfin ⊢
  obtain ⟨rkn, hrkn⟩ : ∃ r, r = rk k R := ⟨_, rfl⟩
  rw [← hrkn] at hfin ⊢
  have hcl := fun aa cc W (hW : LinesAt W aa n cc R) => refClear aa n cc k 0 R W hW (hbare.ln16 h2) hn h2 (by omega)
  have HH := Lib.hid h; have HZ := Lib.hid hz; have HLEN := Lib.hid hlen; have HRL := Lib.hid hrl; have HSN := Lib.hid hsnoc; have HFIN := Lib.hid hfin; have HCL := Lib.hid hcl
  clear h hz hlen hbare hrl hsnoc hfin hR hrkn hcl
  go_enter Tryd.func18, Tryd.ntmps18
  go_wp2_with fail
  go_loopg [5, 6] n (fun f lv iv wx => ∃ i : Nat, i + f = n ∧ iv = .int .i64 i ∧ Hid (Lat w wx ∧ OwnL wx w.heap.size lv (R.take i)))
  case atStart => exact ⟨0, by omega, rfl, Lat.refl w, OwnL.nil w _⟩
  case round =>
    obtain ⟨i, hi, rfl, hrel⟩ := hrel
    by_cases hlt : i < n
    · obtain ⟨f, rfl⟩ : ∃ f, gk = f + 1 := ⟨gk - 1, by omega⟩
      have di : decide (i < n) = true := decide_eq_true hlt
      have hzi := HZ.out _ (getD_mem zs i (by rw [HLEN.out]; exact hlt))
      have hsn := HSN.out i (by rw [HLEN.out]; exact hlt)
      obtain ⟨z, hzz⟩ : ∃ z : Nat, zs.getD i 0 = (z : Int) := ⟨(zs.getD i 0).toNat, by omega⟩
      obtain ⟨b, o, rfl, hc⟩ := (HH.out.keep hrel.out.1).row.at_ (by omega)
      have c0 := hc i hlt
      rw [hzz] at hzi c0 hsn
      obtain ⟨u, hu⟩ : ∃ u, u = rowOf k (z : Int) := ⟨_, rfl⟩
      have hu2 : (bitsN (setZ k z), ([] : List UInt8)) = u := by rw [hu]; unfold rowOf; rw [Int.toNat_natCast]
      rw [← hu] at hsn
      have i0 : (0 : Int) ≤ (i : Int) := by omega
      have i1 : (i : Int) < (n : Int) := by omega
      have hset := refSet k z wr h1 h2 (by omega) (by omega)
      have hs16 := setZ_16 h1 h2 z (by omega)
      have HSLN := Lib.hid (setZ_length k z h1 h2 (by omega)).2
      have HSET := Lib.hid hset; have HS16 := Lib.hid hs16; have HSN2 := Lib.hid hsn; have HU2 := Lib.hid hu2; have HREL := Lib.hid hrel.out
      clear hrel hc hzi hzz hsn hset hs16 hu hu2
      go_wp2_with fail
      refine HSET.out.mono ?_
      rintro e w2 ⟨sa, sc, rfl, hsi, hb2⟩
      have hsl : (setZ k z).length ≤ 1000000 := by have := HSLN.out; omega
      have HOF := Lib.hid (refOf sa _ sc (setZ k z) [] w2 hsi HS16.out hsl)
      have HB2 := Lib.hid hb2
      clear hsi hb2 hsl HSET HS16 HSLN
      go_wp2_with fail
      refine HOF.out.mono ?_
      rintro e w3 ⟨rfl, hb3⟩
      rw [HU2.out]
      have HL3 := Lib.hid (HB2.out.trans hb3)
      clear hb3 HOF HU2 HB2
      have hzt := zline_there w3 78
      obtain ⟨W4, hW4⟩ : ∃ W, W = (w3.alloc (.cells (lineC (0, [])).toArray 78)).setCells w3.heap.size 0 (lineC u) := ⟨_, rfl⟩
      have hx4 := World.rangeAt_setCells_same (w3.alloc (.cells (lineC (0, [])).toArray 78)) w3.heap.size 0 (lineC u) (by rw [lineC_len]; exact hzt)
      have hl34 : Lat w3 W4 := by
        rw [hW4]
        exact (Fr.setCells _ _ _ _).lat_of (Lat.alloc _ _) (fun k e => by rw [e]; exact Nat.le_refl _)
      rw [← hW4] at hx4
      rw [zero_cells] at hW4 hzt
      have HZT := Lib.hid hzt; have HX4 := Lib.hid hx4; have HW4 := Lib.hid hW4; have HL34 := Lib.hid (HL3.out.trans hl34)
      clear hzt hx4 hW4 hl34 HL3
      go_upto_region 6 with (refine at_store rfl (.tmp 7) (.tmp 24) rfl w3.heap.size 0 u rfl rfl HZT.out ?_)
      rw [← HW4.out]
      clear HW4 HZT
      refine wp_region_lit ?_
      have hll := lineC_len u
      go_wp2_with (first
        | refine at_load rfl (.tmp 7) rfl w3.heap.size 0 rfl u HX4.out ?_
        | (at_builtin; rw [bs_line u]; (refine app_line W4 w.heap.size rfl (.tmp 25) (.tmp 27) rfl u5 (R.take i) u rfl (HREL.out.2.keep HL34.out) rfl (by rw [List.length_take]; omega) (HREL.out.1.trans HL34.out).size ?_); intro v' w' hown' _ hfr'))
      have hlat := hfr'.lat_of (HREL.out.1.trans HL34.out) (fun k hk => (HREL.out.2.lt k hk).1)
      rw [← HSN2.out] at hown'
      have HOW := Lib.hid hown'; have HLAT := Lib.hid hlat
      clear hown' hfr' hlat hll
      try go_wp2_with fail
      go_roundg f
      case measure => omega
      case rel => exact ⟨i + 1, by omega, by go_num, HLAT.out, HOW.out⟩
    · obtain rfl : i = n := by omega
      have di : decide (i < i) = false := decide_eq_false (by omega)
      have ho := hrel.out.2
      rw [List.take_of_length_le (by rw [HRL.out]; exact Nat.le_refl _)] at ho
      obtain ⟨aa, cc, rfl, hform, hnc, hcm⟩ := OwnL.form ho HRL.out
      have HC := Lib.hid (HCL.out aa cc wr ho.shown); have HL0 := Lib.hid hrel.out.1
      clear ho hrel HCL hform
      go_wp2_with fail
      refine HC.out.mono ?_
      rintro e w2 ⟨ca, c2, rfl, -, hb2⟩
      obtain ⟨at_, hat⟩ : ∃ c, c = (clrF R k).2 := ⟨_, rfl⟩
      have hfin := HFIN.out
      rw [← hat] at hfin ⊢
      have hzt := zarr_there w2 80
      have hld := World.rangeAt_setCells_same (w2.alloc (.cells #[Value.int .i64 0, Value.int .i64 0, Value.int .i64 0, Value.int .i64 0, Value.int .i64 0, Value.int .i64 0, Value.int .i64 0, Value.int .i64 0, Value.int .i64 0, Value.int .i64 0, Value.int .i64 0, Value.int .i64 0, Value.int .i64 0, Value.int .i64 0, Value.int .i64 0, Value.int .i64 0] 80)) w2.heap.size 0 (arrC at_) (by rw [arrC_len]; exact hzt)
      have hl23 : Lat w2 ((w2.alloc (.cells #[Value.int .i64 0, Value.int .i64 0, Value.int .i64 0, Value.int .i64 0, Value.int .i64 0, Value.int .i64 0, Value.int .i64 0, Value.int .i64 0, Value.int .i64 0, Value.int .i64 0, Value.int .i64 0, Value.int .i64 0, Value.int .i64 0, Value.int .i64 0, Value.int .i64 0, Value.int .i64 0] 80)).setCells w2.heap.size 0 (arrC at_)) := (Fr.setCells _ _ _ _).lat_of (Lat.alloc _ _) (fun k e => by rw [e]; exact Nat.le_refl _)
      obtain ⟨W3, hW3⟩ : ∃ W, W = (w2.alloc (.cells #[Value.int .i64 0, Value.int .i64 0, Value.int .i64 0, Value.int .i64 0, Value.int .i64 0, Value.int .i64 0, Value.int .i64 0, Value.int .i64 0, Value.int .i64 0, Value.int .i64 0, Value.int .i64 0, Value.int .i64 0, Value.int .i64 0, Value.int .i64 0, Value.int .i64 0, Value.int .i64 0] 80)).setCells w2.heap.size 0 (arrC at_) := ⟨_, rfl⟩
      rw [← hW3] at hld hl23
      have hcell : ∀ b, b < 16 → W3.cell? ⟨w2.heap.size, b, none⟩ = some (.int .i64 (atI (at_ b))) := fun b hb => by
        have := hld b _ (arrC_get at_ hb)
        rw [Nat.zero_add] at this; exact this
      have HFI := Lib.hid hfin; have HZT := Lib.hid hzt; have HW3 := Lib.hid hW3; have HLW := Lib.hid ((HL0.out.trans hb2).trans hl23); have HCE := Lib.hid hcell
      clear hfin hat hzt hld hl23 hW3 hcell hb2 HL0 HC HFIN HRL HLEN HSN HH HZ
      go_upto_region 8 with (refine at_storeA rfl (.tmp 9) (.tmp 34) rfl w2.heap.size 0 at_ rfl rfl HZT.out ?_)
      rw [← HW3.out]
      clear HW3 HZT
      go_wp2_with fail
      go_loopg [10, 11] k (fun f cv bv wx => ∃ b : Nat, b + f = k ∧ bv = .int .i64 b ∧ cv = .int .i64 (cntA at_ b : Nat) ∧ W3 = wx)
      case atStart => exact ⟨0, by omega, rfl, rfl, rfl⟩
      case round =>
        obtain ⟨b, hb, rfl, rfl, rfl⟩ := hrel
        by_cases hbk : b < k
        · obtain ⟨f, rfl⟩ : ∃ f, gk = f + 1 := ⟨gk - 1, by omega⟩
          have db : decide (b < k) = true := decide_eq_true hbk
          have b0 : (0 : Int) ≤ (b : Int) := by omega
          have b1 : (b : Int) < 16 := by omega
          have cb := HCE.out b (by omega)
          have hcs : cntA at_ (b + 1) = cntA at_ b + (if (at_ b).isSome = true then 1 else 0) := rfl
          have hle : cntA at_ b ≤ b := by rw [cntA_rnk []]; exact rnkT_le _ _
          obtain ⟨q, hq⟩ : ∃ q, q = cntA at_ b := ⟨_, rfl⟩
          rw [← hq] at hcs hle ⊢
          cases hab : at_ b with
          | none =>
            rw [hab] at cb hcs
            have cb' : W3.cell? ⟨w2.heap.size, b, none⟩ = some (.int .i64 (-1)) := cb
            have HCS := Lib.hid hcs
            clear cb hcs hab hq
            go_wp2_with fail
            go_roundg f
            case measure => omega
            case rel => exact ⟨b + 1, by omega, by go_num, by rw [HCS.out]; rfl, rfl⟩
          | some p =>
            rw [hab] at cb hcs
            have cb' : W3.cell? ⟨w2.heap.size, b, none⟩ = some (.int .i64 p) := cb
            have dp : decide ((0 : Int) ≤ (p : Int)) = true := decide_eq_true (by omega)
            have HCS := Lib.hid hcs
            clear cb hcs hab hq
            go_wp2_with fail
            go_roundg f
            case measure => omega
            case rel => exact ⟨b + 1, by omega, by go_num, by rw [HCS.out]; go_num, rfl⟩
        · obtain rfl : b = k := by omega
          have db : decide (b < b) = false := decide_eq_false (by omega)
          rw [HFI.out]
          go_wp2_with fail
          go_ret
          exact ⟨rfl, HLW.out⟩
end Go.Proofs.YtcpookgbneoilaaDoor

namespace Go.Proofs.YtcpookgbneoilaaDoor
open Go.ChangeShapes Go.WideShapes Go.ChangeAt Go.RowKit

theorem Own.frL {w w' : World} {B b : Nat} {e : TypeId} {v : Value} {xs : List Value} (h : Own w B e v xs) (hf : Fr (fun j => j = b) w w') (hb : b < B) : Own w' B e v xs :=
  Own.grown h ⟨hf.os, hf.tape, hf.output, hf.size, fun k hk hne => hf.block k hk (fun e => hne (by rw [e]))⟩ fun g hg e => by
    have e : b = g := Option.some.inj e
    have := (Own.lt h g hg).1
    omega
structure WB (w : World) (X : Nat) (a : Option Addr) (n cap : Nat) (d : Bts) (wr : World) : Prop where
  lat : Lat w wr
  lo : w.heap.size ≤ X
  lt : X + 1 < wr.heap.size
  c0 : wr.cell? ⟨X, 0, none⟩ = some (.slice a n cap)
  c1 : wr.cell? ⟨X, 1, none⟩ = some (.string (S d))
  f0 : wr.frozen? ⟨X, 0, none⟩ = false
  f1 : wr.frozen? ⟨X, 1, none⟩ = false
  r0 : wr.cell? ⟨X + 1, 0, none⟩ = some (.slice none 0 0)
  r1 : wr.cell? ⟨X + 1, 1, none⟩ = some (.string { data := #[] })
  g0 : wr.frozen? ⟨X + 1, 0, none⟩ = false
  g1 : wr.frozen? ⟨X + 1, 1, none⟩ = false
theorem WB.keep {w : World} {X : Nat} {a : Option Addr} {n cap : Nat} {d : Bts} {wr wx : World} (h : WB w X a n cap d wr) (hb : Lat wr wx) : WB w X a n cap d wx :=
  ⟨h.lat.trans hb, h.lo, Nat.lt_of_lt_of_le h.lt hb.size, hb.cell_at h.c0, hb.cell_at h.c1, hb.free_at (by have := h.lt; simp; omega) h.f0, hb.free_at (by have := h.lt; simp; omega) h.f1, hb.cell_at h.r0, hb.cell_at h.r1, hb.free_at h.lt h.g0, hb.free_at h.lt h.g1⟩
theorem WB.fr {w : World} {X : Nat} {a : Option Addr} {n cap : Nat} {d : Bts} {wr wx : World} {G : Nat → Prop} (h : WB w X a n cap d wr) (hb : Fr G wr wx) (hX : ∀ i, G i → X + 2 ≤ i) : WB w X a n cap d wx := by
  have n0 : ¬ G X := fun e => by have := hX _ e; omega
  have n1 : ¬ G (X + 1) := fun e => by have := hX _ e; omega
  have hlt := h.lt
  exact ⟨hb.lat_of h.lat (fun i e => by have := hX i e; have := h.lo; omega), h.lo, Nat.lt_of_lt_of_le h.lt hb.size, hb.cell_at h.c0 n0, hb.cell_at h.c1 n0, hb.free_at (by simp; omega) h.f0 n0, hb.free_at (by simp; omega) h.f1 n0, hb.cell_at h.r0 n1, hb.cell_at h.r1 n1, hb.free_at h.lt h.g0 n1, hb.free_at h.lt h.g1 n1⟩
theorem WB.put {w : World} {X : Nat} {a : Option Addr} {n cap : Nat} {d : Bts} {wr : World} (h : WB w X a n cap d wr) (e : Bts) : WB w X a n cap e (wr.setCell ⟨X, 1, none⟩ (.string (S e))) := by
  have hs : (wr.setCell ⟨X, 1, none⟩ (.string (S e))).heap.size = wr.heap.size := by simp [World.setCell]
  refine ⟨h.lat.setCell (p := ⟨X, 1, none⟩) h.lo _, h.lo, by rw [hs]; exact h.lt, ?_, World.cell?_setCell_same _ _ _ h.c1, by rw [World.frozen?_setCell]; exact h.f0, by rw [World.frozen?_setCell]; exact h.f1, ?_, ?_, by rw [World.frozen?_setCell]; exact h.g0, by rw [World.frozen?_setCell]; exact h.g1⟩
  · rw [World.cell?_setCell_other _ _ _ _ (by simp)]; exact h.c0
  · rw [World.cell?_setCell_other _ _ _ _ (by intro e; injection e with e _ _; omega)]; exact h.r0
  · rw [World.cell?_setCell_other _ _ _ _ (by intro e; injection e with e _ _; omega)]; exact h.r1

theorem app_intG (wr : World) (B : Nat) {ops : Array Oper} {rest : List Oper} {o : Oper} {a : Act} {Q : Exit → Act → World → Prop}
    (hg : o.guard = none) (s x : Operand) (ho : o.op = .call { callee := .builtin .append, args := #[s, x], argTypes := #[32, 32] })
    (v : Value) (zs : List Int) (z : Int) (hs : a.eval s = v) (hown : OwnInts wr B v zs) (hx : a.eval x = .slice (some ⟨wr.heap.size, 0, none⟩) 1 1)
    (hn : zs.length < 1000000) (hB : B ≤ wr.heap.size)
    (K : ∀ v' w', OwnInts w' B v' (zs ++ [z]) → Fr (fun j => v.ownBlock = some j) wr w' → wpList Tryd.prog ops Q rest (a.put o.dst v') w') :
    wpList Tryd.prog ops Q (o :: rest) a (wr.alloc (.cells #[.int .i64 z] 3)) := by
  have hal : OwnInts (wr.alloc (.cells #[.int .i64 z] 3)) B v zs := Own.alloc hown _
  have hrow1 : RowAt (wr.alloc (.cells #[.int .i64 z] 3)) (some ⟨wr.heap.size, 0, none⟩) 1 1 (fun j => [Value.int .i64 z].getD j undef) := by
    refine ⟨Nat.le_refl _, by unfold maxLen; omega, fun _ => ⟨wr.heap.size, 0, rfl, fun j hj => ?_⟩⟩
    obtain rfl : j = 0 := by omega
    simp
  obtain ⟨v', w', hrun, h2, h3, _⟩ := run_app_many (P := Tryd.prog) (wr.alloc (.cells #[.int .i64 z] 3)) B 32 o.type 3 (.int .i64 0) 8 Tryd.underlying32 info_int rfl (by decide) v _ hal (some ⟨wr.heap.size, 0, none⟩) 1 1 [.int .i64 z] rfl
    hrow1 (fun u hu => by rw [List.mem_singleton.1 hu]; rfl) (by rw [List.length_map]; omega) (by simp; omega)
  refine wpList_plain hg fun K' hK => ?_
  unfold Oper.wp execOp
  simp only [ho, resolve, invoke, builtin, Sem.run_bind, Sem.run_pure, Result.andThen_ok, List.map_toArray, List.map_cons, List.map_nil, hs, hx, hrun]
  refine hK _ _ (K v' w' (by simpa [OwnInts] using h2) ⟨h3.os, h3.tape, h3.output, ?_, fun k hk hne => ?_⟩)
  · have := h3.size; simp at this; omega
  · rw [h3.block k (by simp; omega) (fun e => hne e.symm)]; exact heap_alloc_old wr _ hk
theorem two_put {w : World} {g : Nat} {a b : Value} (c0 : w.cell? ⟨g, 0, none⟩ = some a) (c1 : w.cell? ⟨g, 1, none⟩ = some b) (x y : Value) :
    ((w.setCell ⟨g, 0, none⟩ x).setCell ⟨g, 1, none⟩ y).cell? ⟨g, 0, none⟩ = some x ∧ ((w.setCell ⟨g, 0, none⟩ x).setCell ⟨g, 1, none⟩ y).cell? ⟨g, 1, none⟩ = some y := by
  constructor
  · rw [World.cell?_setCell_other _ _ _ _ (by simp)]; exact World.cell?_setCell_same _ _ _ c0
  · exact World.cell?_setCell_same _ _ _ ((World.cell?_setCell_other _ _ _ _ (by simp)).trans c1)
theorem two_box {w W1 : World} (hz : W1.heap.size = w.heap.size + 1) (v0 v1 : Value) (t : TypeId) :
    ((W1.alloc (.cells #[v0, v1] t)).cell? ⟨w.heap.size + 1, 0, none⟩ = some v0 ∧ (W1.alloc (.cells #[v0, v1] t)).cell? ⟨w.heap.size + 1, 1, none⟩ = some v1) ∧ (W1.alloc (.cells #[v0, v1] t)).frozen? ⟨w.heap.size + 1, 0, none⟩ = false ∧ (W1.alloc (.cells #[v0, v1] t)).frozen? ⟨w.heap.size + 1, 1, none⟩ = false := by
  rw [← hz]; simp
theorem WB.new (w : World) (a : Option Addr) (n cap : Nat) (d : Bts) : WB w w.heap.size a n cap d ((w.alloc (.cells #[.slice a n cap, .string (S d)] 74)).alloc (.cells #[.slice none 0 0, .string { data := #[] }] 74)) := by
  obtain ⟨W1, hW⟩ : ∃ W1, W1 = w.alloc (.cells #[.slice a n cap, .string (S d)] 74) := ⟨_, rfl⟩
  have hz : W1.heap.size = w.heap.size + 1 := by rw [hW]; simp
  have c0 : W1.cell? ⟨w.heap.size, 0, none⟩ = some (.slice a n cap) := by rw [hW]; simp
  have c1 : W1.cell? ⟨w.heap.size, 1, none⟩ = some (.string (S d)) := by rw [hW]; simp
  have f0 : W1.frozen? ⟨w.heap.size, 0, none⟩ = false := by rw [hW]; simp
  have f1 : W1.frozen? ⟨w.heap.size, 1, none⟩ = false := by rw [hW]; simp
  have hl : Lat w W1 := by rw [hW]; exact Lat.alloc _ _
  rw [← hW]
  have h2 := two_box hz (.slice none 0 0) (.string { data := #[] }) 74
  refine ⟨hl.trans (Lat.alloc _ _), Nat.le_refl _, by simp [hz], (Lat.alloc _ _).cell_at c0, (Lat.alloc _ _).cell_at c1, (Lat.alloc _ _).free_at (by simp [hz]) f0, (Lat.alloc _ _).free_at (by simp [hz]) f1, h2.1.1, h2.1.2, h2.2.1, h2.2.2⟩
theorem filt_succ (K : Kn) (zs : List Int) (j : Nat) (hj : j < zs.length) : (zs.take (j + 1)).filter (unkn K) = if unkn K (zs.getD j 0) = true then (zs.take j).filter (unkn K) ++ [zs.getD j 0] else (zs.take j).filter (unkn K) := by
  have e : zs.getD j 0 = zs[j] := by rw [List.getD_eq_getElem?_getD, List.getElem?_eq_getElem hj]; rfl
  rw [List.take_succ_eq_append_getElem hj, List.filter_append, e]
  cases h : unkn K zs[j] <;> simp [h]
theorem fold_succ (K : Kn) (zs : List Int) (d : Bts) (j : Nat) (hj : j < zs.length) : (zs.take (j + 1)).foldl (ovK K) d = ovK K ((zs.take j).foldl (ovK K) d) (zs.getD j 0) := by
  have e : zs.getD j 0 = zs[j] := by rw [List.getD_eq_getElem?_getD, List.getElem?_eq_getElem hj]; rfl
  rw [List.take_succ_eq_append_getElem hj, List.foldl_append, e]; rfl

set_option maxHeartbeats 4000000 in
set_option maxRecDepth 100000 in
theorem without_any (p kb k m : Nat) (K : Kn) (a : Option Addr) (n cap : Nat) (zs : List Int) (d : Bts) (w : World) (hc2 : w.cell? ⟨p, 2, none⟩ = some (.map (some kb))) (hkn : KnAt w kb k K) (hk : k ≤ 16) (hz : IntsAt w a n cap zs) (hn : n ≤ 1000)
    (hin : ∀ z ∈ zs, 0 ≤ z ∧ z < (k : Int)) (hK : ∀ z b, K z = some b → 0 ≤ z ∧ z < (k : Int) ∧ b.length = m) (hd : d.length = m) (hm : m ≤ 8) :
    Calls Tryd.prog 56 #[.pointer (some ⟨p, 0, none⟩), .agg #[.slice a n cap, .string (S d)]] w fun e w' =>
      ∃ a' c', e = .returned (.agg #[.slice a' (wout K (zs, d)).1.length c', .string (S (wout K (zs, d)).2)]) ∧ IntsAt w' a' (wout K (zs, d)).1.length c' (wout K (zs, d)).1 ∧ (∀ b o, a' = some ⟨b, o, none⟩ → w.heap.size ≤ b) ∧ Lat w w' := by
  have hl := hz.len
  have hle := hz.row.le
  have hcm := hz.row.cap
  unfold maxLen at hcm
  have hb0 := WB.new w a n cap d
  have H2 := Lib.hid hc2; have HKN := Lib.hid hkn; have HZ := Lib.hid hz; have HIN := Lib.hid hin; have HKL := Lib.hid hK; have HD := Lib.hid hd; have HL := Lib.hid hl; have HB0 := Lib.hid hb0
  clear hc2 hkn hz hin hK hd hl hb0
  go_enter Tryd.func56, Tryd.ntmps56
  go_wp2
  go_loopw [5, 7, 8, 9, 13] (fun v _ _ _ i wr => ∃ j : Nat, j ≤ n ∧ i = .int .i64 j ∧ Hid (OwnInts wr (w.heap.size + 2) v ((zs.take j).filter (unkn K)) ∧ WB w w.heap.size a n cap ((zs.take j).foldl (ovK K) d) wr)) (fun _ _ _ _ i _ => n - (intOf i).toNat)
  case atStart => exact ⟨0, Nat.zero_le _, rfl, Own.nil _ _ _, HB0.out⟩
  case round =>
    obtain ⟨j, hj, rfl, hrel⟩ := hrel
    by_cases hlt : j < n
    · obtain ⟨hown, hwb⟩ := hrel.out
      obtain ⟨ab, ao, rfl, hc⟩ := (HZ.out.keep hwb.lat).row.at_ (by omega)
      have c1 := hc j hlt
      have hjl : j < zs.length := by rw [HL.out]; exact hlt
      have hzm := HIN.out _ (getD_mem zs j hjl)
      have hfs := filt_succ K zs j hjl
      have hds := fold_succ K zs d j hjl
      have hdl := ovK_len HKL.out (zs.take j) d HD.out
      obtain ⟨z, hz⟩ : ∃ z, z = zs.getD j 0 := ⟨_, rfl⟩
      obtain ⟨dj, hdj⟩ : ∃ dj, dj = (zs.take j).foldl (ovK K) d := ⟨_, rfl⟩
      rw [← hz] at c1 hzm hfs hds
      rw [← hdj] at hds hdl hwb
      have c2 := hwb.lat.cell_at H2.out
      have b0 := hwb.c0
      have b1 := hwb.c1
      have g1 := hwb.f1
      have i1 : (0 : Int) ≤ (j : Int) := by omega
      have i2 : (j : Int) < (n : Int) := by omega
      have hlook := (HKN.out.keep hwb.lat).look_ok hk z hzm.1 hzm.2
      obtain ⟨X, hX⟩ : ∃ X, X = w.heap.size := ⟨_, rfl⟩
      have HFS := Lib.hid hfs; have HDS := Lib.hid hds; have HDL := Lib.hid hdl; have HOW := Lib.hid hown; have HWB := Lib.hid hwb; have HJL := Lib.hid hjl; have HZM := Lib.hid hzm; have HX := Lib.hid hX
      clear hrel hc hjl hzm hfs hds hdl hz hdj hown hwb
      cases hq : K z with
      | some b =>
        have hbl := (HKL.out z b hq).2.2
        have hu : unkn K z = false := by unfold unkn; rw [hq]; rfl
        have ho : ovK K dj z = xorL dj b := by unfold ovK; rw [hq]
        rw [hq] at hlook
        have hlook2 : ∀ W, Lat wr W → (Instr.lookup 63 (.map (some kb)) (.int .i64 z) true).run Tryd.prog W = .ok (.tuple #[.string (S b), .bool true]) W := fun W hW => by
          have := ((HKN.out.keep HWB.out.lat).keep hW).look_ok hk z HZM.out.1 HZM.out.2
          rw [hq] at this; exact this
        have hover := fun W => overS dj (S b) W (by rw [HDL.out]; exact hbl.symm) (by rw [HDL.out]; unfold maxLen; omega)
        have h3 := hlook2 wr (Lat.refl _)
        have HQ := Lib.hid hq; have HBL := Lib.hid hbl; have HU := Lib.hid hu; have HO := Lib.hid ho; have HOV := Lib.hid hover
        clear hq hlook hlook2 hbl hu ho hover
        go_wp2_with (go_at_call 65; refine (HOV.out _).mono ?_; rintro e w5 ⟨rfl, hb5⟩; have hwb5 := HWB.out.keep hb5; have k1 := hwb5.c1; have k2 := hwb5.f1; have HW5 := Lib.hid hwb5; have HB5 := Lib.hid hb5; clear hwb5 hb5)
        go_roundw
        case rel => exact ⟨j + 1, by omega, by go_num, by rw [HFS.out, HU.out, if_neg (by decide)]; exact Own.frL (Own.keep HOW.out HB5.out) (Fr.set (S := fun i => i = w.heap.size) _ ⟨w.heap.size, 1, none⟩ _ rfl) (by omega), by rw [HDS.out, HO.out]; exact HW5.out.put _⟩
        case measure => simp [intOf]; omega
      | none =>
        have hlook2 : (Instr.lookup 63 (.map (some kb)) (.int .i64 z) true).run Tryd.prog wr = .ok (.tuple #[.string { data := #[] }, .bool false]) wr := by
          rw [hq] at hlook; exact hlook
        have hu : unkn K z = true := by unfold unkn; rw [hq]; rfl
        have ho : ovK K dj z = dj := by unfold ovK; rw [hq]
        have HU := Lib.hid hu; have HO := Lib.hid ho
        clear hq hlook hu ho
        have hl : ((zs.take j).filter (unkn K)).length < 1000000 := by
          have h1 := List.length_filter_le (unkn K) (zs.take j)
          rw [List.length_take] at h1
          omega
        have HLL := Lib.hid hl
        have HWZ : Hid (w.heap.size + 2 ≤ wr.heap.size) := HWB.out.lt
        clear hl
        go_wp2_with (at_builtin; refine app_intG wr (w.heap.size + 2) rfl (.tmp 32) (.tmp 34) rfl _ _ z rfl HOW.out rfl HLL.out HWZ.out ?_; intro v' w2 hown' hf2)
        go_roundw
        case rel => exact ⟨j + 1, by omega, by go_num, by rw [HFS.out, HU.out, if_pos rfl]; exact hown', by rw [HDS.out, HO.out]; exact HWB.out.fr hf2 (fun i e => (Own.lt HOW.out i e).1)⟩
        case measure => simp [intOf]; omega
    · obtain rfl : j = n := by omega
      obtain ⟨hown, hwb⟩ := hrel.out
      have b0 := hwb.c0
      have b1 := hwb.c1
      have g0 := hwb.f0
      have g1 := hwb.f1
      have r0 := hwb.r0
      have r1 := hwb.r1
      have s0 := hwb.g0
      have s1 := hwb.g1
      have HWB := Lib.hid hwb
      have ht : zs.take j = zs := List.take_of_length_le (by rw [HL.out]; exact Nat.le_refl _)
      rw [ht] at hown b1 HWB
      obtain ⟨oa, oc, rfl, hat⟩ := OwnInts.slice hown (fun z hz => by have := HIN.out z (List.mem_filter.1 hz).1; omega)
      have hbk : ∀ b o, oa = some ⟨b, o, none⟩ → w.heap.size + 2 ≤ b := fun b o e => (Own.lt hown b (by rw [e]; rfl)).1
      obtain ⟨fs, hfs⟩ : ∃ fs, fs = zs.filter (unkn K) := ⟨_, rfl⟩
      obtain ⟨dd, hdd⟩ : ∃ dd, dd = zs.foldl (ovK K) d := ⟨_, rfl⟩
      have hwo : wout K (zs, d) = (fs, dd) := by unfold wout; rw [hfs, hdd]
      rw [← hfs] at hat
      rw [← hdd] at b1 HWB
      obtain ⟨fl, hfl⟩ : ∃ fl, fl = fs.length := ⟨_, rfl⟩
      rw [← hfs, ← hfl]
      rw [← hfl] at hat
      have HWO := Lib.hid hwo; have HFL := Lib.hid hfl
      have HAT := Lib.hid hat; have HBK := Lib.hid hbk
      obtain ⟨W1, hW1⟩ : ∃ W1, W1 = wr.setCell ⟨w.heap.size, 0, none⟩ (.slice oa fl oc) := ⟨_, rfl⟩
      have q0 : W1.cell? ⟨w.heap.size, 0, none⟩ = some (.slice oa fl oc) := by rw [hW1]; exact World.cell?_setCell_same _ _ _ b0
      have q1 : W1.cell? ⟨w.heap.size, 1, none⟩ = some (.string (S dd)) := by rw [hW1, World.cell?_setCell_other _ _ _ _ (by simp)]; exact b1
      have q2 : W1.cell? ⟨w.heap.size + 1, 0, none⟩ = some (.slice none 0 0) := by rw [hW1, World.cell?_setCell_other _ _ _ _ (by intro e; injection e with e _ _; omega)]; exact r0
      have q3 : W1.cell? ⟨w.heap.size + 1, 1, none⟩ = some (.string { data := #[] }) := by rw [hW1, World.cell?_setCell_other _ _ _ _ (by intro e; injection e with e _ _; omega)]; exact r1
      have q4 : W1.frozen? ⟨w.heap.size + 1, 0, none⟩ = false := by rw [hW1, World.frozen?_setCell]; exact s0
      have q5 : W1.frozen? ⟨w.heap.size + 1, 1, none⟩ = false := by rw [hW1, World.frozen?_setCell]; exact s1
      have hfr : Fr (fun i => i = w.heap.size ∨ i = w.heap.size + 1) wr W1 := by rw [hW1]; exact Fr.set _ _ _ (.inl rfl)
      have HFR := Lib.hid hfr; have HOWN := Lib.hid hown; have HW1 := Lib.hid hW1
      clear hrel hown hwb ht hat hbk hfs hdd hwo hfl hfr
      go_upto_region 11 with fail
      rw [← hW1]
      clear hW1 b0 b1 g0 g1 r0 r1 s0 s1
      go_wp2
      have Q := two_put q2 q3 (.slice oa fl oc) (.string (S dd))
      have hfin : Fr (fun i => i = w.heap.size ∨ i = w.heap.size + 1) wr ((W1.setCell ⟨w.heap.size + 1, 0, none⟩ (.slice oa fl oc)).setCell ⟨w.heap.size + 1, 1, none⟩ (.string (S dd))) := (HFR.out.then_set ⟨w.heap.size + 1, 0, none⟩ _ (.inl (.inr rfl))).then_set ⟨w.heap.size + 1, 1, none⟩ _ (.inl (.inr rfl))
      refine bodyPost_ret (v := .agg #[.slice oa fl oc, .string (S dd)]) (by simp [results, Tryd.results56, go_sem, Q.1, Q.2]) rfl ?_
      rw [HWO.out]
      show ∃ a' c', Ending.returned (.agg #[.slice oa fl oc, .string (S dd)]) = .returned (.agg #[.slice a' fs.length c', .string (S dd)]) ∧ IntsAt _ a' fs.length c' fs ∧ _
      rw [← HFL.out]
      refine ⟨oa, oc, rfl, HAT.out.fr hfin (fun hn b o e h => ?_), fun b o e => ?_, hfin.lat_of HWB.out.lat (fun i e => ?_)⟩
      · have := HBK.out b o e
        omega
      · have := HBK.out b o e
        omega
      · omega
end Go.Proofs.YtcpookgbneoilaaDoor

namespace Go.Proofs.YtcpookgbneoilaaDoor
open Go.ChangeShapes Go.WideShapes Go.ChangeAt Go.RowKit

theorem sort_none (a : Option Addr) (cap : Nat) (w : World) : Calls Tryd.prog 55 #[.slice a 0 cap] w fun e w' => e = .returned (.tuple #[]) ∧ w' = w :=
  Any.slices_Sort_int_none Tryd.lays189 a cap w
theorem learn1_any (a : Option Addr) (n c : Nat) (s : ByteArray) (w : World) :
    Calls Tryd.prog 58 #[.agg #[.slice a n c, .string s]] w fun e w' => e = .returned (.bool (decide (n = 1))) ∧ Lat w w' := by
  obtain ⟨b, hb⟩ : ∃ b, b = decide (n = 1) := ⟨_, rfl⟩
  have h1 : ((n : Int) == 1) = b := by
    rw [hb]
    by_cases h : n = 1
    · subst h; rfl
    · rw [decide_eq_false h]; exact beq_eq_false_iff_ne.2 (by omega)
  rw [← hb]
  clear hb
  go_enter Tryd.func58, Tryd.ntmps58
  go_wp2
  go_ret
  exact ⟨rfl, Lat.alloc _ _⟩
def IxEnd (L : List Wt) (r : Int) : Prop := (r = -1 ∧ ∀ (j : Nat) (x : Wt), L[j]? = some x → one1 x = false) ∨ ∃ (i : Nat) (x : Wt), r = i ∧ L[i]? = some x ∧ one1 x = true ∧ ∀ j, j < i → ∀ y, L[j]? = some y → one1 y = false

set_option maxHeartbeats 1000000 in
theorem indexW0 (F : Nat) (eF : ∀ args w, (callFunc F args).run Tryd.prog w = .ok (.enter F args) w) (hF : ∀ (a : Option Addr) (n c : Nat) (s : ByteArray) (w : World), Calls Tryd.prog F #[.agg #[.slice a n c, .string s]] w fun e w' => e = .returned (.bool (decide (n = 1))) ∧ Lat w w') (N G : Nat → Prop) (a : Option Addr) (n cap : Nat) (rows : List (List Value)) (L : List Wt) (w : World) (h : RowsAt w 2 a n cap rows) (hw : WtsAt w N G rows L) (hn : n ≤ 1000000) :
    Calls Tryd.prog 57 #[.slice a n cap, .func (.func F) #[] #[]] w fun e w' => ∃ r : Int, e = .returned (.int .i64 r) ∧ IxEnd L r ∧ Lat w w' := by
  have hcap2 := h.cap
  have hle2 := h.le
  have hl : L.length = n := by rw [← hw.1]; exact h.len
  unfold maxLen at hcap2
  have H := Lib.hid h; have HW := Lib.hid hw; have HL := Lib.hid hl; have HF := Lib.hid hF
  clear h hw hl hF
  go_enter Tryd.func57, Tryd.ntmps57
  go_wp2
  go_loopw [8] (fun i wr => ∃ k : Nat, k ≤ n ∧ i = .int .i64 k ∧ Hid ((∀ j, j < k → ∀ y, L[j]? = some y → one1 y = false) ∧ Lat w wr)) (fun i _ => n - (intOf i).toNat)
  case atStart => exact ⟨0, Nat.zero_le _, rfl, fun j hj => absurd hj (Nat.not_lt_zero _), Lat.refl _⟩
  case round =>
    obtain ⟨k, hk, rfl, hrel⟩ := hrel
    by_cases hlt : k < n
    · obtain ⟨b, o, rfl, hc⟩ := (H.out.keep hrel.out.2).at_ (by omega)
      have hkl : k < L.length := by rw [HL.out]; exact hlt
      obtain ⟨x, hx⟩ : ∃ x, x = L[k] := ⟨_, rfl⟩
      have hx2 : L[k]? = some x := by rw [hx]; exact List.getElem?_eq_getElem hkl
      obtain ⟨r, hr, hwt⟩ := (HW.out.keep hrel.out.2).2 k x hx2
      obtain ⟨xa, xc, rfl, hxi, _, _⟩ := hwt.ex
      have c0 := (hc k _ hr).2 0 _ rfl
      have c1 := (hc k _ hr).2 1 _ rfl
      rw [Nat.add_zero] at c0
      rw [← Nat.add_assoc] at c1
      have hcall := HF.out xa x.1.length xc (S x.2)
      obtain ⟨q, hq⟩ : ∃ q, q = decide (x.1.length = 1) := ⟨_, rfl⟩
      have hq1 : one1 x = q := hq.symm
      rw [← hq] at hcall
      obtain ⟨xn, hxn⟩ : ∃ xn, xn = x.1.length := ⟨_, rfl⟩
      obtain ⟨xs, hxs⟩ : ∃ xs, xs = S x.2 := ⟨_, rfl⟩
      rw [← hxn, ← hxs] at hcall
      rw [← hxn] at c0
      rw [← hxs] at c1
      have HX := Lib.hid hx2; have HQ := Lib.hid hq1; have HR := Lib.hid hrel.out; have HC := Lib.hid hcall
      clear hx hx2 hr hwt hxi hc hq hq1 hrel hcall hxn hxs hkl
      cases q with
      | true =>
        go_wp2_with (go_at_fn F; refine (HC.out _).mono ?_; rintro e w5 ⟨rfl, hb5⟩)
        go_ret
        exact ⟨k, rfl, .inr ⟨k, x, rfl, HX.out, HQ.out, HR.out.1⟩, HR.out.2.trans hb5⟩
      | false =>
        go_wp2_with (go_at_fn F; refine (HC.out _).mono ?_; rintro e w5 ⟨rfl, hb5⟩)
        go_roundw
        case rel => exact ⟨k + 1, by omega, by go_num, fun j hj y hy => by
          by_cases e : j = k
          · subst e
            have := HX.out.symm.trans hy
            injection this with this
            subst this
            exact HQ.out
          · exact HR.out.1 j (by omega) y hy, HR.out.2.trans hb5⟩
        case measure => simp [intOf]; omega
    · obtain rfl : k = n := by omega
      have HR := Lib.hid hrel.out
      clear hrel
      go_wp2
      go_ret
      exact ⟨-1, rfl, .inl ⟨rfl, fun j x hx => HR.out.1 j (by
        rcases Nat.lt_or_ge j k with h | h
        · exact h
        · rw [List.getElem?_eq_none (by rw [HL.out]; exact h)] at hx; cases hx) x hx⟩, HR.out.2⟩
theorem indexW (N G : Nat → Prop) (a : Option Addr) (n cap : Nat) (rows : List (List Value)) (L : List Wt) (w : World) (h : RowsAt w 2 a n cap rows) (hw : WtsAt w N G rows L) (hn : n ≤ 1000000) :
    Calls Tryd.prog 57 #[.slice a n cap, .func (.func 58) #[] #[]] w fun e w' => ∃ r : Int, e = .returned (.int .i64 r) ∧ IxEnd L r ∧ Lat w w' :=
  indexW0 _ (enters_of Tryd.func58 (by kernel_rfl) rfl) learn1_any N G a n cap rows L w h hw hn
end Go.Proofs.YtcpookgbneoilaaDoor

namespace Go.Proofs.YtcpookgbneoilaaDoor
open Go.ChangeShapes Go.WideShapes Go.ChangeAt Go.RowKit Go.Sort

theorem sort_fr (B : Nat) (v : Value) (zs : List Int) (w : World) (h : OwnInts w B v zs) (hl : zs.length ≤ 1000000) :
    Calls Tryd.prog 55 #[v] w fun e w' => e = .returned (.tuple #[]) ∧ OwnInts w' B v (zs.mergeSort fun x y => decide (x ≤ y)) ∧ Fr (fun i => v.ownBlock = some i) w w' := by
  obtain ⟨hlen, hor⟩ := h
  rw [List.length_map] at hor
  rcases hor with ⟨rfl, h0⟩ | ⟨g, cap, cur, rfl, hg, hh, hn, hc, hs, ht⟩
  · obtain rfl := List.eq_nil_of_length_eq_zero h0
    refine (sort_none none 0 w).mono ?_
    rintro e w' ⟨he, rfl⟩
    exact ⟨he, by rw [List.mergeSort_nil]; exact Own.nil _ _ _, Fr.refl _ _⟩
  · have hgl : g < w.heap.size := (Array.getElem?_eq_some_iff.1 hh).1
    rw [Nat.mul_one] at ht hs
    have hH : Holds (Value.int .i64) w g 0 zs.toArray := by
      intro j hj
      have hj' : j < zs.length := by simpa using hj
      refine ⟨?_, by simp [World.frozen?, hh]⟩
      have h1 : (cur.toList.take zs.length)[j]? = (zs.map encI)[j]? := by rw [ht]
      rw [List.getElem?_take_of_lt hj'] at h1
      simp only [World.cell?, hh, Nat.zero_add]
      simp only [Option.isSome_none, Bool.false_eq_true, if_false]
      rw [← Array.getElem?_toList, h1]
      simp [hj']
    refine (Tryd.slices_Sort_int g 0 cap zs w hH hgl (by omega)).mono ?_
    rintro e w' ⟨he, n, os, rfl⟩
    have hts : (zs.mergeSort fun x y => decide (x ≤ y)).length = zs.length := List.length_mergeSort _
    refine ⟨he, ⟨by simp, .inr ⟨g, cap, putCells encI 0 (zs.mergeSort fun x y => decide (x ≤ y)).toArray cur, ?_, hg, ?_, by simpa using hn, hc, by simp [putCells, hs], ?_⟩⟩, ?_⟩
    · simp
    · rw [heap_grow_old _ _ (by simpa using hgl)]
      simp [putRow, mapBlock, Sort.ahead, Array.getElem?_modify, hh, onCells]
    · rw [Nat.mul_one, List.length_map]; exact take_putI cur _ (by omega)
    · refine ⟨rfl, rfl, rfl, by simp, fun k hk hne => ?_⟩
      rw [heap_grow_old _ _ (by simp; omega)]
      have : g ≠ k := fun e => hne (by rw [e]; rfl)
      simp [putRow, mapBlock, Sort.ahead, Array.getElem?_modify, this]

theorem app_intL (wr : World) (B : Nat) {ops : Array Oper} {rest : List Oper} {o : Oper} {a : Act} {Q : Exit → Act → World → Prop}
    (hg : o.guard = none) (s x : Operand) (ho : o.op = .call { callee := .builtin .append, args := #[s, x], argTypes := #[32, 32] })
    (v : Value) (zs : List Int) (z : Int) (hs : a.eval s = v) (hown : OwnInts wr B v zs) (hx : a.eval x = .slice (some ⟨wr.heap.size, 0, none⟩) 1 1)
    (hn : zs.length < 1000000) (hB : B ≤ wr.heap.size)
    (K : ∀ v' w', OwnInts w' B v' (zs ++ [z]) → Fr (fun j => v.ownBlock = some j) wr w' → (∀ i, v'.ownBlock = some i → v.ownBlock = some i ∨ wr.heap.size ≤ i) → wpList Tryd.prog ops Q rest (a.put o.dst v') w') :
    wpList Tryd.prog ops Q (o :: rest) a (wr.alloc (.cells #[.int .i64 z] 3)) := by
  have hal : OwnInts (wr.alloc (.cells #[.int .i64 z] 3)) B v zs := Own.alloc hown _
  have hrow1 : RowAt (wr.alloc (.cells #[.int .i64 z] 3)) (some ⟨wr.heap.size, 0, none⟩) 1 1 (fun j => [Value.int .i64 z].getD j undef) := by
    refine ⟨Nat.le_refl _, by unfold maxLen; omega, fun _ => ⟨wr.heap.size, 0, rfl, fun j hj => ?_⟩⟩
    obtain rfl : j = 0 := by omega
    simp
  obtain ⟨v', w', hrun, h2, h3, h4⟩ := run_app_many (P := Tryd.prog) (wr.alloc (.cells #[.int .i64 z] 3)) B 32 o.type 3 (.int .i64 0) 8 Tryd.underlying32 info_int rfl (by decide) v _ hal (some ⟨wr.heap.size, 0, none⟩) 1 1 [.int .i64 z] rfl
    hrow1 (fun u hu => by rw [List.mem_singleton.1 hu]; rfl) (by rw [List.length_map]; omega) (by simp; omega)
  refine wpList_plain hg fun K' hK => ?_
  unfold Oper.wp execOp
  simp only [ho, resolve, invoke, builtin, Sem.run_bind, Sem.run_pure, Result.andThen_ok, List.map_toArray, List.map_cons, List.map_nil, hs, hx, hrun]
  refine hK _ _ (K v' w' (by simpa [OwnInts] using h2) ⟨h3.os, h3.tape, h3.output, ?_, fun k hk hne => ?_⟩ (fun i hi => ?_))
  · have := h3.size; simp at this; omega
  · rw [h3.block k (by simp; omega) (fun e => hne e.symm)]; exact heap_alloc_old wr _ hk
  · rcases h4 with h | h
    · exact .inl (by rw [← h]; exact hi)
    · rw [h] at hi
      injection hi with hi
      exact .inr (by rw [← hi]; simp)

def GG (G : Nat → Prop) (w wr : World) (v : Value) (i : Nat) : Prop := i < wr.heap.size ∧ (G i ∨ w.heap.size ≤ i) ∧ v.ownBlock ≠ some i
section
variable {G : Nat → Prop} {p kb tb k m : Nat} {K K' : Kn} {T : List Int} {L : List Wt} {a : Option Addr} {cap : Nat} {w w1 w2 wr wx : World} {v v' : Value}
theorem PeelIn.gg (h : PeelIn (GG G w w1 v) p kb tb k m K T L a cap w1) (hb : Lat w1 w2) : PeelIn (GG G w w2 v) p kb tb k m K T L a cap w2 :=
  (h.keep hb).grow (fun _ hi => ⟨Nat.lt_of_lt_of_le hi.1 hb.size, hi.2⟩) (fun _ hi => hi.1)
theorem PeelIn.know (h : PeelIn G p kb tb k m K T L a cap w1) (hkn : KnAt w2 kb k K') (hf : Fr (fun i => i = kb) w1 w2) (hok : WOk k m K' L) : PeelIn G p kb tb k m K' T L a cap w2 := by
  obtain ⟨rows, ho, hw⟩ := h.row
  have np : ¬ p = kb := h.nk
  exact ⟨fun i hi => Nat.lt_of_lt_of_le (h.lt i hi) hf.size, h.gp, h.gk, h.gt, h.nk, h.nt, h.nkt, hf.cell_at h.c0 np, hf.cell_at h.c1 np, hf.cell_at h.c2 np, hf.cell_at h.c3 np, hf.cell_at h.c4 np, hf.free_at (h.lt _ h.gp) h.free np,
    hkn, h.tk.fr hf (fun e => h.nkt e.symm), ⟨rows, ho.fr hf (fun i hi e => (h.own i hi).2.2.1 e), hw.fr hf (fun i _ e _ => .inr (.inl e))⟩, h.own, hok, h.most⟩
theorem PeelIn.other (h : PeelIn (GG G w w1 v) p kb tb k m K T L a cap w1) (hf : Fr (fun i => v.ownBlock = some i) w1 w2) (hloc : ∀ i, v'.ownBlock = some i → v.ownBlock = some i ∨ w1.heap.size ≤ i) : PeelIn (GG G w w2 v') p kb tb k m K T L a cap w2 := by
  have h2 := h.fr hf (fun i hi e => hi.2.2 e)
  refine PeelIn.grow ⟨h2.lt, h2.gp, h2.gk, h2.gt, h2.nk, h2.nt, h2.nkt, h2.c0, h2.c1, h2.c2, h2.c3, h2.c4, h2.free, h2.kn, h2.tk, h2.row, h2.own, h2.ok, h2.most⟩ (fun i hi => ⟨Nat.lt_of_lt_of_le hi.1 hf.size, hi.2.1, fun e => ?_⟩) (fun _ hi => hi.1)
  rcases hloc i e with h3 | h3
  · exact hi.2.2 h3
  · have := hi.1; omega
theorem PeelIn.left (h : PeelIn (GG G w wr v) p kb tb k m K T L a cap wr) (hv : ∀ i, v.ownBlock = some i → i < wr.heap.size) (hw : w.heap.size ≤ wr.heap.size) (hl : Lat wr wx) {la : Option Addr} {ll lc : Nat} {rows : List (List Value)} (ho : OwnR wx wr.heap.size 74 2 (.slice la ll lc) rows)
    (hws : WtsAt wx (fun i => (Value.slice la ll lc).ownBlock = some i) (fun i => wr.heap.size ≤ i) rows (leftW K L)) (hll : (leftW K L).length = ll) :
    PeelIn (GG G w (wx.setCell ⟨p, 4, none⟩ (.slice la ll lc)) v) p kb tb k m K T (leftW K L) la lc (wx.setCell ⟨p, 4, none⟩ (.slice la ll lc)) := by
  have hs : (wx.setCell ⟨p, 4, none⟩ (.slice la ll lc)).heap.size = wx.heap.size := by simp [World.setCell]
  have hp := h.lt _ h.gp
  have hkb := h.lt _ h.gk
  have htb := h.lt _ h.gt
  have hf : Fr (fun i => i = p) wx (wx.setCell ⟨p, 4, none⟩ (.slice la ll lc)) := Fr.set _ _ _ rfl
  have h2 := h.keep hl
  have hlz := hl.size
  have hup : ∀ i, GG G w wr v i → GG G w (wx.setCell ⟨p, 4, none⟩ (.slice la ll lc)) v i := fun i hi => ⟨by rw [hs]; exact Nat.lt_of_lt_of_le hi.1 hl.size, hi.2⟩
  have hlen : (leftW K L).length ≤ L.length := by
    unfold leftW
    refine Nat.le_trans (List.length_filter_le _ _) ?_
    rw [List.length_map]; exact Nat.le_refl _
  have hob := OwnR.lt ho
  have c : ∀ j x, j ≠ 4 → wx.cell? ⟨p, j, none⟩ = some x → (wx.setCell ⟨p, 4, none⟩ (.slice la ll lc)).cell? ⟨p, j, none⟩ = some x := fun j x hj hx => by
    rw [World.cell?_setCell_other _ _ _ _ (by intro e; injection e with _ e _; exact hj e.symm)]; exact hx
  refine ⟨fun i hi => hi.1, hup _ h.gp, hup _ h.gk, hup _ h.gt, h.nk, h.nt, h.nkt, c _ _ (by decide) h2.c0, c _ _ (by decide) h2.c1, c _ _ (by decide) h2.c2, c _ _ (by decide) h2.c3, by rw [hll]; exact World.cell?_setCell_same _ _ _ h2.c4, by rw [World.frozen?_setCell]; exact h2.free,
    h2.kn.fr hf (fun e => h.nk e.symm), h2.tk.fr hf (fun e => h.nt e.symm), ⟨rows, ?_, ?_⟩, fun i hi => ?_, h.ok.left, Nat.le_trans hlen h.most⟩
  · rw [hll]; exact (ho.base (Nat.zero_le _)).fr hf (fun i hi e => by have := (hob i hi).1; omega)
  · rw [hll]
    refine (hws.fr hf (fun i _ e hi => ?_)).off (fun i _ hi e => ?_) (fun i hi hi2 hn => ⟨hi, ?_, fun e => ?_⟩)
    · omega
    · rcases e with e | e | e | e
      · omega
      · omega
      · omega
      · exact e
    · exact .inr (Nat.le_trans hw hi2)
    · have := hv i e; omega
  · rw [hll] at hi
    obtain ⟨g1, g2⟩ := hob i hi
    refine ⟨⟨by rw [hs]; exact g2, .inr (by omega), fun e => ?_⟩, by omega, by omega, by omega⟩
    have := hv i e
    omega
end
end Go.Proofs.YtcpookgbneoilaaDoor

namespace Go.Proofs.YtcpookgbneoilaaDoor
open Go.ChangeShapes Go.WideShapes Go.ChangeAt Go.RowKit

theorem lack_rank {k : Nat} (h64 : k ≤ 64) {L : List Vec} (h : Bare k L) {i : Nat} (hi : i < k) :
    (rk k (L ++ (lackL k L i).map unit) < rk k (L ++ (lackL k L i).map unit ++ [unit i])) = (raises k (L ++ (List.range i).map unit) (unit i) = true) ∧ Bare k (L ++ (lackL k L i).map unit) := by
  have hlt := lackL_lt k L i
  have hb1 : Bare k (L ++ (lackL k L i).map unit) := h.append (bare_units _ fun x hx => by have := hlt x hx; omega)
  have hb2 : Bare k (L ++ (List.range i).map unit) := h.append (bare_range (by omega))
  have hsame : ∀ v, Sp 0 (L ++ (lackL k L i).map unit) v ↔ Sp 0 (L ++ (List.range i).map unit) v := fun v => by
    constructor
    · refine Sp.mono fun x hx => ?_
      rcases List.mem_append.1 hx with hx | hx
      · exact List.mem_append_left _ hx
      · obtain ⟨j, hj, rfl⟩ := List.mem_map.1 hx
        exact List.mem_append_right _ (List.mem_map.2 ⟨j, List.mem_range.2 (hlt j hj), rfl⟩)
    · refine Sp.sub hb1.wf fun x hx => ?_
      rcases List.mem_append.1 hx with hx | hx
      · exact Sp.mem hb1.wf (List.mem_append_left _ hx)
      · obtain ⟨j, hj, rfl⟩ := List.mem_map.1 hx
        exact lack_fills h64 h i (by omega) j (List.mem_range.1 hj)
  have e : raises k (L ++ (lackL k L i).map unit) (unit i) = raises k (L ++ (List.range i).map unit) (unit i) := by
    have h1 := raises_iff h64 hb1 (v := unit i) rfl
    have h2 := raises_iff h64 hb2 (v := unit i) rfl
    have h3 := hsame (unit i)
    cases e1 : raises k (L ++ (lackL k L i).map unit) (unit i) <;> cases e2 : raises k (L ++ (List.range i).map unit) (unit i) <;> simp_all
  refine ⟨?_, hb1⟩
  rw [rk_snoc h64 hb1 (unit_lt hi), e]
  cases raises k (L ++ (List.range i).map unit) (unit i) <;> simp
theorem lackL_succ (k : Nat) (L : List Vec) (i : Nat) : lackL k L (i + 1) = if raises k (L ++ (List.range i).map unit) (unit i) = true then lackL k L i ++ [i] else lackL k L i := rfl
theorem apartL {w : World} {B C : Nat} {v u : Value} {A : List Vec} {zs : List Int} (h : OwnL w B v A) (k : OwnInts w C u zs) : ∀ g, v.ownBlock = some g → u.ownBlock ≠ some g := fun g hg hu => by
  rcases h.2.2 with ⟨rfl, _⟩ | ⟨g1, c1, cur1, rfl, _, hh1, _⟩
  · cases hg
  · rcases k.2 with ⟨rfl, _⟩ | ⟨g2, c2, cur2, rfl, _, hh2, _⟩
    · cases hu
    · cases hg; cases hu
      rw [hh1] at hh2
      injection hh2 with e
      injection e with _ e2 _
      exact absurd e2 (by decide)
structure LK (w : World) (k : Nat) (R : List Vec) (lv ov : Value) (i : Nat) (W : World) : Prop where
  lat : Lat w W
  own : OwnL W w.heap.size lv (R ++ (lackL k R i).map unit)
  out : OwnInts W w.heap.size ov (ofNats (lackL k R i))
theorem LK.keep {w W W' : World} {k : Nat} {R : List Vec} {lv ov : Value} {i : Nat} (h : LK w k R lv ov i W) (hb : Lat W W') : LK w k R lv ov i W' := ⟨h.lat.trans hb, h.own.keep hb, Own.keep h.out hb⟩

theorem OwnInts.frF {w w' : World} {B : Nat} {v : Value} {zs : List Int} {H : Nat → Prop} (h : OwnInts w B v zs) (hf : Fr H w w') (hn : ∀ g, v.ownBlock = some g → ¬ H g) : OwnInts w' B v zs := by
  obtain ⟨h1, h2⟩ := h
  refine ⟨h1, ?_⟩
  rcases h2 with h2 | ⟨g, cap, cur, rfl, hg, hh, rest⟩
  · exact .inl h2
  · exact .inr ⟨g, cap, cur, rfl, hg, by rw [hf.block g (Array.getElem?_eq_some_iff.1 hh).1 (hn g rfl)]; exact hh, rest⟩
theorem range_fr {w w' : World} {b o : Nat} {cs : List Value} {H : Nat → Prop} (h : w.rangeAt b o cs) (hf : Fr H w w') (hn : ¬ H b) : w'.rangeAt b o cs := fun j v hv => hf.cell_at (h j v hv) hn

set_option maxHeartbeats 8000000 in
set_option maxRecDepth 100000 in
theorem refLacks (k : Nat) (a : Option Addr) (n cap : Nat) (zs : List Int) (w : World) (h : IntsAt w a n cap zs) (h1 : 1 ≤ k) (h2 : k ≤ 16) (hz : ∀ z ∈ zs, 1 ≤ z ∧ z ≤ 10000) (hn : n ≤ 60) :
    Calls Tryd.prog 21 #[.int .i64 k, .slice a n cap] w fun e w' => ∃ v, e = .returned v ∧ OwnInts w' w.heap.size v (ofNats (lackL k (rowsOf k zs) k)) ∧ Lat w w' := by
  have hlen := h.len
  have hbare := rowsOf_bare (k := k) h1 hz
  have hrl := rowsOf_len k zs
  have hsnoc := rowsOf_takeR k zs
  rw [hlen] at hrl
  obtain ⟨R, hR⟩ : ∃ R, R = rowsOf k zs := ⟨_, rfl⟩
  rw [← hR] at hbare hrl hsnoc ⊢
  have hrk := fun (A : List Vec) (hA : Bare k A) (hA2 : A.length ≤ 100) aa nn cc W (hW : LinesAt W aa nn cc A) => refRk aa nn cc k 0 A W hW (hA.ln16 h2) (by have := hW.len; omega) h2 (by omega)
  have HH := Lib.hid h; have HZ := Lib.hid hz; have HLEN := Lib.hid hlen; have HRL := Lib.hid hrl; have HSN := Lib.hid hsnoc; have HBA := Lib.hid hbare; have HRK := Lib.hid hrk
  clear h hz hlen hbare hrl hsnoc hR hrk
  go_enter Tryd.func21, Tryd.ntmps21
  go_wp2_with fail
  go_loopg [5, 6] n (fun f lv iv wx => ∃ i : Nat, i + f = n ∧ iv = .int .i64 i ∧ Hid (Lat w wx ∧ OwnL wx w.heap.size lv (R.take i)))
  case atStart => exact ⟨0, by omega, rfl, Lat.refl w, OwnL.nil w _⟩
  case round =>
    obtain ⟨i, hi, rfl, hrel⟩ := hrel
    by_cases hlt : i < n
    · obtain ⟨f, rfl⟩ : ∃ f, gk = f + 1 := ⟨gk - 1, by omega⟩
      have di : decide (i < n) = true := decide_eq_true hlt
      have hzi := HZ.out _ (getD_mem zs i (by rw [HLEN.out]; exact hlt))
      have hsn := HSN.out i (by rw [HLEN.out]; exact hlt)
      obtain ⟨z, hzz⟩ : ∃ z : Nat, zs.getD i 0 = (z : Int) := ⟨(zs.getD i 0).toNat, by omega⟩
      obtain ⟨b, o, rfl, hc⟩ := (HH.out.keep hrel.out.1).row.at_ (by omega)
      have c0 := hc i hlt
      rw [hzz] at hzi c0 hsn
      obtain ⟨u, hu⟩ : ∃ u, u = rowOf k (z : Int) := ⟨_, rfl⟩
      have hu2 : (bitsN (setZ k z), ([] : List UInt8)) = u := by rw [hu]; unfold rowOf; rw [Int.toNat_natCast]
      rw [← hu] at hsn
      have i0 : (0 : Int) ≤ (i : Int) := by omega
      have i1 : (i : Int) < (n : Int) := by omega
      have hset := refSet k z wr h1 h2 (by omega) (by omega)
      have hs16 := setZ_16 h1 h2 z (by omega)
      have HSLN := Lib.hid (setZ_length k z h1 h2 (by omega)).2
      have HSET := Lib.hid hset; have HS16 := Lib.hid hs16; have HSN2 := Lib.hid hsn; have HU2 := Lib.hid hu2; have HREL := Lib.hid hrel.out
      clear hrel hc hzi hzz hsn hset hs16 hu hu2
      go_wp2_with fail
      refine HSET.out.mono ?_
      rintro e w2 ⟨sa, sc, rfl, hsi, hb2⟩
      have hsl : (setZ k z).length ≤ 1000000 := by have := HSLN.out; omega
      have HOF := Lib.hid (refOf sa _ sc (setZ k z) [] w2 hsi HS16.out hsl)
      have HB2 := Lib.hid hb2
      clear hsi hb2 hsl HSET HS16 HSLN
      go_wp2_with fail
      refine HOF.out.mono ?_
      rintro e w3 ⟨rfl, hb3⟩
      rw [HU2.out]
      have HL3 := Lib.hid (HB2.out.trans hb3)
      clear hb3 HOF HU2 HB2
      have hzt := zline_there w3 78
      obtain ⟨W4, hW4⟩ : ∃ W, W = (w3.alloc (.cells (lineC (0, [])).toArray 78)).setCells w3.heap.size 0 (lineC u) := ⟨_, rfl⟩
      have hx4 := World.rangeAt_setCells_same (w3.alloc (.cells (lineC (0, [])).toArray 78)) w3.heap.size 0 (lineC u) (by rw [lineC_len]; exact hzt)
      have hl34 : Lat w3 W4 := by
        rw [hW4]
        exact (Fr.setCells _ _ _ _).lat_of (Lat.alloc _ _) (fun k e => by rw [e]; exact Nat.le_refl _)
      rw [← hW4] at hx4
      rw [zero_cells] at hW4 hzt
      have HZT := Lib.hid hzt; have HX4 := Lib.hid hx4; have HW4 := Lib.hid hW4; have HL34 := Lib.hid (HL3.out.trans hl34)
      clear hzt hx4 hW4 hl34 HL3
      go_upto_region 6 with (refine at_store rfl (.tmp 7) (.tmp 25) rfl w3.heap.size 0 u rfl rfl HZT.out ?_)
      rw [← HW4.out]
      clear HW4 HZT
      refine wp_region_lit ?_
      have hll := lineC_len u
      go_wp2_with (first
        | refine at_load rfl (.tmp 7) rfl w3.heap.size 0 rfl u HX4.out ?_
        | (at_builtin; rw [bs_line u]; (refine app_line W4 w.heap.size rfl (.tmp 26) (.tmp 28) rfl u5 (R.take i) u rfl (HREL.out.2.keep HL34.out) rfl (by rw [List.length_take]; omega) (HREL.out.1.trans HL34.out).size ?_); intro v' w' hown' _ hfr'))
      have hlat := hfr'.lat_of (HREL.out.1.trans HL34.out) (fun k hk => (HREL.out.2.lt k hk).1)
      rw [← HSN2.out] at hown'
      have HOW := Lib.hid hown'; have HLAT := Lib.hid hlat
      clear hown' hfr' hlat hll
      try go_wp2_with fail
      go_roundg f
      case measure => omega
      case rel => exact ⟨i + 1, by omega, by go_num, HLAT.out, HOW.out⟩
    · obtain rfl : i = n := by omega
      have di : decide (i < i) = false := decide_eq_false (by omega)
      have ho := hrel.out.2
      rw [List.take_of_length_le (by rw [HRL.out]; exact Nat.le_refl _)] at ho
      have hlk : LK w k R u5 (.slice none 0 0) 0 wr := ⟨hrel.out.1, by rw [show lackL k R 0 = [] from rfl, List.map_nil, List.append_nil]; exact ho, Own.nil _ _ _⟩
      have HLK := Lib.hid hlk
      clear ho hrel hlk
      go_wp2_with fail
      go_loopg [5, 8, 9] k (fun f lv ov bv wx => ∃ b : Nat, b + f = k ∧ bv = .int .i64 b ∧ Hid (LK w k R lv ov b wx))
      case atStart => exact ⟨0, by omega, rfl, HLK.out⟩
      case round =>
        clear HLK
        obtain ⟨b, hb, rfl, hrel⟩ := hrel
        by_cases hbk : b < k
        · obtain ⟨f, rfl⟩ : ∃ f, gk = f + 1 := ⟨gk - 1, by omega⟩
          have db : decide (b < k) = true := decide_eq_true hbk
          obtain ⟨hst, hb1⟩ := lack_rank (by omega) HBA.out hbk
          have hle := lackL_le k R b
          have hsu := lackL_succ k R b
          obtain ⟨A, hA⟩ : ∃ A, A = R ++ (lackL k R b).map unit := ⟨_, rfl⟩
          have hAl : A.length ≤ 76 := by rw [hA, List.length_append, List.length_map, HRL.out]; omega
          have hb2 : Bare k (A ++ [unit b]) := by rw [hA]; exact hb1.snoc rfl (unit_lt hbk)
          rw [← hA] at hst hb1
          have hown : OwnL wr w.heap.size u5 A := by rw [hA]; exact hrel.out.own
          obtain ⟨aa, cc, hu5, -, -, -⟩ := OwnL.form hown rfl
          subst hu5
          obtain ⟨r1, hr1⟩ : ∃ r, r = rk k A := ⟨_, rfl⟩
          obtain ⟨r2, hr2⟩ : ∃ r, r = rk k (A ++ [unit b]) := ⟨_, rfl⟩
          rw [← hr1, ← hr2] at hst
          obtain ⟨c1, hc1⟩ : ∃ c, c = A.length := ⟨_, rfl⟩
          have hrk1 := HRK.out A hb1 (by omega) aa _ cc wr hown.shown
          have hrk2 := fun a2 n2 c2 W hW => HRK.out (A ++ [unit b]) hb2 (by rw [List.length_append, List.length_singleton]; omega) a2 n2 c2 W hW
          rw [rkF_eq (by omega) hb1, ← hr1] at hrk1
          rw [rkF_eq (by omega) hb2, ← hr2] at hrk2
          rw [← hc1] at hrk1 hown ⊢
          have hof := fun (W : World) => refOf (some ⟨W.heap.size, 0, none⟩) 1 1 [(b : Int)] [] (W.alloc (.cells #[.int .i64 (b : Int)] 3)) (by have h9 := ints_new W [(b : Int)] 3 (by simp) (by intro z hz; rw [List.mem_singleton] at hz; subst hz; omega); simpa using h9) (fun z hz => by rw [List.mem_singleton] at hz; subst hz; omega) (by omega)
          obtain ⟨u, hu⟩ : ∃ u, u = unit b := ⟨_, rfl⟩
          rw [bits_one, ← hu] at hof
          rw [← hu] at hrk2
          have HR1 := Lib.hid hrk1; have HR2 := Lib.hid hrk2; have HOF := Lib.hid hof; have HST := Lib.hid hst; have HSU := Lib.hid hsu; have HA := Lib.hid hA; have HREL := Lib.hid hrel.out; have HOW := Lib.hid hown; have HU := Lib.hid hu; have HC1 := Lib.hid hc1; have HLE := Lib.hid hle
          clear hrk1 hrk2 hof hst hsu hA hrel hown hu hc1 hle hr1 hr2 hb1 hb2
          have hll := lineC_len u
          go_wp2_with fail
          refine HR1.out.mono ?_
          rintro e w2 ⟨rfl, hb2⟩
          have HB2 := Lib.hid hb2
          clear hb2 HR1
          go_wp2_with fail
          refine (HOF.out w2).mono ?_
          rintro e w3 ⟨rfl, hb3⟩
          have HL3 := Lib.hid (HB2.out.trans ((Lat.alloc _ _).trans hb3))
          clear hb3 HOF HB2
          have hzt := zline_there w3 78
          obtain ⟨W4, hW4⟩ : ∃ W, W = (w3.alloc (.cells (lineC (0, [])).toArray 78)).setCells w3.heap.size 0 (lineC u) := ⟨_, rfl⟩
          have hx4 := World.rangeAt_setCells_same (w3.alloc (.cells (lineC (0, [])).toArray 78)) w3.heap.size 0 (lineC u) (by rw [lineC_len]; exact hzt)
          have hl34 : Lat w3 W4 := by
            rw [hW4]
            exact (Fr.setCells _ _ _ _).lat_of (Lat.alloc _ _) (fun k e => by rw [e]; exact Nat.le_refl _)
          rw [← hW4] at hx4
          rw [zero_cells] at hW4 hzt
          have HW3S := Lib.hid (show wr.heap.size ≤ w3.heap.size from HL3.out.size)
          have HZT := Lib.hid hzt; have HX4 := Lib.hid hx4; have HW4 := Lib.hid hW4; have HL34 := Lib.hid (HL3.out.trans hl34)
          clear hzt hx4 hW4 hl34 HL3
          go_upto_region 13 with (refine at_store rfl (.tmp 11) (.tmp 40) rfl w3.heap.size 0 u rfl rfl HZT.out ?_)
          rw [← HW4.out]
          clear HW4 HZT
          refine wp_region_lit ?_
          go_wp2_with (first
            | refine at_load rfl (.tmp 11) rfl w3.heap.size 0 rfl u HX4.out ?_
            | (at_builtin; rw [bs_line u]; (refine app_line W4 w.heap.size rfl (.tmp 41) (.tmp 43) rfl (.slice aa c1 cc) A u rfl (HOW.out.keep HL34.out) rfl (by omega) (HREL.out.lat.trans HL34.out).size ?_); intro v5 w5 hown5 hold5 hfr5))
          have hl5 := hfr5.lat_of (HREL.out.lat.trans HL34.out) (fun k hk => (HOW.out.lt k hk).1)
          have hout5 : OwnInts w5 w.heap.size u8 (ofNats (lackL k R b)) := OwnInts.frF (Own.keep HREL.out.out HL34.out) hfr5 (fun g hg e => apartL HOW.out HREL.out.out g e hg)
          have hx5 := range_fr HX4.out hfr5 (fun e => by have := (HOW.out.lt _ e).2; have := HL34.out.size; have := HW3S.out; omega)
          obtain ⟨a5, c5, hv5, -, -, -⟩ := OwnL.form hown5 rfl
          subst hv5
          obtain ⟨n5, hn5⟩ : ∃ n5, n5 = (A ++ [u]).length := ⟨_, rfl⟩
          have hrk5 := HR2.out a5 _ c5 w5 hown5.shown
          rw [← hn5] at hrk5 ⊢
          have HR5 := Lib.hid hrk5; have HL5 := Lib.hid hl5; have HO5 := Lib.hid hout5; have HX5 := Lib.hid hx5; have HOLD := Lib.hid hold5; have HN5 := Lib.hid hn5
          clear hown5 hold5 hfr5 hl5 hout5 hx5 hrk5 hn5 HR2 HX4 HREL HOW
          try go_wp2_with fail
          refine HR5.out.mono ?_
          rintro e w6 ⟨rfl, hb6⟩
          have HL6 := Lib.hid (HL5.out.trans hb6); have HO6 := Lib.hid (Own.keep HO5.out hb6); have HX6 := Lib.hid (range_keep HX5.out hb6); have HV6 := Lib.hid (HOLD.out.keep hb6)
          clear hb6 HR5 HL5 HO5 HX5 HOLD HN5
          by_cases hgt : r1 < r2
          · have dg : decide (r1 < r2) = true := decide_eq_true hgt
            have hs2 := HSU.out
            rw [if_pos (HST.out ▸ hgt)] at hs2
            have HS2 := Lib.hid hs2
            clear hs2 HSU HST hgt
            go_wp2_with (first
              | refine at_load rfl (.tmp 11) rfl w3.heap.size 0 rfl u HX6.out ?_
              | (at_builtin; rw [bs_line u]; (refine app_line w6 w.heap.size rfl (.tmp 50) (.tmp 52) rfl (.slice aa c1 cc) A u rfl HV6.out rfl (by omega) HL6.out.size ?_); intro v7 w7 hown7 _ hfr7)
              | (at_builtin; refine app_intF w7 w.heap.size rfl (.tmp 54) (.tmp 56) rfl u8 (ofNats (lackL k R b)) (b : Int) rfl (OwnInts.frF HO6.out hfr7 (fun g hg e => apartL HV6.out HO6.out g e hg)) rfl (by unfold ofNats; rw [List.length_map]; have := HLE.out; omega) (hfr7.lat_of HL6.out (fun k hk => (HV6.out.lt k hk).1)).size ?_; intro v8 w8 hown8 hfr8))
            have ho7 := OwnInts.frF HO6.out hfr7 (fun g hg e => apartL HV6.out HO6.out g e hg)
            have hl7 := hfr7.lat_of HL6.out (fun k hk => (HV6.out.lt k hk).1)
            have hl8 := hfr8.lat_of hl7 (fun k hk => (Own.lt ho7 k hk).1)
            have hv8 : OwnL w8 w.heap.size v7 (A ++ [u]) := OwnR.fr hown7 hfr8 (fun g hg e => apartL hown7 ho7 g hg e)
            have hlk : LK w k R v7 v8 (b + 1) w8 := ⟨hl8, by rw [HS2.out, List.map_append, ← List.append_assoc, ← HA.out]; show OwnL w8 w.heap.size v7 (A ++ [unit b]); rw [← HU.out]; exact hv8, by rw [HS2.out]; unfold ofNats at hown8 ⊢; rw [List.map_append]; exact hown8⟩
            have HLKN := Lib.hid hlk
            clear hown7 hown8 hfr7 hfr8 ho7 hl7 hl8 hv8 hlk
            try go_wp2_with fail
            go_roundg f
            case measure => omega
            case rel => exact ⟨b + 1, by omega, by go_num, HLKN.out⟩
          · have dg : decide (r1 < r2) = false := decide_eq_false hgt
            have hs2 := HSU.out
            rw [if_neg (fun e => hgt (HST.out ▸ e))] at hs2
            have hlk : LK w k R (.slice aa c1 cc) u8 (b + 1) w6 := ⟨HL6.out, by rw [hs2, ← HA.out]; exact HV6.out, by rw [hs2]; exact HO6.out⟩
            have HLKN := Lib.hid hlk
            clear hs2 HSU HST hgt hlk
            go_wp2_with fail
            go_roundg f
            case measure => omega
            case rel => exact ⟨b + 1, by omega, by go_num, HLKN.out⟩
        · obtain rfl : b = k := by omega
          have db : decide (b < b) = false := decide_eq_false (by omega)
          have HR := Lib.hid hrel.out
          clear hrel
          go_wp2_with fail
          go_ret
          exact ⟨_, rfl, HR.out.out, HR.out.lat⟩
end Go.Proofs.YtcpookgbneoilaaDoor

namespace Go.Proofs.YtcpookgbneoilaaDoor
open Go.ChangeShapes Go.WideShapes Go.ChangeAt Go.RowKit

theorem sameErr_nil (w : World) : Calls Tryd.prog 7 #[.nilIface, .int .i64 0] w fun e w' => e = .returned (.bool true) ∧ Lat w w' := by
  go_enter Tryd.func7, Tryd.ntmps7
  go_wp2_with (go_at_call 29; refine (told_nil _).mono ?_; rintro e w' ⟨rfl, hb⟩)
  go_ret
  exact ⟨rfl, hb⟩
theorem sameErr_eno (n : Int) (w : World) (hg : Hnd w) : Calls Tryd.prog 7 #[eno n, .int .i64 n] w fun e w' => e = .returned (.bool true) ∧ Lat w w' := by
  have H := Lib.hid hg
  clear hg
  go_enter Tryd.func7, Tryd.ntmps7
  go_wp2_with (go_at_call 29; refine (told_eno n _ H.out).mono ?_; rintro e w' ⟨rfl, hb⟩)
  go_ret
  exact ⟨rfl, hb⟩
theorem sameErr_any (n : Nat) (w : World) (hg : Hnd w) : Calls Tryd.prog 7 #[errv n, .int .i64 n] w fun e w' => e = .returned (.bool true) ∧ Lat w w' := by
  by_cases h : n = 0
  · subst h; exact sameErr_nil w
  · rw [errv_pos h]; exact sameErr_eno n w hg
end Go.Proofs.YtcpookgbneoilaaDoor

namespace Go.Proofs.YtcpookgbneoilaaDoor
open Go.ChangeShapes Go.WideShapes Go.ChangeAt Go.RowKit

set_option maxHeartbeats 400000 in
theorem sameInts_yes (a : Option Addr) (n cap : Nat) (zs : List Int) (b : Option Addr) (cap2 : Nat) (w : World) (h : IntsAt w a n cap zs) (h2 : IntsAt w b n cap2 zs) :
    Calls Tryd.prog 12 #[.slice a n cap, .slice b n cap2] w fun e w' => e = .returned (.bool true) ∧ Lat w w' := by
  have hcap2 := h.row.cap
  have hle2 := h.row.le
  unfold maxLen at hcap2
  have H1 := Lib.hid h
  have H2 := Lib.hid h2
  have dn : ((n : Int) != (n : Int)) = false := by simp
  clear h h2
  go_enter Tryd.func12, Tryd.ntmps12
  go_wp2
  go_loopw [5] (fun i wr => ∃ k : Nat, k ≤ n ∧ i = .int .i64 k ∧ Hid (Lat w wr)) (fun i _ => n - (intOf i).toNat)
  case atStart => exact ⟨0, Nat.zero_le _, rfl, Lat.refl _⟩
  case round =>
    obtain ⟨k, hk, rfl, hrel⟩ := hrel
    by_cases hlt : k < n
    · obtain ⟨b1, o1, rfl, hc1⟩ := H1.out.row.at_ (by omega)
      obtain ⟨b2, o2, rfl, hc2⟩ := H2.out.row.at_ (by omega)
      have c1 := hrel.out.cell_at (hc1 k hlt)
      have c2 := hrel.out.cell_at (hc2 k hlt)
      obtain ⟨z, hz⟩ : ∃ z, z = zs.getD k 0 := ⟨_, rfl⟩
      rw [← hz] at c1 c2
      clear hc1 hc2 hz
      go_wp2
      go_quiet (fail)
      go_wp2
      go_roundw
      case rel => exact ⟨k + 1, by omega, by go_num, Lat.trans hrel.out (Lat.drewN _ _)⟩
      case measure => simp [intOf]; omega
    · go_wp2
      go_ret
      exact ⟨rfl, hrel.out⟩
end Go.Proofs.YtcpookgbneoilaaDoor

namespace Go.Proofs.YtcpookgbneoilaaDoor
open Go.ChangeShapes Go.WideShapes Go.ChangeAt Go.RowKit

set_option maxHeartbeats 2000000 in
set_option maxRecDepth 100000 in
theorem refSeeds (k : Int) (a : Option Addr) (n cap : Nat) (zs : List Int) (w : World) (h : IntsAt w a n cap zs) :
    Calls Tryd.prog 17 #[.int .i64 k, .slice a n cap] w fun e w' => e = .returned (.int .i64 (rdyE k zs : Nat)) ∧ w = w' := by
  have hlen := h.len
  have hcap := h.row.cap
  have hle := h.row.le
  unfold maxLen at hcap
  by_cases h60 : 60 < n
  · have e1 : rdyE k zs = 4 := by unfold rdyE; rw [if_pos (by omega)]
    have d1 : decide ((60 : Int) < (n : Int)) = true := decide_eq_true (by omega)
    rw [e1]
    clear h e1 h60 hlen
    go_enter Tryd.func17, Tryd.ntmps17
    go_wp2_with fail
    go_ret
    exact ⟨rfl, rfl⟩
  have d1 : decide ((60 : Int) < (n : Int)) = false := decide_eq_false (by omega)
  by_cases hk : k < 1 ∨ 16 < k
  · have e1 : rdyE k zs = 1 := by unfold rdyE; rw [if_neg (by omega), if_pos hk]
    have hq : decide (k < 1) = true ∨ (decide (k < 1) = false ∧ decide (16 < k) = true) := by simp only [decide_eq_true_eq, decide_eq_false_iff_not]; omega
    rw [e1]
    clear h e1 h60 hlen hk
    rcases hq with b1 | ⟨b1, b2⟩
    all_goals
      go_enter Tryd.func17, Tryd.ntmps17
      go_wp2_with fail
      go_ret
      exact ⟨rfl, rfl⟩
  have b1 : decide (k < 1) = false := decide_eq_false (by omega)
  have b2 : decide (16 < k) = false := decide_eq_false (by omega)
  have hE : rdyE k zs = if zs.any noSeed = true then 1 else 0 := by unfold rdyE; rw [if_neg (by omega), if_neg hk]
  have HH := Lib.hid h; have HE := Lib.hid hE; have HLEN := Lib.hid hlen
  clear h hE hlen hk h60
  go_enter Tryd.func17, Tryd.ntmps17
  go_wp2_with fail
  go_loopg [5] n (fun f iv wx => ∃ i : Nat, i + f = n ∧ iv = .int .i64 i ∧ w = wx ∧ Hid (∀ j, j < i → noSeed (zs.getD j 0) = false))
  case atStart => exact ⟨0, by omega, rfl, rfl, fun j hj => by omega⟩
  case round =>
    obtain ⟨i, hi, rfl, rfl, hrel⟩ := hrel
    by_cases hlt : i < n
    · obtain ⟨f, rfl⟩ : ∃ f, gk = f + 1 := ⟨gk - 1, by omega⟩
      have di : decide (i < n) = true := decide_eq_true hlt
      obtain ⟨b, o, rfl, hc⟩ := HH.out.row.at_ (by omega)
      have c0 := hc i hlt
      have hm := getD_mem zs i (by rw [HLEN.out]; exact hlt)
      obtain ⟨z, hz⟩ : ∃ z, z = zs.getD i 0 := ⟨_, rfl⟩
      rw [← hz] at c0 hm
      have i0 : (0 : Int) ≤ (i : Int) := by omega
      have i1 : (i : Int) < (n : Int) := by omega
      by_cases hbad : z < 1 ∨ 10000 < z
      · have hq : decide (z < 1) = true ∨ (decide (z < 1) = false ∧ decide (10000 < z) = true) := by simp only [decide_eq_true_eq, decide_eq_false_iff_not]; omega
        have e1 : rdyE k zs = 1 := by
          rw [HE.out, if_pos (List.any_eq_true.2 ⟨z, hm, by unfold noSeed; rw [decide_eq_false (by omega)]; rfl⟩)]
        have HE1 := Lib.hid e1
        clear hbad hm hz hc hrel e1
        rcases hq with z1 | ⟨z1, z2⟩
        all_goals
          go_wp2_with fail
          go_ret
          exact ⟨by rw [HE1.out]; rfl, rfl⟩
      · have z1 : decide (z < 1) = false := decide_eq_false (by omega)
        have z2 : decide (10000 < z) = false := decide_eq_false (by omega)
        have hnx : ∀ j, j < i + 1 → noSeed (zs.getD j 0) = false := fun j hj => by
          by_cases e : j = i
          · rw [e, ← hz]; unfold noSeed; rw [decide_eq_true (by omega)]; rfl
          · exact hrel.out j (by omega)
        have HNX := Lib.hid hnx
        clear hbad hm hz hc hrel hnx
        go_wp2_with fail
        go_roundg f
        case measure => omega
        case rel => exact ⟨i + 1, by omega, by go_num, rfl, HNX.out⟩
    · obtain rfl : i = n := by omega
      have di : decide (i < i) = false := decide_eq_false (by omega)
      have e1 : rdyE k zs = 0 := by
        rw [HE.out, if_neg]
        intro hh
        obtain ⟨z, hz, hb⟩ := List.any_eq_true.1 hh
        obtain ⟨j, hj, rfl⟩ := List.getElem_of_mem hz
        have := hrel.out j (by rw [← HLEN.out]; exact hj)
        rw [List.getD_eq_getElem?_getD, List.getElem?_eq_getElem hj] at this
        rw [show noSeed zs[j] = false from this] at hb
        cases hb
      have HE1 := Lib.hid e1
      clear hrel e1
      go_wp2_with fail
      go_ret
      exact ⟨by rw [HE1.out]; rfl, rfl⟩

def fT (k : Nat) (L : List Vec) : Nat → Int
  | 0 => -1
  | i + 1 => if rk k (L.take (i + 1)) = k ∧ fT k L i < 0 then ((i + 1 : Nat) : Int) else fT k L i
theorem fT_pos {k : Nat} {L : List Vec} {i : Nat} (h : 0 ≤ fT k L i) : ∀ d, fT k L (i + d) = fT k L i
  | 0 => rfl
  | d + 1 => by
    have ih := fT_pos h d
    show (if rk k (L.take (i + d + 1)) = k ∧ fT k L (i + d) < 0 then ((i + d + 1 : Nat) : Int) else fT k L (i + d)) = _
    rw [if_neg (fun e => by rw [ih] at e; omega)]; exact ih
theorem fT_fst {k : Nat} {L : List Vec} : ∀ f i, fT k L i = -1 → fT k L (i + f) = if fstA k L f i = 0 then -1 else (fstA k L f i : Int)
  | 0, i, h => by rw [show fstA k L 0 i = 0 from rfl, if_pos rfl]; exact h
  | f + 1, i, h => by
    have hs : fT k L (i + 1) = if rk k (L.take (i + 1)) = k ∧ fT k L i < 0 then ((i + 1 : Nat) : Int) else fT k L i := rfl
    have hf : fstA k L (f + 1) i = if rk k (L.take (i + 1)) = k then i + 1 else fstA k L f (i + 1) := rfl
    by_cases e : rk k (L.take (i + 1)) = k
    · rw [if_pos ⟨e, by omega⟩] at hs
      rw [hf, if_pos e, if_neg (by omega), show i + (f + 1) = (i + 1) + f by omega, fT_pos (by rw [hs]; omega), hs]
    · rw [if_neg (fun h => e h.1), h] at hs
      rw [hf, if_neg e, show i + (f + 1) = (i + 1) + f by omega]
      exact fT_fst f (i + 1) hs
theorem fT_end {k : Nat} {L : List Vec} : fT k L L.length = if fstN k L = 0 then -1 else (fstN k L : Int) := by
  have := fT_fst (k := k) (L := L) L.length 0 rfl
  rw [Nat.zero_add] at this; exact this
theorem newL_succ (k : Nat) (L : List Vec) (i : Nat) : newL k L (i + 1) = if raises k (L.take i) (L.getD i (0, [])) = true then newL k L i ++ [i] else newL k L i := rfl
theorem new_rank {k : Nat} (h64 : k ≤ 64) {L : List Vec} (h : Bare k L) {i : Nat} (hi : i < L.length) : (rk k (L.take i) < rk k (L.take (i + 1))) = (raises k (L.take i) (L.getD i (0, [])) = true) := by
  rw [take_snocV L i hi, rk_snoc h64 (h.take i) (getD_bits h i hi).2]
  cases raises k (L.take i) (L.getD i (0, [])) <;> simp
theorem rows_take (k : Nat) (zs : List Int) (i : Nat) : rowsOf k (zs.take i) = (rowsOf k zs).take i := by unfold rowsOf; rw [List.map_take]
theorem own_nats {w : World} {B : Nat} {v : Value} {l : List Nat} {n : Nat} (h : OwnInts w B v (ofNats l)) (hb : ∀ x ∈ l, x ≤ 1000000) (hn : l.length = n) : ∃ a c, v = .slice a n c ∧ IntsAt w a n c (ofNats l) := by
  refine OwnInts.sliceN h (fun z hz => ?_) (by unfold ofNats; rw [List.length_map]; exact hn)
  obtain ⟨x, hx, rfl⟩ := List.mem_map.1 hz
  have := hb x hx
  show -9223372036854775808 ≤ ((x : Nat) : Int) ∧ _
  constructor
  · omega
  · show ((x : Nat) : Int) ≤ _; omega

theorem own_lackN {w : World} {B : Nat} {v : Value} {q : Nat} {R : List Vec} {LR : List Int} (h : OwnInts w B v LR) (hl : LR = ofNats (lackL q R q)) (hq : q ≤ 16) : ∃ a c, v = .slice a LR.length c ∧ IntsAt w a LR.length c LR := by
  rw [hl] at h ⊢
  exact own_nats h (fun x hx => by have := lackL_lt q R q x hx; omega) (by unfold ofNats; rw [List.length_map])

set_option maxHeartbeats 16000000 in
set_option maxRecDepth 100000 in
theorem walk_needTells (k : Int) (a : Option Addr) (n cap : Nat) (zs : List Int) (w : World) (hg : Hnd w) (_ : (Lit.int .i64 k).wf = true) (h : IntsAt w a n cap zs) :
    Calls Tryd.prog 4 #[.int .i64 k, .slice a n cap] w fun e w' => e = .returned (.bool true) ∧ Lat w w' := by
  have hlen := h.len
  have hcap := h.row.cap
  have hle := h.row.le
  unfold maxLen at hcap
  have hse := refSeeds k a n cap zs w h
  have hfi := fun W (hW : Lat w W) => first_any k a n cap zs W (h.keep hW)
  have hne := fun W (hW : Lat w W) => new_any k a n cap zs W (h.keep hW)
  have hla := fun W (hW : Lat w W) => lacks_any k a n cap zs W (h.keep hW)
  obtain ⟨E, hE⟩ : ∃ E, E = rdyE k zs := ⟨_, rfl⟩
  rw [← hE] at hse hne hla
  obtain ⟨FE, hFE⟩ : ∃ E, E = firstE k zs := ⟨_, rfl⟩
  obtain ⟨FR, hFR⟩ : ∃ E, E = firstR k zs := ⟨_, rfl⟩
  obtain ⟨NR, hNR⟩ : ∃ E, E = newR k zs := ⟨_, rfl⟩
  obtain ⟨LR, hLR⟩ : ∃ E, E = lackR k zs := ⟨_, rfl⟩
  rw [← hFE, ← hFR] at hfi
  rw [← hNR] at hne
  rw [← hLR] at hla
  obtain ⟨F0, hF0⟩ : ∃ z : Int, z = if E = 0 then fT k.toNat (rowsOf k.toNat zs) n else -1 := ⟨_, rfl⟩
  have h3 : (E ≠ 0 ∧ FE = E ∧ FR = 0 ∧ F0 = -1) ∨ (E = 0 ∧ F0 = -1 ∧ FE = 8 ∧ FR = 0) ∨ (E = 0 ∧ 0 ≤ F0 ∧ FE = 0 ∧ F0 = (FR : Int)) := by
    rw [hFE, hFR, hF0]
    unfold firstE firstR
    rw [← hE]
    by_cases e : E = 0
    · have hend := fT_end (k := k.toNat) (L := rowsOf k.toNat zs)
      rw [rowsOf_len, hlen] at hend
      right
      have ne : ¬ (E ≠ 0) := fun h => h e
      rw [if_pos e, if_pos e, hend, if_neg ne]
      by_cases e2 : fstN k.toNat (rowsOf k.toNat zs) = 0
      · rw [if_pos e2, if_pos e2, e2]; exact .inl ⟨e, rfl, rfl, rfl⟩
      · rw [if_neg e2, if_neg e2]; exact .inr ⟨e, by omega, rfl, rfl⟩
    · left
      rw [if_neg e, if_neg e, if_pos e]; exact ⟨e, rfl, rfl, rfl⟩
  have HH := Lib.hid h; have HG := Lib.hid hg; have HSE := Lib.hid hse; have HFI := Lib.hid hfi; have HNE := Lib.hid hne; have HLA := Lib.hid hla; have HE := Lib.hid hE; have HNR := Lib.hid hNR; have HLR := Lib.hid hLR; have HF0 := Lib.hid hF0; have H3 := Lib.hid h3; have HLEN := Lib.hid hlen
  clear h hg hse hfi hne hla hE hFE hFR hNR hLR hF0 h3 hlen
  go_enter Tryd.func4, Tryd.ntmps4
  go_wp2_with fail
  refine HSE.out.mono ?_
  rintro e w1 ⟨rfl, rfl⟩
  go_upto_block 0 with fail
  go_cut [6, 7, 9, 10] from 22 to 54 (fun fi nv _ _ wx => fi = .int .i64 F0 ∧ ∃ b m c, nv = .slice b m c ∧ Hid (IntsAt wx b m c NR ∧ Lat w wx))
  case first =>
    by_cases hE : E = 0
    case neg =>
      have dE : ((E : Int) == 0) = false := by rw [beq_eq_false_iff_ne]; omega
      have e1 : F0 = -1 := by rw [HF0.out, if_neg hE]
      have e2 : NR = [] := by rw [HNR.out]; unfold newR; rw [← HE.out, if_neg hE]
      have HE1 := Lib.hid e1; have HE2 := Lib.hid e2
      clear hE e1 e2
      by_cases hn0 : 0 < n
      · have dn : decide (0 < n) = true := decide_eq_true hn0
        go_wp2_with fail
        refine wp_loop_rounds 1 ?_
        rw [rounds_succ]
        go_wp2_with fail
        go_meet
        exact ⟨by rw [HE1.out], none, 0, 0, rfl, by rw [HE2.out]; exact IntsAt.nil _, Lat.refl w⟩
      · have dn : decide (0 < n) = false := decide_eq_false hn0
        go_wp2_with fail
        refine wp_loop_rounds 1 ?_
        rw [rounds_succ]
        go_wp2_with fail
        go_meet
        exact ⟨by rw [HE1.out], none, 0, 0, rfl, by rw [HE2.out]; exact IntsAt.nil _, Lat.refl w⟩
    obtain ⟨h60, h1, h2, hz⟩ := rdyE_zero (HE.out.symm.trans hE)
    obtain ⟨q, rfl⟩ : ∃ q : Nat, k = q := ⟨k.toNat, by omega⟩
    rw [HLEN.out] at h60
    have hq1 : 1 ≤ q := by omega
    have hq2 : q ≤ 16 := by omega
    have hbare := rowsOf_bare (k := q) hq1 hz
    have hrl := rowsOf_len q zs
    rw [HLEN.out] at hrl
    have hF := HF0.out
    have hN := HNR.out
    unfold newR at hN
    rw [if_pos hE, Int.toNat_natCast] at hF
    rw [← HE.out, if_pos hE, Int.toNat_natCast, HLEN.out] at hN
    have hrk := fun i (hi : i ≤ n) W (hW : Lat w W) => refRank q a i cap (zs.take i) W ((HH.out.keep hW).take i hi) hq1 hq2 (fun z hm => hz z (List.mem_of_mem_take hm)) (by omega)
    have hnr := fun i (hi : i < n) => new_rank (k := q) (by omega) hbare (i := i) (by rw [hrl]; exact hi)
    have hnl := newL_succ q (rowsOf q zs)
    have hnle := newL_le q (rowsOf q zs)
    have hnlt := newL_lt q (rowsOf q zs)
    have hft : ∀ i, fT q (rowsOf q zs) (i + 1) = if rk q ((rowsOf q zs).take (i + 1)) = q ∧ fT q (rowsOf q zs) i < 0 then ((i + 1 : Nat) : Int) else fT q (rowsOf q zs) i := fun i => rfl
    have hft0 : fT q (rowsOf q zs) 0 = -1 := rfl
    have hn0 : newL q (rowsOf q zs) 0 = [] := rfl
    have hr0 : rk q ((rowsOf q zs).take 0) = 0 := by rw [List.take_zero]; exact rk_nil q
    have hkle := fun i => rk_le q ((rowsOf q zs).take i)
    have hrk2 := fun i (hi : i ≤ n) W (hW : Lat w W) => (rows_take q zs i) ▸ hrk i hi W hW
    obtain ⟨R, hR⟩ : ∃ R, R = rowsOf q zs := ⟨_, rfl⟩
    rw [← hR] at hF hN hnr hnl hnle hnlt hft hft0 hn0 hr0 hkle hrk2
    have dE : ((E : Int) == 0) = true := by rw [beq_iff_eq]; omega
    have HRK := Lib.hid hrk2; have HNRK := Lib.hid hnr; have HNL := Lib.hid hnl; have HNLE := Lib.hid hnle; have HNLT := Lib.hid hnlt; have HFT := Lib.hid hft; have HFT0 := Lib.hid hft0; have HN0 := Lib.hid hn0; have HR0 := Lib.hid hr0; have HKLE := Lib.hid hkle; have HFF := Lib.hid hF; have HNN := Lib.hid hN
    clear hE h1 h2 hz hbare hrl hF hN hrk hrk2 hnr hnl hnle hnlt hft hft0 hn0 hr0 hkle hR HSE HFI HNE HLA
    go_wp2_with fail
    go_loopg [6, 7, 9, 10] n (fun f fi nv wv iv wx => ∃ i : Nat, i + f = n ∧ iv = .int .i64 i ∧ fi = .int .i64 (fT q R i) ∧ wv = .int .i64 (rk q (R.take i) : Nat) ∧ Hid (OwnInts wx w.heap.size nv (ofNats (newL q R i)) ∧ Lat w wx))
    case atStart => exact ⟨0, by omega, rfl, by rw [HFT0.out], by rw [HR0.out]; rfl, by rw [HN0.out]; exact Own.nil _ _ _, Lat.refl w⟩
    case round =>
      obtain ⟨i, hi, rfl, rfl, rfl, hrel⟩ := hrel
      by_cases hlt : i < n
      · obtain ⟨f, rfl⟩ : ∃ f, gk = f + 1 := ⟨gk - 1, by omega⟩
        have di : decide (i < n) = true := decide_eq_true hlt
        obtain ⟨j, hj⟩ : ∃ j, j = i + 1 := ⟨_, rfl⟩
        have hjI : (i : Int) + 1 = (j : Int) := by omega
        have hrk := HRK.out j (by omega) wr hrel.out.2
        have hnrk := HNRK.out i hlt
        have hnl := HNL.out i
        have hft := HFT.out i
        have hnle := HNLE.out i
        have hkl := HKLE.out j
        rw [← hj] at hnrk hnl hft
        obtain ⟨r1, hr1⟩ : ∃ r, r = rk q (R.take i) := ⟨_, rfl⟩
        obtain ⟨r2, hr2⟩ : ∃ r, r = rk q (R.take j) := ⟨_, rfl⟩
        obtain ⟨f1, hf1⟩ : ∃ r, r = fT q R i := ⟨_, rfl⟩
        rw [← hr1, ← hr2] at hnrk
        rw [← hr2] at hrk hft hkl
        rw [← hf1] at hft ⊢
        rw [← hr1]
        obtain ⟨f2, hf2⟩ : ∃ z, z = fT q R j := ⟨_, rfl⟩
        rw [← hf2] at hft
        have hjn : (j : Int) ≤ (n : Int) := by omega
        have hj0 : (0 : Int) ≤ (j : Int) := by omega
        have hjc : (j : Int) ≤ (cap : Int) := by omega
        have HRKJ := Lib.hid hrk; have HFT2 := Lib.hid hft; have HREL := Lib.hid hrel.out; have HNL2 := Lib.hid hnl; have HNLE2 := Lib.hid hnle; have HJ := Lib.hid hj; have HR2 := Lib.hid hr2; have HF2 := Lib.hid hf2; have HNK := Lib.hid hnrk
        clear hrk hft hrel hnl hnle hj hr1 hr2 hf1 hf2 hnrk
        go_wp2_with fail
        refine HRKJ.out.mono ?_
        rintro e w2 ⟨rfl, hb2⟩
        have HREL2 := Lib.hid (And.intro (Own.keep HREL.out.1 hb2) (HREL.out.2.trans hb2))
        clear hb2 HREL HRKJ
        by_cases hgt : r1 < r2
        · have dg : decide (r1 < r2) = true := decide_eq_true hgt
          have hnv := HNL2.out
          rw [if_pos (HNK.out ▸ hgt)] at hnv
          have HNV := Lib.hid hnv
          clear hnv hgt HNL2 HNK
          go_upto_region 12 with (at_builtin; refine app_intF w2 w.heap.size rfl (.tmp 41) (.tmp 43) rfl u7 (ofNats (newL q R i)) (i : Int) rfl HREL2.out.1 rfl (by unfold ofNats; rw [List.length_map]; have := HNLE2.out; omega) HREL2.out.2.size ?_; intro v3 w3 hown3 hfr3)
          have hlat3 := hfr3.lat_of HREL2.out.2 (fun k hk => (Own.lt HREL2.out.1 k hk).1)
          have ho3 : OwnInts w3 w.heap.size v3 (ofNats (newL q R j)) := by
            rw [HNV.out]; unfold ofNats at hown3 ⊢; rw [List.map_append]; exact hown3
          have HREL3 := Lib.hid (And.intro ho3 hlat3)
          clear hown3 hfr3 hlat3 ho3 HREL2
          by_cases hrq : r2 = q
          · have dq : ((r2 : Int) == (q : Int)) = true := by rw [beq_iff_eq]; omega
            by_cases hf : f1 < 0
            · have df : decide (f1 < 0) = true := decide_eq_true hf
              have hfv : f2 = (j : Int) := by rw [HFT2.out, if_pos ⟨hrq, hf⟩, HJ.out]
              have HFV := Lib.hid hfv
              clear hfv hrq hf
              go_wp2_with fail
              go_roundg f
              case measure => omega
              case rel => exact ⟨i + 1, by omega, by go_num, by rw [← HJ.out, ← HF2.out, HFV.out], by rw [← HJ.out, ← HR2.out], by rw [← HJ.out]; exact HREL3.out⟩
            · have df : decide (f1 < 0) = false := decide_eq_false hf
              have hfv : f2 = f1 := by rw [HFT2.out, if_neg (fun h => hf h.2)]
              have HFV := Lib.hid hfv
              clear hfv hrq hf
              go_wp2_with fail
              go_roundg f
              case measure => omega
              case rel => exact ⟨i + 1, by omega, by go_num, by rw [← HJ.out, ← HF2.out, HFV.out], by rw [← HJ.out, ← HR2.out], by rw [← HJ.out]; exact HREL3.out⟩
          · have dq : ((r2 : Int) == (q : Int)) = false := by rw [beq_eq_false_iff_ne]; omega
            have hfv : f2 = f1 := by rw [HFT2.out, if_neg (fun h => hrq h.1)]
            have HFV := Lib.hid hfv
            clear hfv hrq
            go_wp2_with fail
            go_roundg f
            case measure => omega
            case rel => exact ⟨i + 1, by omega, by go_num, by rw [← HJ.out, ← HF2.out, HFV.out], by rw [← HJ.out, ← HR2.out], by rw [← HJ.out]; exact HREL3.out⟩
        · have dg : decide (r1 < r2) = false := decide_eq_false hgt
          have hnv := HNL2.out
          rw [if_neg (fun e => hgt (HNK.out ▸ e))] at hnv
          have hr3 : OwnInts w2 w.heap.size u7 (ofNats (newL q R j)) ∧ Lat w w2 := by rw [hnv]; exact HREL2.out
          have HREL3 := Lib.hid hr3
          clear hnv hgt HNL2 HNK HREL2 hr3
          by_cases hrq : r2 = q
          · have dq : ((r2 : Int) == (q : Int)) = true := by rw [beq_iff_eq]; omega
            by_cases hf : f1 < 0
            · have df : decide (f1 < 0) = true := decide_eq_true hf
              have hfv : f2 = (j : Int) := by rw [HFT2.out, if_pos ⟨hrq, hf⟩, HJ.out]
              have HFV := Lib.hid hfv
              clear hfv hrq hf
              go_wp2_with fail
              go_roundg f
              case measure => omega
              case rel => exact ⟨i + 1, by omega, by go_num, by rw [← HJ.out, ← HF2.out, HFV.out], by rw [← HJ.out, ← HR2.out], by rw [← HJ.out]; exact HREL3.out⟩
            · have df : decide (f1 < 0) = false := decide_eq_false hf
              have hfv : f2 = f1 := by rw [HFT2.out, if_neg (fun h => hf h.2)]
              have HFV := Lib.hid hfv
              clear hfv hrq hf
              go_wp2_with fail
              go_roundg f
              case measure => omega
              case rel => exact ⟨i + 1, by omega, by go_num, by rw [← HJ.out, ← HF2.out, HFV.out], by rw [← HJ.out, ← HR2.out], by rw [← HJ.out]; exact HREL3.out⟩
          · have dq : ((r2 : Int) == (q : Int)) = false := by rw [beq_eq_false_iff_ne]; omega
            have hfv : f2 = f1 := by rw [HFT2.out, if_neg (fun h => hrq h.1)]
            have HFV := Lib.hid hfv
            clear hfv hrq
            go_wp2_with fail
            go_roundg f
            case measure => omega
            case rel => exact ⟨i + 1, by omega, by go_num, by rw [← HJ.out, ← HF2.out, HFV.out], by rw [← HJ.out, ← HR2.out], by rw [← HJ.out]; exact HREL3.out⟩
      · obtain rfl : i = n := by omega
        have di : decide (i < i) = false := decide_eq_false (by omega)
        obtain ⟨a7, c7, rfl, hi7⟩ := own_nats hrel.out.1 (fun x hx => by have := HNLT.out i x hx; omega) rfl
        rw [← HNN.out] at hi7
        have HI7 := Lib.hid hi7; have HL7 := Lib.hid hrel.out.2
        clear hrel hi7
        go_wp2_with fail
        go_meet
        exact ⟨by rw [HFF.out], _, _, _, rfl, HI7.out, HL7.out⟩
  case rest =>
    obtain ⟨rfl, b7, m7, c7, rfl, hr7⟩ := hcut
    have HR7 := Lib.hid hr7.out
    clear hr7
    rcases H3.out with ⟨hE, rfl, rfl, rfl⟩ | ⟨hE, rfl, rfl, rfl⟩ | ⟨hE, hF, hFE, rfl⟩
    · have dE : ((FE : Int) == 0) = false := by rw [beq_eq_false_iff_ne]; omega
      have dEn : ((FE : Int) != 0) = true := by rw [bne_iff_ne]; omega
      have hlr : LR = [] := by rw [HLR.out]; unfold lackR; rw [← HE.out, if_neg hE]
      have HLR2 := Lib.hid hlr
      clear hE hlr H3 HF0 HSE
      go_wp2_with fail
      refine (HFI.out _ HR7.out.2).mono ?_
      rintro e w3 ⟨rfl, hb3⟩
      have HL3 := Lib.hid (HR7.out.2.trans hb3); have HI3 := Lib.hid (HR7.out.1.keep hb3)
      clear hb3 HR7
      go_wp2_with fail
      refine (sameErr_any FE w3 (HG.out.keep HL3.out)).mono ?_
      rintro e w4 ⟨rfl, hb4⟩
      have HL4 := Lib.hid (HL3.out.trans hb4); have HI4 := Lib.hid (HI3.out.keep hb4)
      clear hb4 HL3 HI3
      go_wp2_with fail
      refine (HNE.out _ HL4.out).mono ?_
      rintro e w5 ⟨⟨b5, m5, c5, rfl, hi5⟩, hb5⟩
      obtain rfl : m7 = m5 := by rw [← hi5.len, ← HI4.out.len]
      have HL5 := Lib.hid (HL4.out.trans hb5); have HI5 := Lib.hid (HI4.out.keep hb5); have HJ5 := Lib.hid hi5
      clear hb5 HL4 HI4 hi5
      go_wp2_with fail
      refine (sameErr_any FE w5 (HG.out.keep HL5.out)).mono ?_
      rintro e w6 ⟨rfl, hb6⟩
      have HL6 := Lib.hid (HL5.out.trans hb6); have HI6 := Lib.hid (HI5.out.keep hb6); have HJ6 := Lib.hid (HJ5.out.keep hb6)
      clear hb6 HL5 HI5 HJ5
      go_wp2_with fail
      refine (sameInts_yes b5 m7 c5 NR b7 c7 w6 HJ6.out HI6.out).mono ?_
      rintro e w7 ⟨rfl, hb7⟩
      have HL7 := Lib.hid (HL6.out.trans hb7)
      clear hb7 HL6 HI6 HJ6
      have HL8 := Lib.hid HL7.out
      have HI8 : Hid (IntsAt w7 none 0 0 LR) := by rw [HLR2.out]; exact IntsAt.nil _
      clear HL7
      go_wp2_with fail
      refine (HLA.out _ HL8.out).mono ?_
      rintro e w9 ⟨⟨b9, m9, c9, rfl, hi9⟩, hb9⟩
      obtain rfl : 0 = m9 := by rw [← hi9.len, ← HI8.out.len]
      have HL9 := Lib.hid (HL8.out.trans hb9); have HI9 := Lib.hid (HI8.out.keep hb9); have HJ9 := Lib.hid hi9
      clear hb9 HL8 HI8 hi9
      go_wp2_with fail
      refine (sameErr_any FE w9 (HG.out.keep HL9.out)).mono ?_
      rintro e w10 ⟨rfl, hb10⟩
      have HL10 := Lib.hid (HL9.out.trans hb10); have HI10 := Lib.hid (HI9.out.keep hb10); have HJ10 := Lib.hid (HJ9.out.keep hb10)
      clear hb10 HL9 HI9 HJ9
      go_wp2_with fail
      refine (sameInts_yes b9 _ c9 LR _ _ w10 HJ10.out HI10.out).mono ?_
      rintro e w11 ⟨rfl, hb11⟩
      have HL11 := Lib.hid (HL10.out.trans hb11)
      clear hb11 HL10 HI10 HJ10
      go_wp2_with fail
      go_ret
      exact ⟨rfl, HL11.out⟩
    · obtain ⟨h60, h1, h2, hz⟩ := rdyE_zero (HE.out.symm.trans hE)
      obtain ⟨q, rfl⟩ : ∃ q : Nat, k = q := ⟨k.toNat, by omega⟩
      rw [HLEN.out] at h60
      have hrl := fun W (hW : Lat w W) => refLacks q a n cap zs W (HH.out.keep hW) (by omega) (by omega) hz h60
      have hlr := HLR.out
      unfold lackR at hlr
      rw [← HE.out, if_pos hE, Int.toNat_natCast] at hlr
      have HRL := Lib.hid hrl; have HLR2 := Lib.hid hlr; have HQ := Lib.hid (show q ≤ 16 by omega)
      have dE : ((E : Int) == 0) = true := by rw [beq_iff_eq]; omega
      have dEn : ((E : Int) != 0) = false := by rw [bne_eq_false_iff_eq]; omega
      clear hE h60 h1 h2 hz hrl hlr H3 HF0 HSE
      go_wp2_with fail
      refine (HFI.out _ HR7.out.2).mono ?_
      rintro e w3 ⟨rfl, hb3⟩
      have HL3 := Lib.hid (HR7.out.2.trans hb3); have HI3 := Lib.hid (HR7.out.1.keep hb3)
      clear hb3 HR7
      go_wp2_with fail
      refine (sameErr_any 8 w3 (HG.out.keep HL3.out)).mono ?_
      rintro e w4 ⟨rfl, hb4⟩
      have HL4 := Lib.hid (HL3.out.trans hb4); have HI4 := Lib.hid (HI3.out.keep hb4)
      clear hb4 HL3 HI3
      go_wp2_with fail
      refine (HNE.out _ HL4.out).mono ?_
      rintro e w5 ⟨⟨b5, m5, c5, rfl, hi5⟩, hb5⟩
      obtain rfl : m7 = m5 := by rw [← hi5.len, ← HI4.out.len]
      have HL5 := Lib.hid (HL4.out.trans hb5); have HI5 := Lib.hid (HI4.out.keep hb5); have HJ5 := Lib.hid hi5
      clear hb5 HL4 HI4 hi5
      go_wp2_with fail
      refine (sameErr_any E w5 (HG.out.keep HL5.out)).mono ?_
      rintro e w6 ⟨rfl, hb6⟩
      have HL6 := Lib.hid (HL5.out.trans hb6); have HI6 := Lib.hid (HI5.out.keep hb6); have HJ6 := Lib.hid (HJ5.out.keep hb6)
      clear hb6 HL5 HI5 HJ5
      go_wp2_with fail
      refine (sameInts_yes b5 m7 c5 NR b7 c7 w6 HJ6.out HI6.out).mono ?_
      rintro e w7 ⟨rfl, hb7⟩
      have HL7 := Lib.hid (HL6.out.trans hb7)
      clear hb7 HL6 HI6 HJ6
      go_wp2_with fail
      refine (HRL.out w7 HL7.out).mono ?_
      rintro e w8 ⟨v8, rfl, ho8, hb8⟩
      rw [← HLR2.out] at ho8
      obtain ⟨lb, lc, rfl, hi8⟩ := own_lackN ho8 HLR2.out HQ.out
      have HL8 := Lib.hid (HL7.out.trans hb8); have HI8 := Lib.hid hi8
      clear hb8 ho8 hi8 HL7
      go_wp2_with fail
      refine (HLA.out _ HL8.out).mono ?_
      rintro e w9 ⟨⟨b9, m9, c9, rfl, hi9⟩, hb9⟩
      obtain rfl : LR.length = m9 := by rw [← hi9.len, ← HI8.out.len]
      have HL9 := Lib.hid (HL8.out.trans hb9); have HI9 := Lib.hid (HI8.out.keep hb9); have HJ9 := Lib.hid hi9
      clear hb9 HL8 HI8 hi9
      go_wp2_with fail
      refine (sameErr_any E w9 (HG.out.keep HL9.out)).mono ?_
      rintro e w10 ⟨rfl, hb10⟩
      have HL10 := Lib.hid (HL9.out.trans hb10); have HI10 := Lib.hid (HI9.out.keep hb10); have HJ10 := Lib.hid (HJ9.out.keep hb10)
      clear hb10 HL9 HI9 HJ9
      go_wp2_with fail
      refine (sameInts_yes b9 _ c9 LR _ _ w10 HJ10.out HI10.out).mono ?_
      rintro e w11 ⟨rfl, hb11⟩
      have HL11 := Lib.hid (HL10.out.trans hb11)
      clear hb11 HL10 HI10 HJ10
      go_wp2_with fail
      go_ret
      exact ⟨rfl, HL11.out⟩
    · obtain ⟨h60, h1, h2, hz⟩ := rdyE_zero (HE.out.symm.trans hE)
      obtain ⟨q, rfl⟩ : ∃ q : Nat, k = q := ⟨k.toNat, by omega⟩
      rw [HLEN.out] at h60
      have hrl := fun W (hW : Lat w W) => refLacks q a n cap zs W (HH.out.keep hW) (by omega) (by omega) hz h60
      have hlr := HLR.out
      unfold lackR at hlr
      rw [← HE.out, if_pos hE, Int.toNat_natCast] at hlr
      have HRL := Lib.hid hrl; have HLR2 := Lib.hid hlr; have HQ := Lib.hid (show q ≤ 16 by omega)
      have dE : ((E : Int) == 0) = true := by rw [beq_iff_eq]; omega
      have dEn : ((E : Int) != 0) = false := by rw [bne_eq_false_iff_eq]; omega
      obtain rfl : FE = E := by omega
      have dF : decide ((FR : Int) < 0) = false := decide_eq_false (by omega)
      clear hE h60 h1 h2 hz hrl hlr H3 HF0 HSE hF hFE
      go_wp2_with fail
      refine (HFI.out _ HR7.out.2).mono ?_
      rintro e w3 ⟨rfl, hb3⟩
      have HL3 := Lib.hid (HR7.out.2.trans hb3); have HI3 := Lib.hid (HR7.out.1.keep hb3)
      clear hb3 HR7
      go_wp2_with fail
      refine (sameErr_any FE w3 (HG.out.keep HL3.out)).mono ?_
      rintro e w4 ⟨rfl, hb4⟩
      have HL4 := Lib.hid (HL3.out.trans hb4); have HI4 := Lib.hid (HI3.out.keep hb4)
      clear hb4 HL3 HI3
      go_wp2_with fail
      refine (HNE.out _ HL4.out).mono ?_
      rintro e w5 ⟨⟨b5, m5, c5, rfl, hi5⟩, hb5⟩
      obtain rfl : m7 = m5 := by rw [← hi5.len, ← HI4.out.len]
      have HL5 := Lib.hid (HL4.out.trans hb5); have HI5 := Lib.hid (HI4.out.keep hb5); have HJ5 := Lib.hid hi5
      clear hb5 HL4 HI4 hi5
      go_wp2_with fail
      refine (sameErr_any FE w5 (HG.out.keep HL5.out)).mono ?_
      rintro e w6 ⟨rfl, hb6⟩
      have HL6 := Lib.hid (HL5.out.trans hb6); have HI6 := Lib.hid (HI5.out.keep hb6); have HJ6 := Lib.hid (HJ5.out.keep hb6)
      clear hb6 HL5 HI5 HJ5
      go_wp2_with fail
      refine (sameInts_yes b5 m7 c5 NR b7 c7 w6 HJ6.out HI6.out).mono ?_
      rintro e w7 ⟨rfl, hb7⟩
      have HL7 := Lib.hid (HL6.out.trans hb7)
      clear hb7 HL6 HI6 HJ6
      go_wp2_with fail
      refine (HRL.out w7 HL7.out).mono ?_
      rintro e w8 ⟨v8, rfl, ho8, hb8⟩
      rw [← HLR2.out] at ho8
      obtain ⟨lb, lc, rfl, hi8⟩ := own_lackN ho8 HLR2.out HQ.out
      have HL8 := Lib.hid (HL7.out.trans hb8); have HI8 := Lib.hid hi8
      clear hb8 ho8 hi8 HL7
      go_wp2_with fail
      refine (HLA.out _ HL8.out).mono ?_
      rintro e w9 ⟨⟨b9, m9, c9, rfl, hi9⟩, hb9⟩
      obtain rfl : LR.length = m9 := by rw [← hi9.len, ← HI8.out.len]
      have HL9 := Lib.hid (HL8.out.trans hb9); have HI9 := Lib.hid (HI8.out.keep hb9); have HJ9 := Lib.hid hi9
      clear hb9 HL8 HI8 hi9
      go_wp2_with fail
      refine (sameErr_any FE w9 (HG.out.keep HL9.out)).mono ?_
      rintro e w10 ⟨rfl, hb10⟩
      have HL10 := Lib.hid (HL9.out.trans hb10); have HI10 := Lib.hid (HI9.out.keep hb10); have HJ10 := Lib.hid (HJ9.out.keep hb10)
      clear hb10 HL9 HI9 HJ9
      go_wp2_with fail
      refine (sameInts_yes b9 _ c9 LR _ _ w10 HJ10.out HI10.out).mono ?_
      rintro e w11 ⟨rfl, hb11⟩
      have HL11 := Lib.hid (HL10.out.trans hb11)
      clear hb11 HL10 HI10 HJ10
      go_wp2_with fail
      go_ret
      exact ⟨rfl, HL11.out⟩
end Go.Proofs.YtcpookgbneoilaaDoor

