import Derived.Test.YtcpookgbneoilaaDoorBase
import Derived.LaidEql
import Derived.Stop.Asserts
import Derived.RowKitTokens
import Derived.ChangeVars
import Derived.JoinedOf
import Derived.LaidLaws
import Derived.LaidHandle
import Derived.Stop.Joined
import Derived.Test.YtcpookgbneoilaaDoorGate
import Derived.Test.YtcpookgbneoilaaDoorSolveTellsV
import Derived.Test.YtcpookgbneoilaaDoorRefRow
import Derived.Maps.AppendAt
import Derived.Deep.DeepCutAuto
import Derived.Test.YtcpookgbneoilaaDoorDegreePlain
import Derived.Test.YtcpookgbneoilaaDoorRefMix
import Derived.Test.YtcpookgbneoilaaDoorRefClear
import Derived.Test.YtcpookgbneoilaaDoorMix
import Derived.Test.YtcpookgbneoilaaDoorMapF
import Derived.Deep.CutRange
import Derived.Test.YtcpookgbneoilaaDoorSort
import Derived.Shelf.Slices.In.SortNone
import Derived.Test.YtcpookgbneoilaaDoorOwnC
import Derived.Test.YtcpookgbneoilaaDoorRefTabPl
import Derived.Test.YtcpookgbneoilaaDoorFr
import Derived.Test.YtcpookgbneoilaaDoorOwnB
import Derived.Test.YtcpookgbneoilaaDoorOwn
namespace Go.Proofs.YtcpookgbneoilaaDoor
open Go.RowKit Go.Extern.Stop Go.Stop Go.Extern

def Hnd (w : World) : Prop := w.cell? ⟨0, 0, none⟩ = some (.iface 132 (.agg #[.pointer (some ⟨1, 25, none⟩)]))
theorem Hnd.keep {w w' : World} (h : Hnd w) (hb : Below w.heap.size w w') : Hnd w' := Lat.cell_at hb h

/-! Closed facts on the model's entries for internal/reflectlite: P: *api.Errno, E: api.Errno. -/
theorem valueOfP (t : Addr) (w : World) : (ReflectliteValue.unpack (.iface 97 (.pointer (some t)))).run Tryd.prog w
    = .ok (.agg #[.pointer (some ⟨1, 97, none⟩), .pointer (some ⟨w.heap.size, 0, none⟩), .int .u64 150]) (w.alloc (.cells #[.pointer (some t)] 97)) := by kernel_rfl
theorem typeP (a : Addr) (w : World) : (ReflectliteValue.methodAny (ReflectliteValue.valueError "reflectlite.Value.Type" 0) (fun t _ _ _ => ReflectliteType.toType t) #[.agg #[.pointer (some ⟨1, 97, none⟩), .pointer (some a), .int .u64 150]]).run Tryd.prog w
    = .ok (.iface 132 (.agg #[.pointer (some ⟨1, 97, none⟩)])) w := by kernel_rfl
theorem methodKind (h : Value) (w : World) : (Go.method 295 132 (.agg #[h]) "Kind").run Tryd.prog w = .ok (109, h) w := by kernel_rfl
theorem kindP (w : World) : ((ReflectliteType.abiMethod fun t => (fun a : Nat => Value.int IntKind.u8 (a : Int)) <$> Rtype.kind t) #[.pointer (some ⟨1, 97, none⟩)]).run Tryd.prog w = .ok (.int .u8 22) w := by kernel_rfl
theorem kindE (w : World) : ((ReflectliteType.abiMethod fun t => (fun a : Nat => Value.int IntKind.u8 (a : Int)) <$> Rtype.kind t) #[.pointer (some ⟨1, 62, none⟩)]).run Tryd.prog w = .ok (.int .u8 2) w := by kernel_rfl
theorem rlm (z : Sem Value) (f : TypeId → Addr → Nat → Nat → Sem Value) (v : Value) :
    ReflectliteValue.method z f #[v] = (do match ← ReflectliteValue.parts v with | none => z | some (t, a, fl) => f t a fl (fl % 32)) := rfl
theorem partsP (a : Addr) (w : World) : (ReflectliteValue.parts (.agg #[.pointer (some ⟨1, 97, none⟩), .pointer (some a), .int .u64 150])).run Tryd.prog w = .ok (some (97, a, 150)) w := by kernel_rfl
theorem isNilP (a p : Addr) (W : World) (ha : W.cell? a = some (.pointer (some p))) :
    (ReflectliteValue.method (ReflectliteValue.valueError "reflectlite.Value.IsNil" 0) ReflectliteValue.isNil #[.agg #[.pointer (some ⟨1, 97, none⟩), .pointer (some a), .int .u64 150]]).run Tryd.prog W = .ok (.bool false) W := by
  rw [rlm]
  simp only [Sem.run_bind, partsP, Result.andThen]
  simp [ReflectliteValue.isNil, loadVar, isAgg, underlying, Tryd.underlying97, ha, Result.andThen]
theorem methodElem (h : Value) (w : World) : (Go.method 295 132 (.agg #[h]) "Elem").run Tryd.prog w = .ok (119, .agg #[h]) w := by kernel_rfl
theorem methodImplements (h : Value) (w : World) : (Go.method 295 132 (.agg #[h]) "Implements").run Tryd.prog w = .ok (120, .agg #[h]) w := by kernel_rfl
theorem methodAssignableTo (h : Value) (w : World) : (Go.method 295 132 (.agg #[h]) "AssignableTo").run Tryd.prog w = .ok (117, .agg #[h]) w := by kernel_rfl
theorem elemP (w : World) : (ReflectliteType.method ReflectliteType.elem #[.agg #[.pointer (some ⟨1, 97, none⟩)]]).run Tryd.prog w = .ok (.iface 132 (.agg #[.pointer (some ⟨1, 62, none⟩)])) w := by kernel_rfl
theorem implementsE (w : World) : (ReflectliteType.relation "Implements" ReflectliteType.implements_ #[.agg #[.pointer (some ⟨1, 62, none⟩)], .iface 132 (.agg #[.pointer (some ⟨1, 25, none⟩)])]).run Tryd.prog w = .ok (.bool true) w := by kernel_rfl
theorem typeOfE (v : Value) (w : World) : (ReflectliteType.typeOf #[.iface 62 v]).run Tryd.prog w = .ok (.iface 132 (.agg #[.pointer (some ⟨1, 62, none⟩)])) w := by kernel_rfl
theorem assignableE (w : World) : (ReflectliteType.relation "AssignableTo" ReflectliteType.assignableTo #[.agg #[.pointer (some ⟨1, 62, none⟩)], .iface 132 (.agg #[.pointer (some ⟨1, 62, none⟩)])]).run Tryd.prog w = .ok (.bool true) w := by kernel_rfl
theorem valueOfE (n : Int) (w : World) : (ReflectliteValue.unpack (.iface 62 (.int .i64 n))).run Tryd.prog w
    = .ok (.agg #[.pointer (some ⟨1, 62, none⟩), .pointer (some ⟨w.heap.size, 0, none⟩), .int .u64 130]) (w.alloc (.cells #[.int .i64 n] 62)) := by kernel_rfl
theorem elemOfP (w : World) : (Rtype.elem? 97).run Tryd.prog w = .ok (some 62) w := by kernel_rfl
theorem mkE (p : Addr) (w : World) : (ReflectliteValue.mk 62 p ReflectliteValue.flagAddr).run Tryd.prog w = .ok (.agg #[.pointer (some ⟨1, 62, none⟩), .pointer (some p), .int .u64 386]) w := by kernel_rfl
theorem elemVP (a p : Addr) (W : World) (ha : W.cell? a = some (.pointer (some p))) :
    (ReflectliteValue.method (ReflectliteValue.valueError "reflectlite.Value.Elem" 0) ReflectliteValue.elem #[.agg #[.pointer (some ⟨1, 97, none⟩), .pointer (some a), .int .u64 150]]).run Tryd.prog W
      = .ok (.agg #[.pointer (some ⟨1, 62, none⟩), .pointer (some p), .int .u64 386]) W := by
  rw [rlm]
  simp only [Sem.run_bind, partsP, Result.andThen]
  simp [ReflectliteValue.elem, loadVar, isAgg, underlying, Tryd.underlying97, ha, Result.andThen, elemOfP, mkE]
theorem rls (v x : Value) : ReflectliteValue.set #[v, x] = (do
    let (some (dst, a, fl), some (src, b, _)) := (← ReflectliteValue.parts v, ← ReflectliteValue.parts x)
      | unsupported (.noEntry "extern/(internal/reflectlite.Value).Set.zeroValue")
    if fl / ReflectliteValue.flagAddr % 2 == 0 then unsupported (.noEntry "extern/(internal/reflectlite.Value).Set.unaddressable")
    let val ← loadVar src b
    if ← Rtype.directlyAssignable dst src then storeVar dst a val
    else if ← Rtype.implements dst src then
      if (← Rtype.kind src) == 20 then
        match val with
        | .nilIface => unsupported (.noEntry "extern/reflectlite: a nil value of one interface type handed on as a value of another")
        | _ => storeVar dst a val
      else storeVar dst a (.iface src val)
    else panicString ("reflectlite.Set: value of type " ++ (← Rtype.spelt src) ++ " is not assignable to type " ++ (← Rtype.spelt dst))
    pure (.tuple #[])) := rfl
theorem partsEa (a : Addr) (w : World) : (ReflectliteValue.parts (.agg #[.pointer (some ⟨1, 62, none⟩), .pointer (some a), .int .u64 386])).run Tryd.prog w = .ok (some (62, a, 386)) w := by kernel_rfl
theorem partsE (a : Addr) (w : World) : (ReflectliteValue.parts (.agg #[.pointer (some ⟨1, 62, none⟩), .pointer (some a), .int .u64 130])).run Tryd.prog w = .ok (some (62, a, 130)) w := by kernel_rfl
theorem directE (w : World) : (Rtype.directlyAssignable 62 62).run Tryd.prog w = .ok true w := by kernel_rfl
theorem setE (ta b : Addr) (n : Int) (old : Value) (W : World) (hb : W.cell? b = some (.int .i64 n)) (ht : W.cell? ta = some old) (hf : W.frozen? ta = false) :
    (ReflectliteValue.set #[.agg #[.pointer (some ⟨1, 62, none⟩), .pointer (some ta), .int .u64 386], .agg #[.pointer (some ⟨1, 62, none⟩), .pointer (some b), .int .u64 130]]).run Tryd.prog W
      = .ok (.tuple #[]) (W.setCell ta (.int .i64 n)) := by
  rw [rls]
  simp only [Sem.run_bind, partsEa, partsE, Result.andThen]
  simp [ReflectliteValue.flagAddr, loadVar, isAgg, underlying, Tryd.underlying62, hb, Result.andThen, directE, storeVar, Value.cells, storeCells, Addr.add]
  rw [run_store Tryd.prog W ta _ _ (by rfl)]
  simp [ht, hf]

set_option maxHeartbeats 4000000 in
theorem as_hit (n : Int) (t : Addr) (old : Value) (w : World) (hg : Hnd w) (ht0 : w.cell? t = some old) (hf0 : w.frozen? t = false) :
    Calls Tryd.prog 48 #[eno n, .iface 97 (.pointer (some t))] w fun ev w' => ev = .returned (.bool true) ∧ w' = ((((w.alloc (.cells #[.pointer (some t)] 97)).alloc (.cells #[.pointer (some ⟨1, 97, none⟩), .pointer (some ⟨w.heap.size, 0, none⟩), .int .u64 150] 116)).alloc (.cells #[.pointer (some ⟨1, 97, none⟩), .pointer (some ⟨w.heap.size, 0, none⟩), .int .u64 150] 116)).alloc (.cells #[.int .i64 n] 62)).setCell t (.int .i64 n) := by
  have h6 := @run_callFunc_extern Tryd.prog 66 _ (fun args => ReflectliteValue.unpack (args.getD 0 (.tuple #[]))) Tryd.func66 (by kernel_rfl) (by kernel_rfl) (by kernel_rfl) (by kernel_rfl)
  have h7 := @run_callFunc_extern Tryd.prog 67 _ (ReflectliteValue.methodAny (ReflectliteValue.valueError "reflectlite.Value.Type" 0) (fun t _ _ _ => ReflectliteType.toType t)) Tryd.func67 (by kernel_rfl) (by kernel_rfl) (by kernel_rfl) (by kernel_rfl)
  have h8 := @run_callFunc_extern Tryd.prog 68 _ (ReflectliteValue.method (ReflectliteValue.valueError "reflectlite.Value.IsNil" 0) ReflectliteValue.isNil) Tryd.func68 (by kernel_rfl) (by kernel_rfl) (by kernel_rfl) (by kernel_rfl)
  have h27 := @run_callFunc_extern Tryd.prog 109 _ (ReflectliteType.abiMethod fun t => do pure (.int .u8 (← Rtype.kind t))) Tryd.func109 (by kernel_rfl) (by kernel_rfl) (by kernel_rfl) (by kernel_rfl)
  have h37 := @run_callFunc_extern Tryd.prog 119 _ (ReflectliteType.method ReflectliteType.elem) Tryd.func119 (by kernel_rfl) (by kernel_rfl) (by kernel_rfl) (by kernel_rfl)
  have h38 := @run_callFunc_extern Tryd.prog 120 _ (ReflectliteType.relation "Implements" ReflectliteType.implements_) Tryd.func120 (by kernel_rfl) (by kernel_rfl) (by kernel_rfl) (by kernel_rfl)
  have h10 := @run_callFunc_extern Tryd.prog 74 _ ReflectliteType.typeOf Tryd.func74 (by kernel_rfl) (by kernel_rfl) (by kernel_rfl) (by kernel_rfl)
  have h35 := @run_callFunc_extern Tryd.prog 117 _ (ReflectliteType.relation "AssignableTo" ReflectliteType.assignableTo) Tryd.func117 (by kernel_rfl) (by kernel_rfl) (by kernel_rfl) (by kernel_rfl)
  have h11 := @run_callFunc_extern Tryd.prog 75 _ (ReflectliteValue.method (ReflectliteValue.valueError "reflectlite.Value.Elem" 0) ReflectliteValue.elem) Tryd.func75 (by kernel_rfl) (by kernel_rfl) (by kernel_rfl) (by kernel_rfl)
  have h12 := @run_callFunc_extern Tryd.prog 76 _ ReflectliteValue.set Tryd.func76 (by kernel_rfl) (by kernel_rfl) (by kernel_rfl) (by kernel_rfl)
  have tO := typeOfE
  have mA := methodAssignableTo
  have a25 := assignableE
  have v25 := valueOfE
  have f6 := valueOfP
  have f7 := typeP
  have mK := methodKind
  have mE := methodElem
  have mI := methodImplements
  have k27 := kindP
  have k25 := kindE
  have e27 := elemP
  have i25 := implementsE
  have n8 := isNilP ⟨w.heap.size, 0, none⟩ t ((w.alloc (.cells #[.pointer (some t)] 97)).alloc (.cells #[.pointer (some ⟨1, 97, none⟩), .pointer (some ⟨w.heap.size, 0, none⟩), .int .u64 150] 116)) (by simp)
  have hb2 : Below w.heap.size w ((w.alloc (.cells #[.pointer (some t)] 97)).alloc (.cells #[.pointer (some ⟨1, 97, none⟩), .pointer (some ⟨w.heap.size, 0, none⟩), .int .u64 150] 116)) := Lat.trans (Lat.alloc _ _) (Lat.alloc _ _)
  have hg2 : ((w.alloc (.cells #[.pointer (some t)] 97)).alloc (.cells #[.pointer (some ⟨1, 97, none⟩), .pointer (some ⟨w.heap.size, 0, none⟩), .int .u64 150] 116)).cell? ⟨0, 0, none⟩ = some (.iface 132 (.agg #[.pointer (some ⟨1, 25, none⟩)])) := Lat.cell_at hb2 hg
  have hb4 : Below w.heap.size w ((((w.alloc (.cells #[.pointer (some t)] 97)).alloc (.cells #[.pointer (some ⟨1, 97, none⟩), .pointer (some ⟨w.heap.size, 0, none⟩), .int .u64 150] 116)).alloc (.cells #[.pointer (some ⟨1, 97, none⟩), .pointer (some ⟨w.heap.size, 0, none⟩), .int .u64 150] 116)).alloc (.cells #[.int .i64 n] 62)) := Lat.trans (Lat.trans (Lat.trans (Lat.alloc _ _) (Lat.alloc _ _)) (Lat.alloc _ _)) (Lat.alloc _ _)
  have htl : t.block < w.heap.size := World.block_lt_of_cell? _ _ ht0
  have el := elemVP ⟨w.heap.size, 0, none⟩ t (((w.alloc (.cells #[.pointer (some t)] 97)).alloc (.cells #[.pointer (some ⟨1, 97, none⟩), .pointer (some ⟨w.heap.size, 0, none⟩), .int .u64 150] 116)).alloc (.cells #[.pointer (some ⟨1, 97, none⟩), .pointer (some ⟨w.heap.size, 0, none⟩), .int .u64 150] 116)) (by rw [World.cell?_alloc_lt _ _ ⟨w.heap.size, 0, none⟩ (by simp; omega)]; simp)
  have st := setE t ⟨w.heap.size + 1 + 1 + 1, 0, none⟩ n old ((((w.alloc (.cells #[.pointer (some t)] 97)).alloc (.cells #[.pointer (some ⟨1, 97, none⟩), .pointer (some ⟨w.heap.size, 0, none⟩), .int .u64 150] 116)).alloc (.cells #[.pointer (some ⟨1, 97, none⟩), .pointer (some ⟨w.heap.size, 0, none⟩), .int .u64 150] 116)).alloc (.cells #[.int .i64 n] 62))
    (by rw [World.cell?_alloc_at _ _ _ _ (by simp)]; rfl) (Lat.cell_at hb4 ht0) (by rw [hb4.frozen htl]; exact hf0)
  unfold Hnd at hg
  clear hb2 hb4
  go_enter Tryd.func48, Tryd.ntmps48
  go_wp2
  refine wp_loop_rounds 1 ?_
  rw [rounds_succ]
  go_wp2
  go_ret
  exact ⟨rfl, rfl⟩

theorem told_nil (w : World) : Calls Tryd.prog 29 #[.nilIface] w fun e w' => e = .returned (.int .i64 0) ∧ Lat w w' := by
  go_enter Tryd.func29, Tryd.ntmps29
  go_wp2
  go_ret
  exact ⟨rfl, Lat.refl _⟩
theorem told_eno (n : Int) (w : World) (hg : Hnd w) : Calls Tryd.prog 29 #[eno n] w fun e w' => e = .returned (.int .i64 n) ∧ Lat w w' := by
  have hgA : Hnd (w.alloc (.cells #[.int .i64 0] 62)) := hg.keep (Lat.alloc _ _)
  have H := Lib.hid hgA
  clear hg hgA
  go_enter Tryd.func29, Tryd.ntmps29
  go_wp2_with (go_at_call 48; refine (as_hit n ⟨w.heap.size, 0, none⟩ (.int .i64 0) _ H.out (by simp) (by simp)).mono ?_; rintro e w' ⟨rfl, rfl⟩)
  go_ret
  exact ⟨rfl, Lat.trans (Lat.trans (Lat.trans (Lat.trans (Lat.alloc _ _) (Lat.alloc _ _)) (Lat.alloc _ _)) (Lat.alloc _ _)) (Lat.alloc _ _)⟩
end Go.Proofs.YtcpookgbneoilaaDoor

namespace Go.Proofs.YtcpookgbneoilaaDoor
open Go.ChangeShapes Go.WideShapes Go.ChangeAt Go.RowKit

theorem own : ownKnob Tryd.prog.godebug = none := by kernel_rfl
theorem laidOut : laidOutB Tryd.prog = true := by kernel_rfl
theorem errType_at : Tryd.prog.globalNamed "errors.errorType" = some 0 := by kernel_rfl
theorem rtype_at : (Tryd.prog.cutTypes.find? (·.1 == "internal/reflectlite.rtype")).map (·.2) = some 132 := by kernel_rfl
theorem oneRow : ((List.range 195).filter fun t => Tryd.prog.rowNamed t [101, 114, 114, 111, 114]) = [25] := by kernel_rfl
theorem types_size : Tryd.prog.types.size = 195 := by kernel_rfl
theorem handle_of_laid {W : World} (h : laidMetH Tryd.prog [("errors.errorType", Rows.laid_errors_errorType)] W) : Hnd W := by
  have h' : laidMet Tryd.prog [] W ∧ handlesMet Tryd.prog [("errors.errorType", Rows.laid_errors_errorType)] W := h
  obtain ⟨name, u, ty, e1, e2, e3, e4, e5⟩ := h'.2 _ (List.mem_singleton.2 rfl)
  have en : name = [101, 114, 114, 111, 114] := (Option.some.inj e1).symm
  subst en
  obtain rfl := Option.some.inj (rtype_at.symm.trans e2)
  have hm : ty ∈ (List.range 195).filter fun t => Tryd.prog.rowNamed t [101, 114, 114, 111, 114] := List.mem_filter.2 ⟨List.mem_range.2 (by rw [← types_size]; exact e3), e4⟩
  rw [oneRow] at hm
  obtain rfl := List.mem_singleton.1 hm
  have hh : typeHandle Tryd.prog 25 = .pointer (some ⟨1, 25, none⟩) := by kernel_rfl
  rw [hh] at e5
  unfold Hnd
  simpa using World.var?_cell errType_at e5 0
noncomputable def laidWorld (os : Os) : World :=
  { World.holding Tryd.prog os ⟨#[], #[], []⟩ with heap := (World.holding Tryd.prog os ⟨#[], #[], []⟩).heap.modify 0 fun
      | .cells _ t frozen => .cells #[.iface 132 (.agg #[.pointer (some ⟨1, 25, none⟩)])] t frozen
      | o => o }
theorem laidWorld_met (os : Os) (args : Array Value) : laidMetH Tryd.prog [("errors.errorType", Rows.laid_errors_errorType)] ((laidWorld os).forCall (fun _ _ => 0) ⟨#[], args, []⟩).memory :=
  laidMetH_of_parts (laidMet_nil _ _) (by kernel_rfl)
end Go.Proofs.YtcpookgbneoilaaDoor

namespace Go.Proofs.YtcpookgbneoilaaDoor

section
variable {P : Program} {md : Region.Mode} {ops : Array Oper} {Q : Exit → Act → World → Prop} {F G : World → Prop} {g : Nat}
theorem gate_two {i j n : Nat} {oi oj : Oper} {listed : Array Bool} {a : Act} {w : World} (hr : Region.ready md ops listed = [i, j]) (hi : ops[i]? = some oi) (hj : ops[j]? = some oj)
    (h1 : ∀ K : Act → World → Prop, (∀ a' w', FG F G g (listed.setIfInBounds i true) w' → wpGate P md ops Q (FG F G g) n (listed.setIfInBounds i true) a' w' → K a' w') →
      if Region.wanted oi (yielded ops a.tmps) = true then Oper.wp P oi a w K Q else K (a.put oi.dst undef) w)
    (h2 : ∀ K : Act → World → Prop, (∀ a' w', FG F G g (listed.setIfInBounds j true) w' → wpGate P md ops Q (FG F G g) n (listed.setIfInBounds j true) a' w' → K a' w') →
      if Region.wanted oj (yielded ops a.tmps) = true then Oper.wp P oj a w K Q else K (a.put oj.dst undef) w) : wpGate P md ops Q (FG F G g) (n + 1) listed a w := by
  refine ⟨(fun h0 => by rw [hr] at h0; cases h0), (fun q hq => ?_)⟩
  rw [hr, List.mem_cons, List.mem_singleton] at hq
  rcases hq with e | e
  · subst e
    have hh := h1 (fun a' w' => FG F G g (listed.setIfInBounds q true) w' ∧ wpGate P md ops Q (FG F G g) n (listed.setIfInBounds q true) a' w') fun a' w' h1 h2 => ⟨h1, h2⟩
    unfold wpOp
    simp only [hi]
    split
    · rename_i hw
      rw [if_pos hw] at hh
      exact .inl hh
    · rename_i hw
      rw [if_neg hw] at hh
      exact hh
  · subst e
    have hh := h2 (fun a' w' => FG F G g (listed.setIfInBounds q true) w' ∧ wpGate P md ops Q (FG F G g) n (listed.setIfInBounds q true) a' w') fun a' w' h1 h2 => ⟨h1, h2⟩
    unfold wpOp
    simp only [hj]
    split
    · rename_i hw
      rw [if_pos hw] at hh
      exact .inl hh
    · rename_i hw
      rw [if_neg hw] at hh
      exact hh
end
end Go.Proofs.YtcpookgbneoilaaDoor

namespace Go.Proofs.YtcpookgbneoilaaDoor
open Go.ChangeShapes Go.WideShapes Go.ChangeAt Go.RowKit

def ofNats (l : List Nat) : List Int := l.map Int.ofNat
theorem ofNats_snoc (l : List Nat) (i : Nat) : ofNats (l ++ [i]) = ofNats l ++ [(i : Int)] := by unfold ofNats; rw [List.map_append]; rfl
def firstR (k : Int) (zs : List Int) : Nat := if rdyE k zs = 0 then fstN k.toNat (rowsOf k.toNat zs) else 0
def firstE (k : Int) (zs : List Int) : Nat := if rdyE k zs ≠ 0 then rdyE k zs else if fstN k.toNat (rowsOf k.toNat zs) = 0 then 8 else 0

set_option maxHeartbeats 2000000 in
set_option maxRecDepth 100000 in
theorem first_any (k : Int) (a : Option Addr) (n cap : Nat) (zs : List Int) (w : World) (h : IntsAt w a n cap zs) :
    Calls Tryd.prog 19 #[.int .i64 k, .slice a n cap] w fun e w' => e = .returned (.tuple #[.int .i64 (firstR k zs), errv (firstE k zs)]) ∧ Lat w w' := by
  have hr := ready_any k a n cap zs w h
  by_cases h0 : rdyE k zs = 0
  · obtain ⟨h1, h2, h3, h4⟩ := rdyE_zero h0
    obtain ⟨f, rfl⟩ : ∃ f : Nat, k = f := ⟨k.toNat, by omega⟩
    obtain ⟨F, hF⟩ : ∃ F, F = fstN f (rowsOf f zs) := ⟨_, rfl⟩
    have hR : firstR f zs = F := by unfold firstR; rw [if_pos h0, Int.toNat_natCast, hF]
    have hE : firstE f zs = if F = 0 then 8 else 0 := by unfold firstE; rw [if_neg (by omega), Int.toNat_natCast, hF]
    rw [h0, errv_zero rfl] at hr
    rw [hR, hE]
    obtain ⟨EV, hEV⟩ : ∃ x, x = errv (if F = 0 then 8 else 0) := ⟨_, rfl⟩
    rw [← hEV]
    have HEV := Lib.hid hEV
    clear hEV
    have hl := h.len
    have hn60 : n ≤ 60 := by omega
    have hba := rowsOf_bare (k := f) (zs := zs) (by omega) h4
    have hti := fun j => (tab_st (k := f) (by omega) (hba.take j)).ti
    have hF0 : fstA f (rowsOf f zs) n 0 = F := by rw [hF]; unfold fstN; rw [rowsOf_len, hl]
    have H := Lib.hid h; have HR := Lib.hid hr; have HZ := Lib.hid h4; have HTI := Lib.hid hti; have HL := Lib.hid hl; have HF0 := Lib.hid hF0
    have hf1 : 1 ≤ f := by omega
    have hf16 : f ≤ 16 := by omega
    clear h hr h0 h1 h2 h3 h4 hR hE hl hti hba hF hF0
    go_enter Tryd.func19, Tryd.ntmps19
    go_wp2_with (first
      | (go_at_call 39; refine HR.out.mono ?_; rintro e w' ⟨rfl, rfl⟩)
      | (go_at_call 40; refine (newTable_any f _).mono ?_; rintro e w1 ⟨⟨p, b, rfl, hp, hb, ht⟩, hb1⟩))
    have HB := Lib.hid hb
    have hTab0 : TabAt w1 p b f (tabT f ((rowsOf f zs).take 0)) := ht
    have HT0 := Lib.hid hTab0; have HB1 := Lib.hid hb1
    clear hp hb ht hTab0 hb1
    go_loopw [8, 9, 19] (fun _ _ i wr => ∃ j : Nat, j ≤ n ∧ i = .int .i64 j ∧ Hid (fstA f (rowsOf f zs) (n - j) j = F ∧ TabAt wr p b f (tabT f ((rowsOf f zs).take j)) ∧ Lat w wr)) (fun _ _ i _ => n - (intOf i).toNat)
    case atStart => exact ⟨0, Nat.zero_le _, rfl, HF0.out, HT0.out, HB1.out⟩
    case round =>
      obtain ⟨j, hj, rfl, hrel⟩ := hrel
      by_cases hlt : j < n
      · obtain ⟨hfa, htab, hlat⟩ := hrel.out
        have hst : F = if rk f ((rowsOf f zs).take (j + 1)) = f then j + 1 else fstA f (rowsOf f zs) (n - (j + 1)) (j + 1) := by
          rw [← hfa, show n - j = (n - (j + 1)) + 1 by omega]; rfl
        obtain ⟨ab, ao, rfl, hc⟩ := (H.out.keep hlat).row.at_ (by omega)
        have c1 := hc j hlt
        have hm := HZ.out _ (getD_mem zs j (by rw [HL.out]; exact hlt))
        have hnx := tab_next (k := f) (zs := zs) j (by rw [HL.out]; exact hlt)
        obtain ⟨s, hs⟩ : ∃ s : Nat, zs.getD j 0 = (s : Int) := ⟨(zs.getD j 0).toNat, by omega⟩
        rw [hs] at c1 hm hnx
        have hrow : rowOf f (s : Int) = (bitsN (setZ f s), []) := by unfold rowOf; rw [Int.toNat_natCast]
        rw [hrow] at hnx
        have hs1 : 1 ≤ s := by omega
        have hs2 : s ≤ 10000 := by omega
        have hbl : bitsN (setZ f s) < 2 ^ f := by have := rowOf_lt f (s : Int) hf1 (by omega); rw [hrow] at this; exact this
        have hsz : ∀ z ∈ setZ f s, 0 ≤ z ∧ z < 16 := fun z hz => by have := setZ_lt f s hf1 hs1 z hz; omega
        obtain ⟨rkn, hrkn⟩ : ∃ r, r = rk f ((rowsOf f zs).take (j + 1)) := ⟨_, rfl⟩
        rw [← hrkn] at hst
        have HTB := Lib.hid htab; have HLT := Lib.hid hlat; have HNX := Lib.hid hnx; have HBL := Lib.hid hbl; have HSZ := Lib.hid hsz
        have HRK : Hid (rnkT (tabT f ((rowsOf f zs).take (j + 1))) f = rkn) := hrkn.symm
        have HST := Lib.hid hst
        clear hrel hfa htab hlat hc hm hs hrow hnx hbl hsz hst hrkn
        by_cases hfull : rkn = f
        · have d1 : ((rkn : Int) == (f : Int)) = true := by rw [hfull]; exact beq_self_eq_true _
          go_wp2_with (first
            | (go_at_call 35; refine (dropOf_any f s _ hf1 hf16 hs1 hs2).mono ?_; rintro e w2 ⟨oa, oc, rfl, hoi, hb2⟩)
            | (go_at_call 41; refine (nadd_any p b f _ _ _ _ _ _ (HTB.out.keep hb2) hoi hf16 (HTI.out j) HBL.out HSZ.out).mono ?_; rintro e w3 ⟨rfl, ht3, hf3⟩; rw [HNX.out] at ht3)
            | (go_at_call 42; refine (rank_tab p b f _ _ ht3).mono ?_; rw [HRK.out]; rintro e w' ⟨rfl, rfl⟩))
          have hl3 : Lat w w3 := hf3.lat_of (Lat.trans HLT.out hb2) (fun i e => by rw [e]; exact HB.out)
          have hFj : F = j + 1 := by rw [HST.out, if_pos hfull]
          have HL3 := Lib.hid hl3; have HFJ := Lib.hid hFj
          clear ht3 hf3 hl3 hoi hb2 hFj
          go_wp2
          go_ret2
          exact ⟨by rw [HEV.out, HFJ.out, if_neg (by omega), errv_zero rfl]; rfl, HL3.out⟩
        · have d1 : ((rkn : Int) == (f : Int)) = false := beq_eq_false_iff_ne.2 (by omega)
          go_wp2_with (first
            | (go_at_call 35; refine (dropOf_any f s _ hf1 hf16 hs1 hs2).mono ?_; rintro e w2 ⟨oa, oc, rfl, hoi, hb2⟩)
            | (go_at_call 41; refine (nadd_any p b f _ _ _ _ _ _ (HTB.out.keep hb2) hoi hf16 (HTI.out j) HBL.out HSZ.out).mono ?_; rintro e w3 ⟨rfl, ht3, hf3⟩; rw [HNX.out] at ht3)
            | (go_at_call 42; refine (rank_tab p b f _ _ ht3).mono ?_; rw [HRK.out]; rintro e w' ⟨rfl, rfl⟩))
          have hl3 : Lat w w3 := hf3.lat_of (Lat.trans HLT.out hb2) (fun i e => by rw [e]; exact HB.out)
          have hFj : fstA f (rowsOf f zs) (n - (j + 1)) (j + 1) = F := by rw [HST.out, if_neg hfull]
          have HL3 := Lib.hid hl3; have HFJ := Lib.hid hFj; have HT3 := Lib.hid ht3
          clear ht3 hf3 hl3 hoi hb2 hFj hfull
          go_roundw
          case rel => exact ⟨j + 1, by omega, by go_num, HFJ.out, HT3.out, HL3.out⟩
          case measure => simp [intOf]; omega
      · obtain rfl : j = n := by omega
        obtain ⟨hfa, htab, hlat⟩ := hrel.out
        have hF0 : F = 0 := by rw [← hfa, Nat.sub_self]; rfl
        have HLT := Lib.hid hlat; have HF1 := Lib.hid hF0
        clear hrel htab hlat hfa hF0
        go_wp2
        go_ret2
        exact ⟨by rw [HEV.out, HF1.out, if_pos rfl, errv_pos (by omega)]; rfl, HLT.out⟩
  · have hR : firstR k zs = 0 := by unfold firstR; rw [if_neg h0]
    have hE : firstE k zs = rdyE k zs := by unfold firstE; rw [if_pos h0]
    rw [hR, hE]
    rw [errv_pos h0] at hr ⊢
    have HR := Lib.hid hr
    clear h hr h0 hR hE
    go_enter Tryd.func19, Tryd.ntmps19
    go_wp2_with (go_at_call 39; refine HR.out.mono ?_; rintro e w' ⟨rfl, rfl⟩)
    go_ret2
    exact ⟨rfl, Lat.refl _⟩

def newR (k : Int) (zs : List Int) : List Int := if rdyE k zs = 0 then ofNats (newL k.toNat (rowsOf k.toNat zs) zs.length) else []
theorem newL_lt (k : Nat) (L : List Vec) : ∀ i, ∀ j ∈ newL k L i, j < i
  | 0, j, h => by cases h
  | i + 1, j, h => by
    unfold newL at h
    split at h
    · rcases List.mem_append.1 h with h | h
      · have := newL_lt k L i j h; omega
      · have := List.mem_singleton.1 h; omega
    · have := newL_lt k L i j h; omega
theorem newL_le (k : Nat) (L : List Vec) : ∀ i, (newL k L i).length ≤ i
  | 0 => Nat.le_refl _
  | i + 1 => by
    have ih := newL_le k L i
    unfold newL
    split
    · rw [List.length_append, List.length_singleton]; omega
    · omega
theorem lackL_le (k : Nat) (L : List Vec) : ∀ i, (lackL k L i).length ≤ i
  | 0 => Nat.le_refl _
  | i + 1 => by
    have ih := lackL_le k L i
    unfold lackL
    split
    · rw [List.length_append, List.length_singleton]; omega
    · omega
theorem own_ints_at {w : World} {B : Nat} {v : Value} {l : List Nat} (h : OwnInts w B v (ofNats l)) (hl : ∀ i ∈ l, i < 1000) : ∃ a c, v = .slice a l.length c ∧ IntsAt w a l.length c (ofNats l) :=
  OwnInts.sliceN h (fun z hz => by
    obtain ⟨i, hi, rfl⟩ := List.mem_map.1 hz
    have := hl i hi
    show -9223372036854775808 ≤ (i : Int) ∧ (i : Int) ≤ 9223372036854775807
    omega) (by unfold ofNats; rw [List.length_map])

set_option maxHeartbeats 2000000 in
set_option maxRecDepth 100000 in
theorem new_any (k : Int) (a : Option Addr) (n cap : Nat) (zs : List Int) (w : World) (h : IntsAt w a n cap zs) :
    Calls Tryd.prog 20 #[.int .i64 k, .slice a n cap] w fun e w' => (∃ b m c, e = .returned (.tuple #[.slice b m c, errv (rdyE k zs)]) ∧ IntsAt w' b m c (newR k zs)) ∧ Lat w w' := by
  have hr := ready_any k a n cap zs w h
  by_cases h0 : rdyE k zs = 0
  · obtain ⟨h1, h2, h3, h4⟩ := rdyE_zero h0
    obtain ⟨f, rfl⟩ : ∃ f : Nat, k = f := ⟨k.toNat, by omega⟩
    have hR : newR f zs = ofNats (newL f (rowsOf f zs) zs.length) := by unfold newR; rw [if_pos h0, Int.toNat_natCast]
    rw [h0, errv_zero rfl] at hr ⊢
    have hl := h.len
    rw [hR, hl]
    have hn60 : n ≤ 60 := by omega
    have hba := rowsOf_bare (k := f) (zs := zs) (by omega) h4
    have hti := fun j => (tab_st (k := f) (by omega) (hba.take j)).ti
    have H := Lib.hid h; have HR := Lib.hid hr; have HZ := Lib.hid h4; have HTI := Lib.hid hti; have HL := Lib.hid hl
    have hf1 : 1 ≤ f := by omega
    have hf16 : f ≤ 16 := by omega
    clear h hr h0 h1 h2 h3 h4 hR hl hti hba
    go_enter Tryd.func20, Tryd.ntmps20
    go_wp2_with (first
      | (go_at_call 39; refine HR.out.mono ?_; rintro e w' ⟨rfl, rfl⟩)
      | (go_at_call 40; refine (newTable_any f _).mono ?_; rintro e w1 ⟨⟨p, b, rfl, hp, hb, ht⟩, hb1⟩))
    have HB := Lib.hid hb
    have hTab0 : TabAt w1 p b f (tabT f ((rowsOf f zs).take 0)) := ht
    have HT0 := Lib.hid hTab0; have HB1 := Lib.hid hb1; have HLTB := Lib.hid ht.lt
    clear hp hb ht hTab0 hb1
    go_loopw [8, 9, 10, 20] (fun out _ _ i wr => ∃ j : Nat, j ≤ n ∧ i = .int .i64 j ∧ Hid (OwnInts wr w1.heap.size out (ofNats (newL f (rowsOf f zs) j)) ∧ w1.heap.size ≤ wr.heap.size ∧ TabAt wr p b f (tabT f ((rowsOf f zs).take j)) ∧ Lat w wr)) (fun _ _ _ i _ => n - (intOf i).toNat)
    case atStart => exact ⟨0, Nat.zero_le _, rfl, Own.nil _ _ _, Nat.le_refl _, HT0.out, HB1.out⟩
    case round =>
      obtain ⟨j, hj, rfl, hrel⟩ := hrel
      by_cases hlt : j < n
      · obtain ⟨hout, hsz1, htab, hlat⟩ := hrel.out
        obtain ⟨ab, ao, rfl, hc⟩ := (H.out.keep hlat).row.at_ (by omega)
        have c1 := hc j hlt
        have hm := HZ.out _ (getD_mem zs j (by rw [HL.out]; exact hlt))
        have hnx := tab_next (k := f) (zs := zs) j (by rw [HL.out]; exact hlt)
        have hgd := rowsOf_getD f zs j (by rw [HL.out]; exact hlt)
        obtain ⟨s, hs⟩ : ∃ s : Nat, zs.getD j 0 = (s : Int) := ⟨(zs.getD j 0).toNat, by omega⟩
        rw [hs] at c1 hm hnx hgd
        have hrow : rowOf f (s : Int) = (bitsN (setZ f s), []) := by unfold rowOf; rw [Int.toNat_natCast]
        rw [hrow] at hnx hgd
        have hst : newL f (rowsOf f zs) (j + 1) = if rsT f (tabT f ((rowsOf f zs).take j)) (bitsN (setZ f s), []) = true then newL f (rowsOf f zs) j ++ [j] else newL f (rowsOf f zs) j := by rw [← hgd]; rfl
        have hs1 : 1 ≤ s := by omega
        have hs2 : s ≤ 10000 := by omega
        have hbl : bitsN (setZ f s) < 2 ^ f := by have := rowOf_lt f (s : Int) hf1 (by omega); rw [hrow] at this; exact this
        have hsz : ∀ z ∈ setZ f s, 0 ≤ z ∧ z < 16 := fun z hz => by have := setZ_lt f s hf1 hs1 z hz; omega
        have hcall := fun (W : World) (oa : Option Addr) (oc : Nat) (hW : TabAt W p b f (tabT f ((rowsOf f zs).take j))) (hoi : IntsAt W oa (setZ f s).length oc (setZ f s)) => nadd_any p b f _ oa _ oc _ W hW hoi hf16 (HTI.out j) hbl hsz
        obtain ⟨rs, hrs⟩ : ∃ r, r = rsT f (tabT f ((rowsOf f zs).take j)) (bitsN (setZ f s), []) := ⟨_, rfl⟩
        simp only [← hrs, hnx] at hcall
        rw [← hrs] at hst
        have hnl : (ofNats (newL f (rowsOf f zs) j)).length < 1000000 := by unfold ofNats; rw [List.length_map]; have := newL_le f (rowsOf f zs) j; omega
        have HOUT := Lib.hid hout; have HS1 := Lib.hid hsz1; have HTB := Lib.hid htab; have HLT := Lib.hid hlat; have HST := Lib.hid hst; have HCALL := Lib.hid hcall; have HNL := Lib.hid hnl
        clear hrel hout hsz1 htab hlat hc hm hs hrow hnx hgd hbl hsz hst hcall hrs hnl
        cases rs with
        | true =>
          go_wp2_with (first
            | (go_at_call 35; refine (dropOf_any f s _ hf1 hf16 hs1 hs2).mono ?_; rintro e w2 ⟨oa, oc, rfl, hoi, hb2⟩)
            | (go_at_call 41; refine (HCALL.out _ _ _ (HTB.out.keep hb2) hoi).mono ?_; rintro e w3 ⟨rfl, ht3, hf3⟩)
            | (at_builtin; refine app_intF w3 w1.heap.size rfl (.tmp 30) (.tmp 32) rfl u8 _ (j : Int) rfl ((HOUT.out.keep hb2).frB hf3 HLTB.out.2) rfl HNL.out (Nat.le_trans HS1.out (Nat.le_trans hb2.size hf3.size)) ?_; intro v' w4 hown' hf4))
          have hl3 : Lat w w3 := hf3.lat_of (Lat.trans HLT.out hb2) (fun i e => by rw [e]; exact HB.out)
          have hob : ∀ i, u8.ownBlock = some i → w1.heap.size ≤ i := fun i e => (Own.lt HOUT.out i e).1
          have hl4 : Lat w w4 := hf4.lat_of hl3 (fun i e => Nat.le_trans HB1.out.size (hob i e))
          have ht4 := ht3.fr hf4 (fun e => by have := hob p e; have := HLTB.out.1; omega) (fun e => by have := hob b e; have := HLTB.out.2; omega)
          have ho4 : OwnInts w4 w1.heap.size v' (ofNats (newL f (rowsOf f zs) (j + 1))) := by rw [HST.out, if_pos (by simp), ofNats_snoc]; exact hown'
          have hs4 : w1.heap.size ≤ w4.heap.size := Nat.le_trans HS1.out (Nat.le_trans hb2.size (Nat.le_trans hf3.size hf4.size))
          have HO4 := Lib.hid ho4; have HT4 := Lib.hid ht4; have HL4 := Lib.hid hl4; have HS4 := Lib.hid hs4
          clear ht3 hf3 hl3 hoi hb2 hob hl4 ht4 ho4 hs4 hown' hf4
          go_wp2
          go_roundw
          case rel => exact ⟨j + 1, by omega, by go_num, HO4.out, HS4.out, HT4.out, HL4.out⟩
          case measure => simp [intOf]; omega
        | false =>
          go_wp2_with (first
            | (go_at_call 35; refine (dropOf_any f s _ hf1 hf16 hs1 hs2).mono ?_; rintro e w2 ⟨oa, oc, rfl, hoi, hb2⟩)
            | (go_at_call 41; refine (HCALL.out _ _ _ (HTB.out.keep hb2) hoi).mono ?_; rintro e w3 ⟨rfl, ht3, hf3⟩))
          have hl3 : Lat w w3 := hf3.lat_of (Lat.trans HLT.out hb2) (fun i e => by rw [e]; exact HB.out)
          have ho4 : OwnInts w3 w1.heap.size u8 (ofNats (newL f (rowsOf f zs) (j + 1))) := by rw [HST.out, if_neg (by simp)]; exact (HOUT.out.keep hb2).frB hf3 HLTB.out.2
          have hs4 : w1.heap.size ≤ w3.heap.size := Nat.le_trans HS1.out (Nat.le_trans hb2.size hf3.size)
          have HO4 := Lib.hid ho4; have HT4 := Lib.hid ht3; have HL4 := Lib.hid hl3; have HS4 := Lib.hid hs4
          clear ht3 hf3 hl3 hoi hb2 ho4 hs4
          go_wp2
          go_roundw
          case rel => exact ⟨j + 1, by omega, by go_num, HO4.out, HS4.out, HT4.out, HL4.out⟩
          case measure => simp [intOf]; omega
      · obtain rfl : j = n := by omega
        obtain ⟨hout, hsz1, htab, hlat⟩ := hrel.out
        obtain ⟨oa, oc, hv, hat⟩ := own_ints_at hout (fun i hi => by have := newL_lt _ _ _ i hi; omega)
        subst hv
        have HAT := Lib.hid hat; have HLT := Lib.hid hlat
        clear hrel hout hsz1 htab hlat hat
        go_wp2
        go_ret2
        exact ⟨⟨_, _, _, rfl, HAT.out⟩, HLT.out⟩
  · have hR : newR k zs = [] := by unfold newR; rw [if_neg h0]
    rw [hR]
    rw [errv_pos h0] at hr ⊢
    have HR := Lib.hid hr
    clear h hr h0 hR
    go_enter Tryd.func20, Tryd.ntmps20
    go_wp2_with (go_at_call 39; refine HR.out.mono ?_; rintro e w' ⟨rfl, rfl⟩)
    go_ret2
    exact ⟨⟨_, _, _, rfl, IntsAt.nil _⟩, Lat.refl _⟩
end Go.Proofs.YtcpookgbneoilaaDoor

namespace Go.Proofs.YtcpookgbneoilaaDoor
open Go.ChangeShapes Go.WideShapes Go.ChangeAt Go.RowKit

def lackR (k : Int) (zs : List Int) : List Int := if rdyE k zs = 0 then ofNats (lackL k.toNat (rowsOf k.toNat zs) k.toNat) else []
theorem bits_one (i : Nat) : (bitsN [(i : Int)], ([] : List UInt8)) = unit i := by
  unfold unit bitsN
  show (0 ||| bitP i, []) = _
  rw [Nat.zero_or]; rfl

set_option maxHeartbeats 2000000 in
set_option maxRecDepth 100000 in
theorem lacks_own (k : Int) (a : Option Addr) (n cap : Nat) (zs : List Int) (w : World) (h : IntsAt w a n cap zs) :
    Calls Tryd.prog 22 #[.int .i64 k, .slice a n cap] w fun e w' => (∃ b c, e = .returned (.tuple #[.slice b (lackR k zs).length c, errv (rdyE k zs)]) ∧ OwnInts w' w.heap.size (.slice b (lackR k zs).length c) (lackR k zs)) ∧ Lat w w' := by
  have hr := ready_any k a n cap zs w h
  by_cases h0 : rdyE k zs = 0
  · obtain ⟨h1, h2, h3, h4⟩ := rdyE_zero h0
    obtain ⟨f, rfl⟩ : ∃ f : Nat, k = f := ⟨k.toNat, by omega⟩
    have hR : lackR f zs = ofNats (lackL f (rowsOf f zs) f) := by unfold lackR; rw [if_pos h0, Int.toNat_natCast]
    rw [h0, errv_zero rfl] at hr ⊢
    rw [hR]
    have hl := h.len
    have hn60 : n ≤ 60 := by omega
    have hba := rowsOf_bare (k := f) (zs := zs) (by omega) h4
    have hti := fun j => (tab_st (k := f) (by omega) (hba.take j)).ti
    have hti2 := fun i (hi : i ≤ f) => (tab_st (k := f) (by omega) (hba.append (bare_range hi))).ti
    have H := Lib.hid h; have HR := Lib.hid hr; have HZ := Lib.hid h4; have HTI := Lib.hid hti; have HL := Lib.hid hl; have HTI2 := Lib.hid hti2
    have hf1 : 1 ≤ f := by omega
    have hf16 : f ≤ 16 := by omega
    clear h hr h0 h1 h2 h3 h4 hR hl hti hti2 hba
    go_enter Tryd.func22, Tryd.ntmps22
    go_wp2_with (first
      | (go_at_call 39; refine HR.out.mono ?_; rintro e w' ⟨rfl, rfl⟩)
      | (go_at_call 40; refine (newTable_any f _).mono ?_; rintro e w1 ⟨⟨p, b, rfl, hp, hb, ht⟩, hb1⟩))
    have HB := Lib.hid hb
    have hTab0 : TabAt w1 p b f (tabT f ((rowsOf f zs).take 0)) := ht
    have HT0 := Lib.hid hTab0; have HB1 := Lib.hid hb1; have HLTB := Lib.hid ht.lt
    clear hp hb ht hTab0 hb1
    go_loopw [9, 21] (fun _ i wr => ∃ j : Nat, j ≤ n ∧ i = .int .i64 j ∧ Hid (w1.heap.size ≤ wr.heap.size ∧ TabAt wr p b f (tabT f ((rowsOf f zs).take j)) ∧ Lat w wr)) (fun _ i _ => n - (intOf i).toNat)
    case atStart => exact ⟨0, Nat.zero_le _, rfl, Nat.le_refl _, HT0.out, HB1.out⟩
    case round =>
      obtain ⟨j, hj, rfl, hrel⟩ := hrel
      by_cases hlt : j < n
      · obtain ⟨hsz1, htab, hlat⟩ := hrel.out
        obtain ⟨ab, ao, rfl, hc⟩ := (H.out.keep hlat).row.at_ (by omega)
        have c1 := hc j hlt
        have hm := HZ.out _ (getD_mem zs j (by rw [HL.out]; exact hlt))
        have hnx := tab_next (k := f) (zs := zs) j (by rw [HL.out]; exact hlt)
        obtain ⟨s, hs⟩ : ∃ s : Nat, zs.getD j 0 = (s : Int) := ⟨(zs.getD j 0).toNat, by omega⟩
        rw [hs] at c1 hm hnx
        have hrow : rowOf f (s : Int) = (bitsN (setZ f s), []) := by unfold rowOf; rw [Int.toNat_natCast]
        rw [hrow] at hnx
        have hs1 : 1 ≤ s := by omega
        have hs2 : s ≤ 10000 := by omega
        have hbl : bitsN (setZ f s) < 2 ^ f := by have := rowOf_lt f (s : Int) hf1 (by omega); rw [hrow] at this; exact this
        have hsz : ∀ z ∈ setZ f s, 0 ≤ z ∧ z < 16 := fun z hz => by have := setZ_lt f s hf1 hs1 z hz; omega
        have HTB := Lib.hid htab; have HLT := Lib.hid hlat; have HNX := Lib.hid hnx; have HBL := Lib.hid hbl; have HSZ := Lib.hid hsz; have HS1 := Lib.hid hsz1
        clear hrel hsz1 htab hlat hc hm hs hrow hnx hbl hsz
        go_wp2_with (first
          | (go_at_call 35; refine (dropOf_any f s _ hf1 hf16 hs1 hs2).mono ?_; rintro e w2 ⟨oa, oc, rfl, hoi, hb2⟩)
          | (go_at_call 41; refine (nadd_any p b f _ _ _ _ _ _ (HTB.out.keep hb2) hoi hf16 (HTI.out j) HBL.out HSZ.out).mono ?_; rintro e w3 ⟨rfl, ht3, hf3⟩; rw [HNX.out] at ht3))
        have hl3 : Lat w w3 := hf3.lat_of (Lat.trans HLT.out hb2) (fun i e => by rw [e]; exact HB.out)
        have HT3 := Lib.hid ht3; have HL3 := Lib.hid hl3; have HS3 := Lib.hid (Nat.le_trans HS1.out (Nat.le_trans hb2.size hf3.size))
        clear ht3 hf3 hl3 hoi hb2
        go_roundw
        case rel => exact ⟨j + 1, by omega, by go_num, HS3.out, HT3.out, HL3.out⟩
        case measure => simp [intOf]; omega
      · obtain rfl : j = n := by omega
        obtain ⟨hsz1, htab, hlat⟩ := hrel.out
        have hall : (rowsOf f zs).take j = rowsOf f zs := List.take_of_length_le (by rw [rowsOf_len, HL.out]; exact Nat.le_refl _)
        rw [hall] at htab
        have htab2 : TabAt wr p b f (tabT f (rowsOf f zs ++ (List.range 0).map unit)) := by simpa using htab
        have HTB := Lib.hid htab2; have HLT := Lib.hid hlat; have HS1 := Lib.hid hsz1
        clear hrel hsz1 htab hlat hall htab2
        obtain ⟨wo, hwo⟩ : ∃ wo : World, wo = wr := ⟨_, rfl⟩
        subst hwo
        go_wp2
        go_loopw [10, 11, 32] (fun out _ i wr => ∃ j : Nat, j ≤ f ∧ i = .int .i64 j ∧ Hid (OwnInts wr w1.heap.size out (ofNats (lackL f (rowsOf f zs) j)) ∧ w1.heap.size ≤ wr.heap.size ∧ TabAt wr p b f (tabT f (rowsOf f zs ++ (List.range j).map unit)) ∧ Lat w wr)) (fun _ _ i _ => f - (intOf i).toNat)
        case atStart => exact ⟨0, Nat.zero_le _, rfl, Own.nil _ _ _, HS1.out, HTB.out, HLT.out⟩
        case round =>
          obtain ⟨q, hq, rfl, hrel⟩ := hrel
          by_cases hqf : q < f
          · obtain ⟨hout, hsz1, htab, hlat⟩ := hrel.out
            have hone : IntsAt (wr.alloc (.cells #[.int .i64 q] 3)) (some ⟨wr.heap.size, 0, none⟩) 1 1 [(q : Int)] := by
              have := ints_new wr [(q : Int)] 3 (by simp) (by intro z hz; rw [List.mem_singleton] at hz; subst hz; omega)
              simpa using this
            have hbl : bitsN [(q : Int)] < 2 ^ f := by
              have h2 := unit_lt (k := f) hqf
              rw [← bits_one] at h2; exact h2
            have hcall := nadd_any p b f _ _ 1 1 [(q : Int)] _ (htab.keep (Lat.alloc wr (.cells #[.int .i64 q] 3))) hone hf16 (HTI2.out q hq) hbl (fun z hz => by rw [List.mem_singleton.1 hz]; omega)
            rw [bits_one] at hcall
            have hnx : addT f (tabT f (rowsOf f zs ++ (List.range q).map unit)) (unit q) = tabT f (rowsOf f zs ++ (List.range (q + 1)).map unit) := by rw [← tabT_snoc, units_snoc, List.append_assoc]
            have hst : lackL f (rowsOf f zs) (q + 1) = if rsT f (tabT f (rowsOf f zs ++ (List.range q).map unit)) (unit q) = true then lackL f (rowsOf f zs) q ++ [q] else lackL f (rowsOf f zs) q := rfl
            obtain ⟨rs, hrs⟩ : ∃ r, r = rsT f (tabT f (rowsOf f zs ++ (List.range q).map unit)) (unit q) := ⟨_, rfl⟩
            rw [hnx, ← hrs] at hcall
            rw [← hrs] at hst
            have hnl : (ofNats (lackL f (rowsOf f zs) q)).length < 1000000 := by unfold ofNats; rw [List.length_map]; have := lackL_le f (rowsOf f zs) q; omega
            have HOUT := Lib.hid hout; have HS1 := Lib.hid hsz1; have HLT := Lib.hid hlat; have HST := Lib.hid hst; have HCALL := Lib.hid hcall; have HNL := Lib.hid hnl
            clear hrel hout hsz1 htab hlat hone hbl hcall hnx hst hrs hnl
            cases rs with
            | true =>
              go_wp2_with (first
                | (go_at_call 41; refine HCALL.out.mono ?_; rintro e w3 ⟨rfl, ht3, hf3⟩)
                | (at_builtin; refine app_intF w3 w1.heap.size rfl (.tmp 39) (.tmp 41) rfl u10 _ (q : Int) rfl ((HOUT.out.keep (Lat.alloc _ _)).frB hf3 HLTB.out.2) rfl HNL.out (Nat.le_trans HS1.out (Nat.le_trans (Lat.alloc _ _).size hf3.size)) ?_; intro v' w4 hown' hf4))
              have hl3 : Lat w w3 := hf3.lat_of (Lat.trans HLT.out (Lat.alloc _ _)) (fun i e => by rw [e]; exact HB.out)
              have hob : ∀ i, u10.ownBlock = some i → w1.heap.size ≤ i := fun i e => (Own.lt HOUT.out i e).1
              have hl4 : Lat w w4 := hf4.lat_of hl3 (fun i e => Nat.le_trans HB1.out.size (hob i e))
              have ht4 := ht3.fr hf4 (fun e => by have := hob p e; have := HLTB.out.1; omega) (fun e => by have := hob b e; have := HLTB.out.2; omega)
              have ho4 : OwnInts w4 w1.heap.size v' (ofNats (lackL f (rowsOf f zs) (q + 1))) := by rw [HST.out, if_pos (by simp), ofNats_snoc]; exact hown'
              have hs4 : w1.heap.size ≤ w4.heap.size := Nat.le_trans HS1.out (Nat.le_trans (Lat.alloc wr (.cells #[.int .i64 q] 3)).size (Nat.le_trans hf3.size hf4.size))
              have HO4 := Lib.hid ho4; have HT4 := Lib.hid ht4; have HL4 := Lib.hid hl4; have HS4 := Lib.hid hs4
              clear ht3 hf3 hl3 hob hl4 ht4 ho4 hs4 hown' hf4
              go_wp2
              go_roundw
              case rel => exact ⟨q + 1, by omega, by go_num, HO4.out, HS4.out, HT4.out, HL4.out⟩
              case measure => simp [intOf]; omega
            | false =>
              go_wp2_with (go_at_call 41; refine HCALL.out.mono ?_; rintro e w3 ⟨rfl, ht3, hf3⟩)
              have hl3 : Lat w w3 := hf3.lat_of (Lat.trans HLT.out (Lat.alloc _ _)) (fun i e => by rw [e]; exact HB.out)
              have ho4 : OwnInts w3 w1.heap.size u10 (ofNats (lackL f (rowsOf f zs) (q + 1))) := by rw [HST.out, if_neg (by simp)]; exact (HOUT.out.keep (Lat.alloc _ _)).frB hf3 HLTB.out.2
              have hs4 : w1.heap.size ≤ w3.heap.size := Nat.le_trans HS1.out (Nat.le_trans (Lat.alloc wr (.cells #[.int .i64 q] 3)).size hf3.size)
              have HO4 := Lib.hid ho4; have HT4 := Lib.hid ht3; have HL4 := Lib.hid hl3; have HS4 := Lib.hid hs4
              clear ht3 hf3 hl3 ho4 hs4
              go_wp2
              go_roundw
              case rel => exact ⟨q + 1, by omega, by go_num, HO4.out, HS4.out, HT4.out, HL4.out⟩
              case measure => simp [intOf]; omega
          · obtain rfl : q = f := by omega
            obtain ⟨hout, hsz1, htab, hlat⟩ := hrel.out
            obtain ⟨oa, oc, hv, hat⟩ := own_ints_at hout (fun i hi => by have := lackL_lt _ _ _ i hi; omega)
            subst hv
            have hln : (ofNats (lackL q (rowsOf q zs) q)).length = (lackL q (rowsOf q zs) q).length := List.length_map _
            have HAT := Lib.hid (hout.mono HB1.out.size); have HLT := Lib.hid hlat; have HLN := Lib.hid hln
            clear hrel hout hsz1 htab hlat hat hln
            go_wp2
            go_ret2
            rw [HLN.out]
            exact ⟨⟨_, _, rfl, HAT.out⟩, HLT.out⟩
  · have hR : lackR k zs = [] := by unfold lackR; rw [if_neg h0]
    rw [hR]
    rw [errv_pos h0] at hr ⊢
    have HR := Lib.hid hr
    clear h hr h0 hR
    go_enter Tryd.func22, Tryd.ntmps22
    go_wp2_with (go_at_call 39; refine HR.out.mono ?_; rintro e w' ⟨rfl, rfl⟩)
    go_ret2
    exact ⟨⟨none, 0, rfl, Own.nil _ _ _⟩, Lat.refl _⟩
theorem lackR_wf (k : Int) (zs : List Int) : ∀ z ∈ lackR k zs, -9223372036854775808 ≤ z ∧ z ≤ 9223372036854775807 := by
  intro z hz
  unfold lackR at hz
  split at hz
  · rename_i h0
    obtain ⟨-, h1, h2, -⟩ := rdyE_zero h0
    obtain ⟨i, hi, rfl⟩ := List.mem_map.1 hz
    have := lackL_lt _ _ _ i hi
    show -9223372036854775808 ≤ (i : Int) ∧ (i : Int) ≤ 9223372036854775807
    omega
  · cases hz
theorem own_lacks {w : World} {B : Nat} {a : Option Addr} {c : Nat} {k : Int} {zs : List Int} (h : OwnInts w B (.slice a (lackR k zs).length c) (lackR k zs)) : IntsAt w a (lackR k zs).length c (lackR k zs) := by
  obtain ⟨a', c', e, hi⟩ := OwnInts.sliceN h (lackR_wf k zs) rfl
  injection e with e1 _ e3
  subst e1; subst e3
  exact hi
theorem lacks_any (k : Int) (a : Option Addr) (n cap : Nat) (zs : List Int) (w : World) (h : IntsAt w a n cap zs) :
    Calls Tryd.prog 22 #[.int .i64 k, .slice a n cap] w fun e w' => (∃ b m c, e = .returned (.tuple #[.slice b m c, errv (rdyE k zs)]) ∧ IntsAt w' b m c (lackR k zs)) ∧ Lat w w' :=
  (lacks_own k a n cap zs w h).mono fun _ _ ⟨⟨b, c, he, ho⟩, hl⟩ => ⟨⟨b, _, c, he, own_lacks ho⟩, hl⟩
end Go.Proofs.YtcpookgbneoilaaDoor

namespace Go.Proofs.YtcpookgbneoilaaDoor
open Go.ChangeShapes Go.WideShapes Go.ChangeAt Go.RowKit

theorem rowOf_unit (f i : Nat) (h : i < f) : rowOf f ((i : Int) + 1) = unit i := by
  unfold rowOf
  have e : ((i : Int) + 1).toNat = i + 1 := by omega
  have e2 : setZ f (i + 1) = [(i : Int)] := by unfold setZ; rw [if_pos (by omega)]; rfl
  rw [e, e2]; exact bits_one i
def seedsOf (l : List Nat) : List Int := l.map fun (i : Nat) => (i : Int) + 1
theorem rows_seedsOf (f : Nat) (l : List Nat) (h : ∀ i ∈ l, i < f) : rowsOf f (seedsOf l) = l.map unit := by
  unfold rowsOf seedsOf
  rw [List.map_map]
  exact List.map_congr_left fun i hi => rowOf_unit f i (h i hi)
theorem rows_app (f : Nat) (zs ys : List Int) : rowsOf f (zs ++ ys) = rowsOf f zs ++ rowsOf f ys := by unfold rowsOf; rw [List.map_append]
theorem rdyE_of {f : Nat} {zs : List Int} (h1 : zs.length ≤ 60) (h2 : 1 ≤ f) (h3 : f ≤ 16) (h4 : ∀ z ∈ zs, 1 ≤ z ∧ z ≤ 10000) : rdyE f zs = 0 := by
  unfold rdyE
  rw [if_neg (by omega), if_neg (by omega), if_neg]
  intro h
  obtain ⟨z, hz, hn⟩ := List.any_eq_true.1 h
  unfold noSeed at hn
  rw [decide_eq_true (h4 z hz)] at hn
  cases hn
theorem seeds_ok {f : Nat} {l : List Nat} (h : ∀ i ∈ l, i < f) (h3 : f ≤ 16) : ∀ z ∈ seedsOf l, 1 ≤ z ∧ z ≤ 10000 := fun z hz => by
  obtain ⟨i, hi, rfl⟩ := List.mem_map.1 hz
  have := h i hi
  omega
theorem both_ok {zs ys : List Int} (h : ∀ z ∈ zs, 1 ≤ z ∧ z ≤ 10000) (h2 : ∀ z ∈ ys, 1 ≤ z ∧ z ≤ 10000) : ∀ z ∈ zs ++ ys, 1 ≤ z ∧ z ≤ 10000 := fun z hz => by
  rcases List.mem_append.1 hz with hz | hz
  · exact h z hz
  · exact h2 z hz
theorem rankR_of {f : Nat} {zs : List Int} (h : rdyE f zs = 0) : rankR f zs = rk f (rowsOf f zs) := by unfold rankR; rw [if_pos h, Int.toNat_natCast]
def fewTo (l : List Nat) (wo : Int) : Nat → List Nat
  | 0 => []
  | j + 1 => if (j : Int) = wo then fewTo l wo j else fewTo l wo j ++ [l.getD j 0]
theorem fewTo_mem (l : List Nat) (wo : Int) : ∀ j, j ≤ l.length → ∀ i ∈ fewTo l wo j, i ∈ l
  | 0, _, i, h => by cases h
  | j + 1, hj, i, h => by
    unfold fewTo at h
    split at h
    · exact fewTo_mem l wo j (by omega) i h
    · rcases List.mem_append.1 h with h | h
      · exact fewTo_mem l wo j (by omega) i h
      · rw [List.mem_singleton.1 h, List.getD_eq_getElem?_getD, List.getElem?_eq_getElem (by omega)]
        exact List.getElem_mem _
theorem fewTo_len (l : List Nat) (wo : Int) : ∀ j, (fewTo l wo j).length = if 0 ≤ wo ∧ wo < (j : Int) then j - 1 else j
  | 0 => by rw [if_neg (by omega)]; rfl
  | j + 1 => by
    have ih := fewTo_len l wo j
    unfold fewTo
    by_cases e : (j : Int) = wo
    · rw [if_pos e, ih, if_neg (by omega), if_pos (by omega)]; omega
    · rw [if_neg e, List.length_append, List.length_singleton, ih]
      by_cases h : 0 ≤ wo ∧ wo < (j : Int)
      · rw [if_pos h, if_pos (by omega)]; omega
      · rw [if_neg h, if_neg (by omega)]
theorem rank_all {f : Nat} {zs : List Int} (h2 : 1 ≤ f) (h3 : f ≤ 16) (h4 : ∀ z ∈ zs, 1 ≤ z ∧ z ≤ 10000) (hl : (zs ++ seedsOf (lackL f (rowsOf f zs) f)).length ≤ 60) : rankR f (zs ++ seedsOf (lackL f (rowsOf f zs) f)) = f ∧ rdyE f (zs ++ seedsOf (lackL f (rowsOf f zs) f)) = 0 := by
  have hlt := lackL_lt f (rowsOf f zs) f
  have he := rdyE_of (f := f) hl h2 h3 (both_ok h4 (seeds_ok hlt h3))
  refine ⟨?_, he⟩
  rw [rankR_of he, rows_app, rows_seedsOf f _ hlt]
  exact rk_filled (by omega) (rowsOf_bare h2 h4)
theorem rank_few {f : Nat} {zs : List Int} (h2 : 1 ≤ f) (h3 : f ≤ 16) (h4 : ∀ z ∈ zs, 1 ≤ z ∧ z ≤ 10000) (wo : Int) (hl : (zs ++ seedsOf (lackL f (rowsOf f zs) f)).length ≤ 60) :
    rdyE f (zs ++ seedsOf (fewTo (lackL f (rowsOf f zs) f) wo (lackL f (rowsOf f zs) f).length)) = 0 ∧
    (0 ≤ wo → wo < ((lackL f (rowsOf f zs) f).length : Int) → rankR f (zs ++ seedsOf (fewTo (lackL f (rowsOf f zs) f) wo (lackL f (rowsOf f zs) f).length)) < f) := by
  have hlt := lackL_lt f (rowsOf f zs) f
  have hmem := fewTo_mem (lackL f (rowsOf f zs) f) wo (lackL f (rowsOf f zs) f).length (Nat.le_refl _)
  have hfl := fewTo_len (lackL f (rowsOf f zs) f) wo (lackL f (rowsOf f zs) f).length
  have hlk := lack_len (k := f) (by omega) (rowsOf_bare h2 h4)
  have hll : (seedsOf (fewTo (lackL f (rowsOf f zs) f) wo (lackL f (rowsOf f zs) f).length)).length ≤ (lackL f (rowsOf f zs) f).length := by
    unfold seedsOf
    rw [List.length_map, hfl]; split <;> omega
  have hl1 : (seedsOf (lackL f (rowsOf f zs) f)).length = (lackL f (rowsOf f zs) f).length := List.length_map _
  rw [List.length_append, hl1] at hl
  have he := rdyE_of (f := f) (zs := zs ++ seedsOf (fewTo (lackL f (rowsOf f zs) f) wo (lackL f (rowsOf f zs) f).length)) (by rw [List.length_append]; omega) h2 h3 (both_ok h4 (seeds_ok (fun i hi => hlt i (hmem i hi)) h3))
  refine ⟨he, fun a b => ?_⟩
  rw [rankR_of he, rows_app, rows_seedsOf f _ (fun i hi => hlt i (hmem i hi))]
  have hb := (rowsOf_bare (k := f) h2 h4).append (bare_units (k := f) (fewTo (lackL f (rowsOf f zs) f) wo (lackL f (rowsOf f zs) f).length) (fun i hi => hlt i (hmem i hi)))
  have h5 := (rk_append (k := f) (by omega) _ _ rfl hb).2
  rw [List.length_map, hfl, if_pos ⟨a, by omega⟩] at h5
  omega
theorem first_full {f : Nat} {zs : List Int} (h1 : zs.length ≤ 60) (h2 : 1 ≤ f) (h3 : f ≤ 16) (h4 : ∀ z ∈ zs, 1 ≤ z ∧ z ≤ 10000) (hr : rk f (rowsOf f zs) = f) :
    ∃ F, firstR f zs = F ∧ firstE f zs = 0 ∧ f ≤ F ∧ F ≤ zs.length ∧ rankR f (zs.take F) = f ∧ rdyE f (zs.take F) = 0 ∧ rankR f (zs.take (F - 1)) < f ∧ rdyE f (zs.take (F - 1)) = 0 := by
  have he := rdyE_of h1 h2 h3 h4
  have hb := rowsOf_bare (k := f) h2 h4
  have hne := (fst_iff (by omega) h2 hb).2 hr
  obtain ⟨a1, a2, a3, a4⟩ := fstA_ne _ _ hne
  have hF : fstA f (rowsOf f zs) (rowsOf f zs).length 0 = fstN f (rowsOf f zs) := rfl
  rw [hF] at a1 a2 a3 a4
  rw [rowsOf_len] at a3
  have htk : ∀ j, rdyE f (zs.take j) = 0 := fun j => rdyE_of (by rw [List.length_take]; omega) h2 h3 fun z hz => h4 z (List.mem_of_mem_take hz)
  have hrt : ∀ j, rankR f (zs.take j) = rk f ((rowsOf f zs).take j) := fun j => by
    rw [rankR_of (htk j)]; unfold rowsOf; rw [List.map_take]
  refine ⟨fstN f (rowsOf f zs), by unfold firstR; rw [if_pos he, Int.toNat_natCast], by unfold firstE; rw [if_neg (by omega), Int.toNat_natCast, if_neg hne], ?_, by omega, by rw [hrt]; exact a1, htk _, ?_, htk _⟩
  · have := rk_len (k := f) (by omega) (hb.take (fstN f (rowsOf f zs)))
    rw [a1, List.length_take] at this
    omega
  · rw [hrt]
    have hle := rk_le f ((rowsOf f zs).take (fstN f (rowsOf f zs) - 1))
    by_cases e : fstN f (rowsOf f zs) = 1
    · rw [e]
      show rk f ((rowsOf f zs).take 0) < f
      rw [List.take_zero, rk_nil]; omega
    · have := a4 (fstN f (rowsOf f zs) - 2) (by omega) (by omega)
      rw [show fstN f (rowsOf f zs) - 2 + 1 = fstN f (rowsOf f zs) - 1 by omega] at this
      omega
theorem first_none {f : Nat} {zs : List Int} (h1 : zs.length ≤ 60) (h2 : 1 ≤ f) (h3 : f ≤ 16) (h4 : ∀ z ∈ zs, 1 ≤ z ∧ z ≤ 10000) (hr : rk f (rowsOf f zs) ≠ f) : firstR f zs = 0 ∧ firstE f zs = 8 := by
  have he := rdyE_of h1 h2 h3 h4
  have hz : fstN f (rowsOf f zs) = 0 := by
    by_cases e : fstN f (rowsOf f zs) = 0
    · exact e
    · exact absurd ((fst_iff (by omega) h2 (rowsOf_bare h2 h4)).1 e) hr
  constructor
  · unfold firstR; rw [if_pos he, Int.toNat_natCast, hz]
  · unfold firstE; rw [if_neg (by omega), Int.toNat_natCast, if_pos hz]
theorem ofNats_len (l : List Nat) : (ofNats l).length = l.length := List.length_map _
theorem ofNats_getD (l : List Nat) (j : Nat) (h : j < l.length) : (ofNats l).getD j 0 = (l.getD j 0 : Int) := by
  unfold ofNats
  rw [List.getD_eq_getElem?_getD, List.getElem?_map, List.getD_eq_getElem?_getD, List.getElem?_eq_getElem h]; rfl
theorem seedsOf_snoc (l : List Nat) (i : Nat) : seedsOf (l ++ [i]) = seedsOf l ++ [(i : Int) + 1] := by unfold seedsOf; rw [List.map_append]; rfl
end Go.Proofs.YtcpookgbneoilaaDoor

namespace Go.Proofs.YtcpookgbneoilaaDoor
open Go.ChangeShapes Go.WideShapes Go.ChangeAt Go.RowKit

theorem flat_snoc (A : List Vec) (x : Vec) : ((A ++ [x]).map lineC).flatten = (A.map lineC).flatten ++ lineC x := by
  rw [List.map_append, List.flatten_append]; simp
theorem run_app_line (w : World) (B : Nat) (ty : TypeId) (v : Value) (A : List Vec) (hown : OwnL w B v A) (ad : Addr) (x : Vec) (hx : ∀ j u, (lineC x)[j]? = some u → w.cell? (ad.add j) = some u) (hn : A.length < 1000000) (hB : B ≤ w.heap.size) :
    ∃ v' w', (Builtin.append_ #[76, 76] ty #[v, .slice (some ad) 1 1]).run Tryd.prog w = .ok v' w' ∧ OwnL w' B v' (A ++ [x]) ∧ OwnL w' B v A ∧ Fr (fun k => v.ownBlock = some k) w w' ∧ (∀ k, v'.ownBlock = some k → v.ownBlock = some k ∨ w.heap.size ≤ k) := by
  obtain ⟨i, hi, hz, hsz, hby⟩ := info_parts line_info
  have ht := Tryd.underlying76
  have hcl := lineC_len x
  have h1 := lineC_one x
  obtain ⟨hs, hfl, hor⟩ := hown
  rw [List.length_map] at hfl hor
  have hs2 : ∀ r ∈ (A ++ [x]).map lineC, r.length = 17 := fun r hr => by
    obtain ⟨u, _, rfl⟩ := List.mem_map.1 hr
    exact lineC_len u
  have hlen : ((A ++ [x]).map lineC).flatten.length = ((A ++ [x]).map lineC).length * 17 := flat_len hs2
  have hl2 : ((A ++ [x]).map lineC).length = A.length + 1 := by rw [List.length_map, List.length_append]; rfl
  have hfx := flat_snoc A x
  have grown : ∀ (old : Nat), old < A.length + 1 →
      OwnL (w.drew.alloc (.cells ((A.map lineC).flatten.toArray ++ (lineC x).toArray ++ Builtin.zeroCells (lineV (0, [])).cells (grownCap w (A.length + 1) old 78 - (A.length + 1))) 78)) B
        (.slice (some ⟨w.heap.size, 0, none⟩) (A.length + 1) (grownCap w (A.length + 1) old 78)) (A ++ [x]) := fun old ho => by
    have hge := grownCap_ge w (A.length + 1) old 78
    have hcm : grownCap w (A.length + 1) old 78 ≤ maxLen := grownCap_le_maxLen w (A.length + 1) old _ (by unfold maxLen; omega)
    refine ⟨hs2, hlen, .inr ⟨w.heap.size, _, _, by rw [hl2], hB, heap_alloc_new w.drew _, by rw [hl2]; exact hge, hcm, ?_, ?_⟩⟩
    · have hzs : (lineV (0, [])).cells.size = 17 := by show (lineC (0, [])).toArray.size = 17; rw [List.size_toArray, lineC_len]
      simp only [Array.size_append, List.size_toArray, size_zeroCells, hzs, hfl, hcl]
      omega
    · simp only [Array.toList_append, List.append_assoc]
      rw [← List.append_assoc, ← hfx, ← hlen]
      exact List.take_left
  have keepV : ∀ o, OwnL w B v A → OwnL (w.drew.alloc o) B v A := fun o h => OwnL.keep h ((Lat.drew w).trans (Lat.alloc _ _))
  have frN : ∀ o, Fr (fun k => v.ownBlock = some k) w (w.drew.alloc o) := fun o => Fr.lat ((Lat.drew w).trans (Lat.alloc _ _))
  have hown2 : OwnL w B v A := ⟨hs, by rw [List.length_map]; exact hfl, by rw [List.length_map]; exact hor⟩
  rcases hor with ⟨rfl, h0⟩ | ⟨g, cap, cur, rfl, hbg, hg, hnc, hcm, hcs, htake⟩
  · have hA : A = [] := List.eq_nil_of_length_eq_zero h0
    subst hA
    have hr := run_append_nil (P := Tryd.prog) w 76 ty 78 i _ ht hi hz ad 1 1 (lineC x) (by rw [hcl, hsz]) hx (by omega) (by omega) (by rw [hby]; omega)
    have hgr := grown 0 (by omega)
    refine ⟨_, _, hr, ?_, keepV _ hown2, frN _, fun k hk => ?_⟩
    · simpa using hgr
    · cases hk; exact .inr (Nat.le_refl _)
  · by_cases hroom : A.length + 1 ≤ cap
    · have hfit : A.length * i.size + (lineC x).length ≤ cur.size := by
        rw [hcl, hcs, hsz, ← Nat.succ_mul]
        exact Nat.mul_le_mul_right _ hroom
      have hr := run_append_room (P := Tryd.prog) w 76 ty 78 i ht hi g A.length cap cur hg ad 1 1 (lineC x) (by rw [hcl, hsz]) hx h1 hroom hfit
      rw [hsz] at hr hfit
      have hcl2 : cur.toList.length = cap * 17 := (Array.length_toList (xs := cur)).trans hcs
      have hsz2 : (cur.toList.take (A.length * 17) ++ lineC x ++ cur.toList.drop (A.length * 17 + (lineC x).length)).toArray.size = cap * 17 := by
        simp only [List.size_toArray, List.length_append, List.length_take, List.length_drop, hcl2]
        rw [hcs] at hfit
        omega
      refine ⟨_, _, hr, ⟨hs2, hlen, .inr ⟨g, cap, _, by rw [hl2], hbg, setRow_heap w g cur _ _ _ hg, by rw [hl2]; exact hroom, hcm, hsz2, ?_⟩⟩, ⟨hs, by rw [List.length_map]; exact hfl, .inr ⟨g, cap, _, by rw [List.length_map], hbg, setRow_heap w g cur _ _ _ hg, by rw [List.length_map]; exact hnc, hcm, hsz2, ?_⟩⟩, ⟨rfl, rfl, rfl, by simp, fun k _ hk => setRow_other w g k _ (fun e => hk (by rw [e]; rfl))⟩, fun k hk => .inl hk⟩
      · rw [htake, ← hfx, ← hlen]
        exact List.take_left
      · rw [htake, List.length_map, List.append_assoc, ← hfl]
        exact List.take_left
    · have holds : ∀ j u, (A.map lineC).flatten[j]? = some u → w.cell? ((⟨g, 0, none⟩ : Addr).add j) = some u := fun j u hu => World.ownsRow.cells hown2.2 (g := g) rfl j u hu
      have hr := run_append_grow (P := Tryd.prog) w 76 ty 78 i _ ht hi hz ⟨g, 0, none⟩ A.length cap (A.map lineC).flatten (by rw [hfl, hsz]) holds ad 1 1 (lineC x) (by rw [hcl, hsz]) hx (by omega) (by unfold maxLen at hcm; omega) (growslice_fits (by omega) (by rw [hby]; omega))
      have hgr := grown cap (by omega)
      exact ⟨_, _, hr, hgr, keepV _ hown2, frN _, fun k hk => by cases hk; exact .inr (Nat.le_refl _)⟩
theorem fold_zip : ∀ (l : List Value) (k : Nat) (cs : Array Value), k + l.length = cs.size → (List.foldl (fun (cs : Array Value) (x : Value × Nat) => cs.setIfInBounds x.snd x.fst) cs (l.zipIdx k)).toList = cs.toList.take k ++ l
  | [], k, cs, h => by
    have hl : cs.toList.length = cs.size := Array.length_toList
    rw [List.zipIdx_nil, List.foldl_nil, List.append_nil, List.take_of_length_le (by rw [List.length_nil] at h; omega)]
  | v :: r, k, cs, h => by
    rw [List.length_cons] at h
    have hl : cs.toList.length = cs.size := Array.length_toList
    rw [List.zipIdx_cons, List.foldl_cons, fold_zip r (k + 1) _ (by rw [Array.size_setIfInBounds]; omega), Array.toList_setIfInBounds, List.take_set, List.take_succ_eq_append_getElem (by omega), List.set_append_right _ _ (by rw [List.length_take]; omega), List.length_take, Nat.min_eq_left (by omega), Nat.sub_self]
    simp
theorem bs_line (u : Vec) : List.foldl (fun (cs : Array Value) (x : Value × Nat) => cs.setIfInBounds x.snd x.fst) #[Value.bool false, Value.bool false, Value.bool false, Value.bool false, Value.bool false, Value.bool false, Value.bool false, Value.bool false, Value.bool false, Value.bool false, Value.bool false, Value.bool false, Value.bool false, Value.bool false, Value.bool false, Value.bool false, Value.string { data := #[] }] (lineC u).zipIdx = (lineC u).toArray := by
  refine Array.ext' ?_
  rw [fold_zip (lineC u) 0 _ (by rw [lineC_len]; rfl), List.take_zero, List.nil_append]
theorem app_line (wr : World) (B : Nat) {ops : Array Oper} {rest : List Oper} {o : Oper} {a : Act} {Q : Exit → Act → World → Prop}
    (hg : o.guard = none) (s x : Operand) (ho : o.op = .call { callee := .builtin .append, args := #[s, x], argTypes := #[76, 76] })
    (v : Value) (A : List Vec) (u : Vec) (hs : a.eval s = v) (hown : OwnL wr B v A) (hx : a.eval x = .slice (some ⟨wr.heap.size, 0, none⟩) 1 1)
    (hn : A.length < 1000000) (hB : B ≤ wr.heap.size)
    (K : ∀ v' w', OwnL w' B v' (A ++ [u]) → OwnL w' B v A → Fr (fun k => v.ownBlock = some k) wr w' → wpList Tryd.prog ops Q rest (a.put o.dst v') w') :
    wpList Tryd.prog ops Q (o :: rest) a (wr.alloc (.cells (lineC u).toArray 78)) := by
  obtain ⟨v', w', hrun, h2, h3, h4, _⟩ := run_app_line (wr.alloc (.cells (lineC u).toArray 78)) B o.type v A (hown.keep (Lat.alloc _ _)) ⟨wr.heap.size, 0, none⟩ u (fun j y hy => by rw [Addr.add_lit, World.cell?_alloc_at _ _ _ _ rfl, Nat.zero_add]; simpa using hy) hn (by simp; omega)
  refine wpList_plain hg fun K' hK => ?_
  unfold Oper.wp execOp
  simp only [ho, resolve, invoke, builtin, Sem.run_bind, Sem.run_pure, Result.andThen_ok, List.map_toArray, List.map_cons, List.map_nil, hs, hx, hrun]
  exact hK _ _ (K v' w' h2 h3 ((Fr.lat (Lat.alloc _ _)).trans h4 (fun _ _ e => e)))
end Go.Proofs.YtcpookgbneoilaaDoor

namespace Go.Proofs.YtcpookgbneoilaaDoor
open Go.ChangeShapes Go.WideShapes Go.ChangeAt Go.RowKit

def putL (zs : List Int) (v : Int) : List Int := zs.takeWhile (fun x => decide (x < v)) ++ v :: zs.dropWhile (fun x => decide (x < v))
theorem tw_split (v : Int) : ∀ (zs : List Int) (k : Nat), k ≤ zs.length → (∀ j, j < k → zs.getD j 0 < v) → (k = zs.length ∨ ¬ zs.getD k 0 < v) →
    zs.take k = zs.takeWhile (fun x => decide (x < v)) ∧ zs.drop k = zs.dropWhile (fun x => decide (x < v))
  | [], k, hk, _, _ => by simp
  | z :: zs, 0, _, _, h => by
    have hz : ¬ z < v := by
      rcases h with h | h
      · simp at h
      · simpa using h
    simp [hz]
  | z :: zs, k + 1, hk, h1, h2 => by
    have hz : z < v := by simpa using h1 0 (by omega)
    have ih := tw_split v zs k (by simpa using hk) (fun j hj => by simpa using h1 (j + 1) (by omega)) (by simpa using h2)
    simp [hz, ih.1, ih.2]
theorem putL_length (zs : List Int) (v : Int) : (putL zs v).length = zs.length + 1 := by
  have h := congrArg List.length (List.takeWhile_append_dropWhile (p := fun x : Int => decide (x < v)) (l := zs))
  rw [List.length_append] at h
  unfold putL
  rw [List.length_append, List.length_cons]; omega
theorem putL_perm (zs : List Int) (v : Int) : (putL zs v).Perm (v :: zs) := by
  unfold putL
  refine List.perm_middle.trans ?_
  rw [List.takeWhile_append_dropWhile]
theorem mem_putL (zs : List Int) (v x : Int) : x ∈ putL zs v ↔ x = v ∨ x ∈ zs := by
  rw [(putL_perm zs v).mem_iff, List.mem_cons]
theorem dropWhile_ge (v : Int) : ∀ (zs : List Int), zs.Pairwise (· ≤ ·) → ∀ x ∈ zs.dropWhile (fun x => decide (x < v)), v ≤ x
  | [], _, x, hx => by simp at hx
  | z :: zs, h, x, hx => by
    rw [List.pairwise_cons] at h
    by_cases hz : z < v
    · rw [List.dropWhile_cons, if_pos (by simpa using hz)] at hx
      exact dropWhile_ge v zs h.2 x hx
    · rw [List.dropWhile_cons, if_neg (by simpa using hz)] at hx
      rcases List.mem_cons.1 hx with e | e
      · omega
      · have := h.1 x e; omega
theorem takeWhile_lt (v : Int) : ∀ (zs : List Int), ∀ x ∈ zs.takeWhile (fun x => decide (x < v)), x < v
  | [], x, hx => by simp at hx
  | z :: zs, x, hx => by
    by_cases hz : z < v
    · rw [List.takeWhile_cons, if_pos (by simpa using hz)] at hx
      rcases List.mem_cons.1 hx with e | e
      · omega
      · exact takeWhile_lt v zs x e
    · rw [List.takeWhile_cons, if_neg (by simpa using hz)] at hx; simp at hx
theorem putL_sorted (zs : List Int) (v : Int) (h : zs.Pairwise (· ≤ ·)) : (putL zs v).Pairwise (· ≤ ·) := by
  have hsp := List.takeWhile_append_dropWhile (p := fun x : Int => decide (x < v)) (l := zs)
  rw [← hsp, List.pairwise_append] at h
  obtain ⟨h1, h2, _⟩ := h
  have hg := dropWhile_ge v zs (by rw [← hsp, List.pairwise_append]; exact ⟨h1, h2, ‹_›⟩)
  unfold putL
  rw [List.pairwise_append, List.pairwise_cons]
  refine ⟨h1, ⟨fun x hx => hg x hx, h2⟩, fun a ha b hb => ?_⟩
  have := takeWhile_lt v zs a ha
  rcases List.mem_cons.1 hb with e | e
  · omega
  · have := hg b e; omega
abbrev srt (zs : List Int) : List Int := zs.mergeSort (fun x y => decide (x ≤ y))
theorem srt_sorted (zs : List Int) : (srt zs).Pairwise (· ≤ ·) :=
  (List.pairwise_mergeSort (le := fun x y : Int => decide (x ≤ y)) (fun a b c h1 h2 => by simp only [decide_eq_true_eq] at *; omega) (fun a b => by simp only [Bool.or_eq_true, decide_eq_true_eq]; omega) zs).imp (fun {a b} h => by simpa using h)
theorem sorted_eq {a b : List Int} (ha : a.Pairwise (· ≤ ·)) (hb : b.Pairwise (· ≤ ·)) (h : a.Perm b) : a = b :=
  List.Perm.eq_of_pairwise (le := (· ≤ ·)) (fun _ _ _ _ h1 h2 => Int.le_antisymm h1 h2) ha hb h
theorem putL_srt (zs : List Int) (v : Int) : putL (srt zs) v = srt (zs ++ [v]) := by
  refine sorted_eq (putL_sorted _ _ (srt_sorted _)) (srt_sorted _) ?_
  refine (putL_perm _ _).trans ?_
  refine ((List.mergeSort_perm zs _).cons v).trans ?_
  refine List.Perm.trans ?_ (List.mergeSort_perm (zs ++ [v]) _).symm
  exact (List.perm_append_singleton v zs).symm

theorem IntsAt.from_ {w : World} {a : Option Addr} {n cap : Nat} {zs : List Int} (h : IntsAt w a n cap zs) (k : Nat) (hk : k ≤ n) : IntsAt w (if cap = k then a else a.map (·.add k)) (n - k) (cap - k) (zs.drop k) := by
  have hl := h.len
  have hle := h.row.le
  refine ⟨by rw [List.length_drop, hl], ⟨by omega, by have := h.row.cap; unfold maxLen at this ⊢; omega, fun hne => ?_⟩, fun z hz => h.wf z (List.mem_of_mem_drop hz)⟩
  obtain ⟨b, o, rfl, hc⟩ := h.row.at_ (by omega)
  rw [if_neg (by omega)]
  refine ⟨b, o + k, by rw [Option.map_some, Addr.add_lit], fun j hj => ?_⟩
  have := hc (k + j) (by omega)
  rw [Nat.add_assoc, this]
  congr 2
  rw [List.getD_eq_getElem?_getD, List.getD_eq_getElem?_getD, List.getElem?_drop]

set_option maxHeartbeats 1000000 in
set_option maxRecDepth 100000 in
theorem refPut (a : Option Addr) (n cap : Nat) (zs : List Int) (v : Int) (w : World) (h : IntsAt w a n cap zs) (hn : n ≤ 1000000) :
    Calls Tryd.prog 33 #[.slice a n cap, .int .i64 v] w fun e w' => ∃ u, e = .returned u ∧ OwnInts w' w.heap.size u (putL zs v) ∧ Lat w w' := by
  have hcap2 := h.row.cap
  have hle2 := h.row.le
  unfold maxLen at hcap2
  have hl := h.len
  have H := Lib.hid h
  have HL := Lib.hid hl
  clear h hl
  go_enter Tryd.func33, Tryd.ntmps33
  go_wp2
  go_loopw [5, 6] (fun u i wr => ∃ k : Nat, k ≤ n ∧ i = .int .i64 k ∧ Hid (OwnInts wr w.heap.size u (zs.take k) ∧ Lat w wr ∧ ∀ j, j < k → zs.getD j 0 < v)) (fun _ i _ => n - (intOf i).toNat)
  case atStart => exact ⟨0, Nat.zero_le _, rfl, by rw [List.take_zero]; exact Own.nil _ _ _, Lat.refl _, fun j hj => by omega⟩
  case round =>
    obtain ⟨k, hk, rfl, hrel⟩ := hrel
    have hsp : (k = n ∨ ¬ zs.getD k 0 < v) ∨ (k < n ∧ zs.getD k 0 < v) := by
      by_cases h1 : k < n
      · by_cases h2 : zs.getD k 0 < v
        · exact .inr ⟨h1, h2⟩
        · exact .inl (.inr h2)
      · exact .inl (.inl (by omega))
    have HA := Lib.hid (H.out.keep hrel.out.2.1)
    rcases hsp with hend | ⟨hlt, hz⟩
    · have hw := tw_split v zs k (by rw [HL.out]; exact hk) hrel.out.2.2 (by rw [HL.out]; exact hend)
      have hfin : putL zs v = (zs.take k ++ [v]) ++ zs.drop k := by
        unfold putL; rw [hw.1, hw.2, List.append_assoc]; rfl
      have HF := Lib.hid hfin
      have hlen : (zs.take k).length < 1000000000000 := by rw [List.length_take]; omega
      have hlen2 : (zs.take k ++ [v]).length + (n - k) < 1000000000000 := by rw [List.length_append, List.length_take, List.length_singleton]; omega
      have HLN := Lib.hid hlen
      have HLN2 := Lib.hid hlen2
      have hc : (decide (k < n) = false ∧ n ≤ k) ∨ (decide ((k : Int) < (n : Int)) = true ∧ ∃ b o, a = some ⟨b, o, none⟩ ∧ wr.cell? ⟨b, o + k, none⟩ = some (.int .i64 (zs.getD k 0)) ∧ decide (zs.getD k 0 < v) = false ∧ k < n) := by
        by_cases h1 : k < n
        · right
          obtain ⟨b, o, ha, hc⟩ := HA.out.row.at_ (by omega)
          exact ⟨decide_eq_true (by omega), b, o, ha, hc k h1, decide_eq_false (by rcases hend with h2 | h2; omega; exact h2), h1⟩
        · exact .inl ⟨decide_eq_false (by omega), by omega⟩
      clear hend hw hfin hlen hlen2
      rcases hc with ⟨dk, hge⟩ | ⟨dk, b, o, rfl, ck, dz, hlt⟩
      rotate_left
      focus
        obtain ⟨z, hz⟩ : ∃ z, z = zs.getD k 0 := ⟨_, rfl⟩
        rw [← hz] at ck dz
        clear hz
      rotate_left
      focus
        have i1 : (0 : Int) ≤ (k : Int) := by omega
        have i2 : (k : Int) ≤ (n : Int) := by omega
        go_upto_region 7 with (at_builtin; refine app_int wr w _ rfl (.tmp 28) (.tmp 30) rfl _ _ v rfl hrel.out.1 rfl HLN.out rfl hrel.out.2.1 ?_; intro v' w2 hown' hb' _)
        have hat := (H.out.keep hb').from_ k hk
        obtain ⟨A2, hA2⟩ : ∃ A2, A2 = (if cap = k then a else a.map (·.add k)) := ⟨_, rfl⟩
        rw [← hA2, show n - k = 0 from by omega] at hat
        have hrun : ∀ W : World, (Instr.slice 32 (.slice a n cap) (some (.int .i64 k)) none none).run Tryd.prog W = .ok (.slice A2 0 (cap - k)) W := fun W => by
          rw [hA2, ← show n - k = 0 from by omega]; simp [go_sem, i1, i2]
        have HAT := Lib.hid hat
        have hl3 : (zs.take k ++ [v]).length + 0 < 1000000000000 := by have := HLN2.out; omega
        have HLN3 := Lib.hid hl3
        clear hl3
        clear hA2 hat
        go_wp2_with (at_builtin; refine app_ints _ w _ rfl (.tmp 32) (.tmp 35) rfl _ _ (zs.drop k) rfl hown' _ 0 _ rfl HAT.out HLN3.out rfl hb' ?_; intro v'' w3 hown'' hb'' _)
        go_ret
        exact ⟨_, rfl, by rw [HF.out]; exact hown'', hb''⟩
      focus
        have i1 : (0 : Int) ≤ (k : Int) := by omega
        have i2 : (k : Int) ≤ (n : Int) := by omega
        go_upto_region 7 with (at_builtin; refine app_int wr w _ rfl (.tmp 28) (.tmp 30) rfl _ _ v rfl hrel.out.1 rfl HLN.out rfl hrel.out.2.1 ?_; intro v' w2 hown' hb' _)
        have hat := (H.out.keep hb').from_ k hk
        rw [if_neg (by omega), Option.map_some, Addr.add_lit] at hat
        have HAT := Lib.hid hat
        clear hat
        go_wp2_with (at_builtin; refine app_ints _ w _ rfl (.tmp 32) (.tmp 35) rfl _ _ (zs.drop k) rfl hown' _ (n - k) _ rfl HAT.out HLN2.out rfl hb' ?_; intro v'' w3 hown'' hb'' _)
        go_ret
        exact ⟨_, rfl, by rw [HF.out]; exact hown'', hb''⟩
    · obtain ⟨b, o, rfl, hc⟩ := HA.out.row.at_ (by omega)
      have ck := hc k hlt
      have hst : zs.take (k + 1) = zs.take k ++ [zs.getD k 0] := by
        have hkz : k < zs.length := by rw [HL.out]; exact hlt
        rw [List.take_succ_eq_append_getElem hkz, List.getD_eq_getElem?_getD, List.getElem?_eq_getElem hkz]; rfl
      have hall : ∀ j, j < k + 1 → zs.getD j 0 < v := fun j hj => by
        by_cases e : j = k
        · subst e; exact hz
        · exact hrel.out.2.2 j (by omega)
      have HALL := Lib.hid hall
      have HST := Lib.hid hst
      have hlen : (zs.take k).length < 1000000000000 := by rw [List.length_take]; omega
      have HLN := Lib.hid hlen
      obtain ⟨z, hze⟩ : ∃ z, z = zs.getD k 0 := ⟨_, rfl⟩
      rw [← hze] at ck hz
      have HZE := Lib.hid hze
      have dk : decide ((k : Int) < (n : Int)) = true := decide_eq_true (by omega)
      have dz : decide (z < v) = true := decide_eq_true hz
      clear hc hst hall hlen hze
      go_wp2_with (at_builtin; refine app_int wr w _ rfl _ _ rfl _ _ z rfl hrel.out.1 rfl HLN.out rfl hrel.out.2.1 ?_; intro v' w2 hown' hb' _)
      go_roundw
      case rel => exact ⟨k + 1, by omega, by go_num, by rw [HST.out, ← HZE.out]; exact hown', hb', HALL.out⟩
      case measure => simp [intOf]; omega
end Go.Proofs.YtcpookgbneoilaaDoor

namespace Go.Proofs.YtcpookgbneoilaaDoor
open Go.ChangeShapes Go.WideShapes Go.ChangeAt Go.RowKit

theorem degF_top (k n : Nat) (h0 : ¬ n * k < 1000) (h2 : 2 ≤ k) (h3 : ∀ x, 2 ≤ x → x < k → ¬ dgc k n x) : degF k n = k := by
  unfold degF; rw [if_neg h0]; exact degFrom_eq k n (k - 2) 2 k h2 (by omega) h3 (.inr (by omega))

set_option maxHeartbeats 400000 in
set_option maxRecDepth 100000 in
theorem refDegree (k n : Nat) (w : World) (hk : 1 ≤ k) (hk2 : k ≤ 16) (hn : n ≤ 999) :
    Calls Tryd.prog 50 #[.int .i64 k, .int .i64 n] w fun e w' => e = .returned (.int .i64 (degF k n)) ∧ w = w' := by
  have hp : n * k ≤ 999 * 16 := Nat.mul_le_mul hn hk2
  have hp' : (n : Int) * (k : Int) ≤ 15984 := by rw [← Int.natCast_mul]; omega
  have hp0 : 0 ≤ (n : Int) * (k : Int) := by rw [← Int.natCast_mul]; omega
  by_cases h1 : n * k < 1000
  · have e1 : degF k n = 1 := by unfold degF; rw [if_pos h1]
    have E := Lib.hid e1; clear e1
    have h1' : (n : Int) * (k : Int) < 1000 := by rw [← Int.natCast_mul]; omega
    clear hp h1
    go_enter Tryd.func50, Tryd.ntmps50
    go_wp2
    go_ret
    exact ⟨by rw [E.out]; rfl, rfl⟩
  · have h1' : 1000 ≤ (n : Int) * (k : Int) := by rw [← Int.natCast_mul]; omega
    have h1b : decide ((n : Int) * (k : Int) < 1000) = false := decide_eq_false (by omega)
    have HN := Lib.hid h1
    have hk3 : 2 ≤ k := by
      rcases Nat.lt_or_ge k 2 with h2 | h2
      · have : k = 1 := by omega
        subst this; omega
      · exact h2
    clear hp h1
    go_enter Tryd.func50, Tryd.ntmps50
    go_wp2
    go_loop [5] (fun d => ∃ j : Nat, 2 ≤ j ∧ j ≤ k ∧ d = .int .i64 j ∧ Hid (∀ x, 2 ≤ x → x < j → ¬ dgc k n x)) (fun d => k - (intOf d).toNat)
    case atStart => exact ⟨2, Nat.le_refl _, hk3, rfl, fun x h1 h2 => by omega⟩
    case round =>
      obtain ⟨j, hj, hjk, rfl, hrel⟩ := hrel
      by_cases hlt : j < k
      · obtain ⟨A, hA⟩ : ∃ A, A = n * k * j := ⟨_, rfl⟩
        obtain ⟨B, hB⟩ : ∃ B, B = k * (j - 1) := ⟨_, rfl⟩
        have a1 : A ≤ 999 * 16 * 16 := by rw [hA]; exact Nat.mul_le_mul (Nat.mul_le_mul hn hk2) (by omega)
        have b1 : B ≤ 16 * 16 := by rw [hB]; exact Nat.mul_le_mul hk2 (by omega)
        have eA : (n : Int) * (k : Int) * (j : Int) = (A : Int) := by rw [hA]; simp
        have eB : (k : Int) * ((j : Int) - 1) = (B : Int) := by rw [hB, show ((j : Int) - 1) = ((j - 1 : Nat) : Int) from by omega]; simp
        have bA : 0 ≤ (n : Int) * (k : Int) * (j : Int) ∧ (n : Int) * (k : Int) * (j : Int) ≤ 255744 := by rw [eA]; omega
        have bB : 0 ≤ (k : Int) * ((j : Int) - 1) ∧ (k : Int) * ((j : Int) - 1) ≤ 256 := by rw [eB]; omega
        have hdg : dgc k n j ↔ (n : Int) * (k : Int) * (j : Int) < 1000 * ((j : Int) + (k : Int) * ((j : Int) - 1)) := by
          unfold dgc; rw [eA, eB, ← hA, ← hB]; omega
        have HD := Lib.hid hdg
        clear eA eB hdg hA hB a1 b1
        by_cases hc : (n : Int) * (k : Int) * (j : Int) < 1000 * ((j : Int) + (k : Int) * ((j : Int) - 1))
        · have he : degF k n = j := degF_eq k n j HN.out hj hjk hrel.out (HD.out.2 hc)
          have E := Lib.hid he; clear he
          go_wp2
          go_ret
          exact ⟨congrArg (fun x : Nat => Ending.returned (.int .i64 (x : Int))) E.out.symm, rfl⟩
        · have hc' : 1000 * ((j : Int) + (k : Int) * ((j : Int) - 1)) ≤ (n : Int) * (k : Int) * (j : Int) := by omega
          have HC := Lib.hid hc
          clear hc
          go_wp2
          go_round
          case rel => exact ⟨j + 1, by omega, by omega, by go_num, fun x h1 h2 => by
            by_cases hx : x = j
            · subst hx; intro h; exact HC.out (HD.out.1 h)
            · exact hrel.out x h1 (by omega)⟩
          case measure => simp [intOf]; omega
      · obtain rfl : j = k := by omega
        have he : degF j n = j := degF_top j n HN.out hk3 hrel.out
        have E := Lib.hid he; clear he
        go_wp2
        go_ret
        exact ⟨congrArg (fun x : Nat => Ending.returned (.int .i64 (x : Int))) E.out.symm, rfl⟩
end Go.Proofs.YtcpookgbneoilaaDoor

namespace Go.Proofs.YtcpookgbneoilaaDoor
open Go.ChangeShapes Go.WideShapes Go.ChangeAt Go.RowKit

theorem refNext (n : Nat) (w : World) (h1 : n ≤ 2147483647) :
    Calls Tryd.prog 49 #[.int .i64 n] w fun e w' => e = .returned (.int .i64 (nxtN n)) ∧ w = w' := by
  go_enter Tryd.func49, Tryd.ntmps49
  go_wp2
  go_ret
  exact ⟨by rw [← nxt_cast]; rfl, rfl⟩

set_option maxHeartbeats 1000000 in
set_option maxRecDepth 100000 in
theorem refSet (k seed : Nat) (w : World) (h1 : 1 ≤ k) (h2 : k ≤ 16) (h3 : 1 ≤ seed) (h4 : seed ≤ 10000) :
    Calls Tryd.prog 31 #[.int .i64 k, .int .i64 seed] w fun e w' => ∃ a cap, e = .returned (.slice a (setZ k seed).length cap) ∧ IntsAt w' a (setZ k seed).length cap (setZ k seed) ∧ Lat w w' := by
  by_cases hle : seed ≤ k
  · have d1 : decide (seed ≤ k) = true := decide_eq_true hle
    have e1 : setZ k seed = [((seed - 1 : Nat) : Int)] := by unfold setZ; rw [if_pos hle]
    have e2 : (seed : Int) - 1 = ((seed - 1 : Nat) : Int) := by omega
    have hat := ints_new w [(seed : Int) - 1] 3 (by simp) (by intro z hz; rw [List.mem_singleton] at hz; subst hz; omega)
    rw [e1, ← e2]
    have HT := Lib.hid hat
    clear hat e1 e2
    go_enter Tryd.func31, Tryd.ntmps31
    go_wp2
    go_ret
    exact ⟨_, _, rfl, HT.out, Lat.alloc _ _⟩
  · have d1 : decide (seed ≤ k) = false := decide_eq_false hle
    have hl := drawn_length k seed h1 h2 (by omega) h4
    obtain ⟨d, hd⟩ : ∃ d, d = degF k (nxtN seed % 1000) := ⟨_, rfl⟩
    have hdb := degF_bd k (nxtN seed % 1000) h1 (by omega)
    rw [← hd] at hl hdb
    have hdr : dgo k d 150 (nxtN seed) [] = drawn k seed := by rw [hd]; rfl
    have hset : setZ k seed = srt ((drawn k seed).map Int.ofNat) := by unfold setZ; rw [if_neg hle]
    have hsl : (setZ k seed).length = d := by rw [hset, List.length_mergeSort, List.length_map, hl]
    rw [hsl]
    have HD := Lib.hid hd; have HL := Lib.hid hl; have HDR := Lib.hid hdr; have HS := Lib.hid hset; have HSL := Lib.hid hsl
    have hs3 := nxtN_lt seed
    clear hd hl hdr hset hle hsl
    go_enter Tryd.func31, Tryd.ntmps31
    go_wp2_with (first | (go_at_call 49; refine (refNext seed _ (by omega)).mono ?_; rintro e w' ⟨rfl, rfl⟩) | (go_at_call 50; refine (refDegree k (nxtN seed % 1000) _ h1 h2 (by omega)).mono ?_; rw [← HD.out]; rintro e w' ⟨rfl, rfl⟩))
    have hd0 : 1 ≤ d := hdb.1
    have hd16 : d ≤ 16 := by omega
    clear hdb
    go_loopg [5, 7] 150 (fun f nv v wr => ∃ (nn : Nat) (L : List Nat) (a : Option Addr) (ln cap : Nat), nv = .int .i64 nn ∧ nn < 2147483647 ∧ v = .slice a ln cap ∧ Hid (ln = L.length ∧ IntsAt wr a ln cap (srt (L.map Int.ofNat)) ∧ Lat w wr ∧ dgo k d f nn L = drawn k seed ∧ L.length ≤ d ∧ ∀ i ∈ L, i < k))
    case atStart => exact ⟨nxtN seed, [], none, 0, 0, rfl, hs3, rfl, rfl, by rw [List.map_nil, srt, List.mergeSort_nil]; exact IntsAt.nil _, Lat.refl _, HDR.out, Nat.zero_le _, by simp⟩
    case round =>
      obtain ⟨nn, L, a, ln, cap, rfl, hnn, rfl, hrel⟩ := hrel
      obtain ⟨hln2, hat, hb, hdg, hLd, hLk⟩ := hrel.out
      have hlb : ln ≤ 16 := by omega
      have HDG := Lib.hid hdg; have HLN := Lib.hid hln2; have HLK := Lib.hid hLk; have HA := Lib.hid hat; have HB := Lib.hid hb
      have hnext := nxtN_lt nn
      by_cases hlt : ln < d
      · have hgk : ∃ g, gk = g + 1 := by
          rcases Nat.eq_zero_or_pos gk with h0 | h0
          · subst h0
            exfalso
            have e : L = drawn k seed := hdg
            have := HL.out
            rw [← e] at this
            omega
          · exact ⟨gk - 1, by omega⟩
        obtain ⟨g, hg⟩ := hgk
        have hstep : dgo k d g (nxtN nn) (if nxtN nn % k ∈ L then L else L ++ [nxtN nn % k]) = drawn k seed := by
          rw [hg] at hdg
          rw [← hdg]
          have hL : L.length < d := by omega
          exact (if_pos hL).symm
        have HST := Lib.hid hstep
        have HG := Lib.hid hg
        have hkz : ((k : Int) == 0) = false := by simp; omega
        clear hdg hLd hLk hat hb hln2 hstep hg hrel
        by_cases hmem : nxtN nn % k ∈ L
        · have hm2 : ((nxtN nn : Nat) : Int) % (k : Int) ∈ srt (L.map Int.ofNat) := by rw [List.mem_mergeSort]; exact (mem_ofNat _ L).2 hmem
          have HM := Lib.hid hm2
          have HM1 := Lib.hid hmem
          clear hm2 hmem
          go_wp2_with (first | (go_at_call 49; refine (refNext nn _ (by omega)).mono ?_; rintro e w' ⟨rfl, rfl⟩) | (go_at_call 9; refine (refIn_yes a ln cap (srt (L.map Int.ofNat)) _ _ HA.out HM.out).mono ?_; rintro e w' ⟨rfl, rfl⟩))
          go_roundg g
          case measure => rw [HG.out]; omega
          case rel => exact ⟨nxtN nn, L, a, ln, cap, rfl, hnext, rfl, HLN.out, HA.out, HB.out, by have := HST.out; rw [if_pos HM1.out] at this; exact this, by rw [← HLN.out]; omega, HLK.out⟩
        · have hm2 : ((nxtN nn : Nat) : Int) % (k : Int) ∉ srt (L.map Int.ofNat) := fun h => hmem ((mem_ofNat _ L).1 (by rw [List.mem_mergeSort] at h; exact h))
          have HM := Lib.hid hm2
          have HM1 := Lib.hid hmem
          have hput : putL (srt (L.map Int.ofNat)) ((nxtN nn % k : Nat) : Int) = srt ((L ++ [nxtN nn % k]).map Int.ofNat) := by
            rw [putL_srt, List.map_append]; rfl
          have hpl : (putL (srt (L.map Int.ofNat)) ((nxtN nn % k : Nat) : Int)).length = ln + 1 := by
            rw [putL_length, List.length_mergeSort, List.length_map, HLN.out]
          have hwf : ∀ z ∈ putL (srt (L.map Int.ofNat)) ((nxtN nn % k : Nat) : Int), -9223372036854775808 ≤ z ∧ z ≤ 9223372036854775807 := fun z hz => by
            rw [mem_putL] at hz
            rcases hz with hz | hz
            · subst hz
              have : nxtN nn % k < k := Nat.mod_lt _ (by omega)
              omega
            · exact HA.out.wf z hz
          have HP := Lib.hid hput
          have HPL := Lib.hid hpl
          have HWF := Lib.hid hwf
          have hln1 : ln ≤ 1000000 := by omega
          clear hm2 hmem hput hpl hwf
          go_wp2_with (first | (go_at_call 49; refine (refNext nn _ (by omega)).mono ?_; rintro e w' ⟨rfl, rfl⟩) | (go_at_call 9; refine (refIn_no a ln cap (srt (L.map Int.ofNat)) _ _ HA.out HM.out).mono ?_; rintro e w' ⟨rfl, rfl⟩) | (go_at_call 33; refine (refPut a ln cap (srt (L.map Int.ofNat)) ((nxtN nn % k : Nat) : Int) _ HA.out hln1).mono ?_; rintro e w' ⟨u, rfl, hown', hb'⟩))
          obtain ⟨a2, cap2, hu, hat2⟩ := OwnInts.slice hown' HWF.out
          rw [HPL.out] at hu hat2
          subst hu
          go_roundg g
          case measure => rw [HG.out]; omega
          case rel =>
            refine ⟨nxtN nn, L ++ [nxtN nn % k], a2, ln + 1, cap2, rfl, hnext, rfl, by rw [List.length_append, List.length_singleton, HLN.out], by rw [← HP.out]; exact hat2, Lat.trans HB.out hb', by have := HST.out; rw [if_neg HM1.out] at this; exact this, by rw [List.length_append, List.length_singleton, ← HLN.out]; omega, fun i hi => ?_⟩
            rcases List.mem_append.1 hi with hi | hi
            · exact HLK.out i hi
            · rw [List.mem_singleton] at hi; subst hi; exact Nat.mod_lt _ (by omega)
      · have hLd' : L = drawn k seed := by
          rw [dgo_done _ _ _ _ _ (by omega)] at hdg; exact hdg
        have hlnd : ln = d := by omega
        have hfin : srt (L.map Int.ofNat) = setZ k seed := by rw [HS.out, hLd']
        have HF := Lib.hid hfin; have HND := Lib.hid hlnd
        clear hdg hLd hLk hat hb hln2 hrel hLd' hlnd hfin
        go_wp2_with fail
        go_ret
        have h := HA.out
        rw [HF.out] at h
        obtain rfl := HND.out
        exact ⟨a, cap, rfl, h, HB.out⟩
end Go.Proofs.YtcpookgbneoilaaDoor

namespace Go.Proofs.YtcpookgbneoilaaDoor
open Go.ChangeShapes Go.WideShapes Go.ChangeAt Go.RowKit

theorem Bare.ln16 {k : Nat} {L : List Vec} (h : Bare k L) (hk : k ≤ 16) : Ln 0 16 L := fun u hu => ⟨(h.ln u hu).1, Nat.lt_of_lt_of_le (h.ln u hu).2 (Nat.pow_le_pow_right (by omega) hk)⟩
theorem rowsOf_takeR (k : Nat) (zs : List Int) (i : Nat) (h : i < zs.length) : (rowsOf k zs).take (i + 1) = (rowsOf k zs).take i ++ [rowOf k (zs.getD i 0)] := by
  unfold rowsOf
  rw [List.take_succ_eq_append_getElem (by rw [List.length_map]; exact h), List.getElem_map, List.getD_eq_getElem?_getD, List.getElem?_eq_getElem h]; rfl
theorem zarr_there (w : World) (t : TypeId) : (w.alloc (.cells #[Value.int .i64 0, Value.int .i64 0, Value.int .i64 0, Value.int .i64 0, Value.int .i64 0, Value.int .i64 0, Value.int .i64 0, Value.int .i64 0, Value.int .i64 0, Value.int .i64 0, Value.int .i64 0, Value.int .i64 0, Value.int .i64 0, Value.int .i64 0, Value.int .i64 0, Value.int .i64 0] t)).there w.heap.size 0 16 := by
  have := (blk_new w (List.replicate 16 (Value.int .i64 0)) 16 (fun _ => .int .i64 0) t (fun j h => by rw [List.getElem?_replicate, if_pos h])).there
  rw [zint] at this; exact this
theorem setZ_16 {k : Nat} (h1 : 1 ≤ k) (h2 : k ≤ 16) (s : Nat) (hs : 1 ≤ s) : ∀ z ∈ setZ k s, 0 ≤ z ∧ z < 16 := fun z hz => by
  have := setZ_lt k s h1 hs z hz
  omega

set_option maxHeartbeats 8000000 in
set_option maxRecDepth 100000 in
theorem refRank (k : Nat) (a : Option Addr) (n cap : Nat) (zs : List Int) (w : World) (h : IntsAt w a n cap zs) (h1 : 1 ≤ k) (h2 : k ≤ 16) (hz : ∀ z ∈ zs, 1 ≤ z ∧ z ≤ 10000) (hn : n ≤ 60) :
    Calls Tryd.prog 18 #[.int .i64 k, .slice a n cap] w fun e w' => e = .returned (.int .i64 (rk k (rowsOf k zs) : Nat)) ∧ Lat w w' := by
  have hlen := h.len
  have hbare := rowsOf_bare (k := k) h1 hz
  have hrl := rowsOf_len k zs
  have hsnoc := rowsOf_takeR k zs
  have hfin := clrF_eq (k := k) (by omega) hbare
  rw [hlen] at hrl
  obtain ⟨R, hR⟩ : ∃ R, R = rowsOf k zs := ⟨_, rfl⟩
  rw [← hR] at hbare hrl hsnoc hfin ⊢
  obtain ⟨rkn, hrkn⟩ : ∃ r, r = rk k R := ⟨_, rfl⟩
  rw [← hrkn] at hfin ⊢
  have hcl := fun aa cc W (hW : LinesAt W aa n cc R) => refClear aa n cc k 0 R W hW (hbare.ln16 h2) hn h2 (by omega)
  have HH := Lib.hid h; have HZ := Lib.hid hz; have HLEN := Lib.hid hlen; have HRL := Lib.hid hrl; have HSN := Lib.hid hsnoc; have HFIN := Lib.hid hfin; have HCL := Lib.hid hcl
  clear h hz hlen hbare hrl hsnoc hfin hR hrkn hcl
  go_enter Tryd.func18, Tryd.ntmps18
  go_wp2_with fail
  go_loopg [5, 6] n (fun f lv iv wx => ∃ i : Nat, i + f = n ∧ iv = .int .i64 i ∧ Hid (Lat w wx ∧ OwnL wx w.heap.size lv (R.take i)))
  case atStart => exact ⟨0, by omega, rfl, Lat.refl w, OwnL.nil w _⟩
  case round =>
    obtain ⟨i, hi, rfl, hrel⟩ := hrel
    by_cases hlt : i < n
    · obtain ⟨f, rfl⟩ : ∃ f, gk = f + 1 := ⟨gk - 1, by omega⟩
      have di : decide (i < n) = true := decide_eq_true hlt
      have hzi := HZ.out _ (getD_mem zs i (by rw [HLEN.out]; exact hlt))
      have hsn := HSN.out i (by rw [HLEN.out]; exact hlt)
      obtain ⟨z, hzz⟩ : ∃ z : Nat, zs.getD i 0 = (z : Int) := ⟨(zs.getD i 0).toNat, by omega⟩
      obtain ⟨b, o, rfl, hc⟩ := (HH.out.keep hrel.out.1).row.at_ (by omega)
      have c0 := hc i hlt
      rw [hzz] at hzi c0 hsn
      obtain ⟨u, hu⟩ : ∃ u, u = rowOf k (z : Int) := ⟨_, rfl⟩
      have hu2 : (bitsN (setZ k z), ([] : List UInt8)) = u := by rw [hu]; unfold rowOf; rw [Int.toNat_natCast]
      rw [← hu] at hsn
      have i0 : (0 : Int) ≤ (i : Int) := by omega
      have i1 : (i : Int) < (n : Int) := by omega
      have hset := refSet k z wr h1 h2 (by omega) (by omega)
      have hs16 := setZ_16 h1 h2 z (by omega)
      have HSLN := Lib.hid (setZ_length k z h1 h2 (by omega)).2
      have HSET := Lib.hid hset; have HS16 := Lib.hid hs16; have HSN2 := Lib.hid hsn; have HU2 := Lib.hid hu2; have HREL := Lib.hid hrel.out
      clear hrel hc hzi hzz hsn hset hs16 hu hu2
      go_wp2_with fail
      refine HSET.out.mono ?_
      rintro e w2 ⟨sa, sc, rfl, hsi, hb2⟩
      have hsl : (setZ k z).length ≤ 1000000 := by have := HSLN.out; omega
      have HOF := Lib.hid (refOf sa _ sc (setZ k z) [] w2 hsi HS16.out hsl)
      have HB2 := Lib.hid hb2
      clear hsi hb2 hsl HSET HS16 HSLN
      go_wp2_with fail
      refine HOF.out.mono ?_
      rintro e w3 ⟨rfl, hb3⟩
      rw [HU2.out]
      have HL3 := Lib.hid (HB2.out.trans hb3)
      clear hb3 HOF HU2 HB2
      have hzt := zline_there w3 78
      obtain ⟨W4, hW4⟩ : ∃ W, W = (w3.alloc (.cells (lineC (0, [])).toArray 78)).setCells w3.heap.size 0 (lineC u) := ⟨_, rfl⟩
      have hx4 := World.rangeAt_setCells_same (w3.alloc (.cells (lineC (0, [])).toArray 78)) w3.heap.size 0 (lineC u) (by rw [lineC_len]; exact hzt)
      have hl34 : Lat w3 W4 := by
        rw [hW4]
        exact (Fr.setCells _ _ _ _).lat_of (Lat.alloc _ _) (fun k e => by rw [e]; exact Nat.le_refl _)
      rw [← hW4] at hx4
      rw [zero_cells] at hW4 hzt
      have HZT := Lib.hid hzt; have HX4 := Lib.hid hx4; have HW4 := Lib.hid hW4; have HL34 := Lib.hid (HL3.out.trans hl34)
      clear hzt hx4 hW4 hl34 HL3
      go_upto_region 6 with (refine at_store rfl (.tmp 7) (.tmp 24) rfl w3.heap.size 0 u rfl rfl HZT.out ?_)
      rw [← HW4.out]
      clear HW4 HZT
      refine wp_region_lit ?_
      have hll := lineC_len u
      go_wp2_with (first
        | refine at_load rfl (.tmp 7) rfl w3.heap.size 0 rfl u HX4.out ?_
        | (at_builtin; rw [bs_line u]; (refine app_line W4 w.heap.size rfl (.tmp 25) (.tmp 27) rfl u5 (R.take i) u rfl (HREL.out.2.keep HL34.out) rfl (by rw [List.length_take]; omega) (HREL.out.1.trans HL34.out).size ?_); intro v' w' hown' _ hfr'))
      have hlat := hfr'.lat_of (HREL.out.1.trans HL34.out) (fun k hk => (HREL.out.2.lt k hk).1)
      rw [← HSN2.out] at hown'
      have HOW := Lib.hid hown'; have HLAT := Lib.hid hlat
      clear hown' hfr' hlat hll
      try go_wp2_with fail
      go_roundg f
      case measure => omega
      case rel => exact ⟨i + 1, by omega, by go_num, HLAT.out, HOW.out⟩
    · obtain rfl : i = n := by omega
      have di : decide (i < i) = false := decide_eq_false (by omega)
      have ho := hrel.out.2
      rw [List.take_of_length_le (by rw [HRL.out]; exact Nat.le_refl _)] at ho
      obtain ⟨aa, cc, rfl, hform, hnc, hcm⟩ := OwnL.form ho HRL.out
      have HC := Lib.hid (HCL.out aa cc wr ho.shown); have HL0 := Lib.hid hrel.out.1
      clear ho hrel HCL hform
      go_wp2_with fail
      refine HC.out.mono ?_
      rintro e w2 ⟨ca, c2, rfl, -, hb2⟩
      obtain ⟨at_, hat⟩ : ∃ c, c = (clrF R k).2 := ⟨_, rfl⟩
      have hfin := HFIN.out
      rw [← hat] at hfin ⊢
      have hzt := zarr_there w2 80
      have hld := World.rangeAt_setCells_same (w2.alloc (.cells #[Value.int .i64 0, Value.int .i64 0, Value.int .i64 0, Value.int .i64 0, Value.int .i64 0, Value.int .i64 0, Value.int .i64 0, Value.int .i64 0, Value.int .i64 0, Value.int .i64 0, Value.int .i64 0, Value.int .i64 0, Value.int .i64 0, Value.int .i64 0, Value.int .i64 0, Value.int .i64 0] 80)) w2.heap.size 0 (arrC at_) (by rw [arrC_len]; exact hzt)
      have hl23 : Lat w2 ((w2.alloc (.cells #[Value.int .i64 0, Value.int .i64 0, Value.int .i64 0, Value.int .i64 0, Value.int .i64 0, Value.int .i64 0, Value.int .i64 0, Value.int .i64 0, Value.int .i64 0, Value.int .i64 0, Value.int .i64 0, Value.int .i64 0, Value.int .i64 0, Value.int .i64 0, Value.int .i64 0, Value.int .i64 0] 80)).setCells w2.heap.size 0 (arrC at_)) := (Fr.setCells _ _ _ _).lat_of (Lat.alloc _ _) (fun k e => by rw [e]; exact Nat.le_refl _)
      obtain ⟨W3, hW3⟩ : ∃ W, W = (w2.alloc (.cells #[Value.int .i64 0, Value.int .i64 0, Value.int .i64 0, Value.int .i64 0, Value.int .i64 0, Value.int .i64 0, Value.int .i64 0, Value.int .i64 0, Value.int .i64 0, Value.int .i64 0, Value.int .i64 0, Value.int .i64 0, Value.int .i64 0, Value.int .i64 0, Value.int .i64 0, Value.int .i64 0] 80)).setCells w2.heap.size 0 (arrC at_) := ⟨_, rfl⟩
      rw [← hW3] at hld hl23
      have hcell : ∀ b, b < 16 → W3.cell? ⟨w2.heap.size, b, none⟩ = some (.int .i64 (atI (at_ b))) := fun b hb => by
        have := hld b _ (arrC_get at_ hb)
        rw [Nat.zero_add] at this; exact this
      have HFI := Lib.hid hfin; have HZT := Lib.hid hzt; have HW3 := Lib.hid hW3; have HLW := Lib.hid ((HL0.out.trans hb2).trans hl23); have HCE := Lib.hid hcell
      clear hfin hat hzt hld hl23 hW3 hcell hb2 HL0 HC HFIN HRL HLEN HSN HH HZ
      go_upto_region 8 with (refine at_storeA rfl (.tmp 9) (.tmp 34) rfl w2.heap.size 0 at_ rfl rfl HZT.out ?_)
      rw [← HW3.out]
      clear HW3 HZT
      go_wp2_with fail
      go_loopg [10, 11] k (fun f cv bv wx => ∃ b : Nat, b + f = k ∧ bv = .int .i64 b ∧ cv = .int .i64 (cntA at_ b : Nat) ∧ W3 = wx)
      case atStart => exact ⟨0, by omega, rfl, rfl, rfl⟩
      case round =>
        obtain ⟨b, hb, rfl, rfl, rfl⟩ := hrel
        by_cases hbk : b < k
        · obtain ⟨f, rfl⟩ : ∃ f, gk = f + 1 := ⟨gk - 1, by omega⟩
          have db : decide (b < k) = true := decide_eq_true hbk
          have b0 : (0 : Int) ≤ (b : Int) := by omega
          have b1 : (b : Int) < 16 := by omega
          have cb := HCE.out b (by omega)
          have hcs : cntA at_ (b + 1) = cntA at_ b + (if (at_ b).isSome = true then 1 else 0) := rfl
          have hle : cntA at_ b ≤ b := by rw [cntA_rnk []]; exact rnkT_le _ _
          obtain ⟨q, hq⟩ : ∃ q, q = cntA at_ b := ⟨_, rfl⟩
          rw [← hq] at hcs hle ⊢
          cases hab : at_ b with
          | none =>
            rw [hab] at cb hcs
            have cb' : W3.cell? ⟨w2.heap.size, b, none⟩ = some (.int .i64 (-1)) := cb
            have HCS := Lib.hid hcs
            clear cb hcs hab hq
            go_wp2_with fail
            go_roundg f
            case measure => omega
            case rel => exact ⟨b + 1, by omega, by go_num, by rw [HCS.out]; rfl, rfl⟩
          | some p =>
            rw [hab] at cb hcs
            have cb' : W3.cell? ⟨w2.heap.size, b, none⟩ = some (.int .i64 p) := cb
            have dp : decide ((0 : Int) ≤ (p : Int)) = true := decide_eq_true (by omega)
            have HCS := Lib.hid hcs
            clear cb hcs hab hq
            go_wp2_with fail
            go_roundg f
            case measure => omega
            case rel => exact ⟨b + 1, by omega, by go_num, by rw [HCS.out]; go_num, rfl⟩
        · obtain rfl : b = k := by omega
          have db : decide (b < b) = false := decide_eq_false (by omega)
          rw [HFI.out]
          go_wp2_with fail
          go_ret
          exact ⟨rfl, HLW.out⟩
end Go.Proofs.YtcpookgbneoilaaDoor

namespace Go.Proofs.YtcpookgbneoilaaDoor

abbrev Bts := List UInt8
abbrev Wt := List Int × Bts
abbrev Kn := Int → Option Bts
def unkn (K : Kn) (z : Int) : Bool := (K z).isNone
def ovK (K : Kn) (d : Bts) (z : Int) : Bts := match K z with
  | some b => xorL d b
  | none => d
def wout (K : Kn) (x : Wt) : Wt := (x.1.filter (unkn K), x.1.foldl (ovK K) x.2)
def some1 (x : Wt) : Bool := decide (0 < x.1.length)
def leftW (K : Kn) (L : List Wt) : List Wt := (L.map (wout K)).filter some1
def one1 (x : Wt) : Bool := decide (x.1.length = 1)
def updK (K : Kn) (z : Int) (b : Bts) : Kn := fun x => if x = z then some b else K x
def learnF : Nat → Kn → List Wt → List Int → Kn × List Wt × List Int
  | 0, K, L, out => (K, leftW K L, out)
  | f + 1, K, L, out => match (leftW K L).find? one1 with
    | none => (K, leftW K L, out)
    | some x => learnF f (updK K (x.1.headD 0) x.2) (leftW K L) (out ++ [x.1.headD 0])
def unkC (K : Kn) (k : Nat) : Nat := ((List.range k).filter (fun i : Nat => unkn K (i : Int))).length

structure WOk (k m : Nat) (K : Kn) (L : List Wt) : Prop where
  kn : ∀ z b, K z = some b → 0 ≤ z ∧ z < (k : Int) ∧ b.length = m
  of : ∀ x ∈ L, ∀ z ∈ x.1, 0 ≤ z ∧ z < (k : Int)
  len : ∀ x ∈ L, x.1.length ≤ 16
  data : ∀ x ∈ L, x.2.length = m
theorem ovK_len {k m : Nat} {K : Kn} (hK : ∀ z b, K z = some b → 0 ≤ z ∧ z < (k : Int) ∧ b.length = m) : ∀ (zs : List Int) (d : Bts), d.length = m → (zs.foldl (ovK K) d).length = m
  | [], _, h => h
  | z :: r, d, h => by
    rw [List.foldl_cons]
    refine ovK_len hK r _ ?_
    unfold ovK
    cases hz : K z with
    | none => exact h
    | some b => rw [xorL_length _ _ (by rw [h, (hK z b hz).2.2])]; exact h
theorem WOk.wo {k m : Nat} {K : Kn} {L : List Wt} (h : WOk k m K L) {x : Wt} (hx : x ∈ L) : (∀ z ∈ (wout K x).1, 0 ≤ z ∧ z < (k : Int)) ∧ (wout K x).1.length ≤ 16 ∧ (wout K x).2.length = m :=
  ⟨fun z hz => h.of x hx z (List.mem_filter.1 hz).1, Nat.le_trans (List.length_filter_le _ _) (h.len x hx), ovK_len h.kn _ _ (h.data x hx)⟩
theorem WOk.left {k m : Nat} {K : Kn} {L : List Wt} (h : WOk k m K L) : WOk k m K (leftW K L) := by
  have hm : ∀ x ∈ leftW K L, ∃ y ∈ L, x = wout K y := fun x hx => by
    obtain ⟨y, hy, e⟩ := List.mem_map.1 (List.mem_filter.1 hx).1
    exact ⟨y, hy, e.symm⟩
  refine ⟨h.kn, fun x hx => ?_, fun x hx => ?_, fun x hx => ?_⟩
  all_goals (obtain ⟨y, hy, rfl⟩ := hm x hx)
  · exact (h.wo hy).1
  · exact (h.wo hy).2.1
  · exact (h.wo hy).2.2
theorem leftW_one {K : Kn} {L : List Wt} {x : Wt} (h : (leftW K L).find? one1 = some x) : x ∈ leftW K L ∧ ∃ z, x.1 = [z] ∧ K z = none := by
  have hm := List.mem_of_find?_eq_some h
  have h1 := List.find?_some h
  unfold one1 at h1
  have h2 : x.1.length = 1 := of_decide_eq_true h1
  obtain ⟨z, hz⟩ := List.length_eq_one_iff.1 h2
  refine ⟨hm, z, hz, ?_⟩
  obtain ⟨y, _, e⟩ := List.mem_map.1 (List.mem_filter.1 hm).1
  have hzm : z ∈ (wout K y).1 := by rw [e, hz]; exact List.mem_singleton.2 rfl
  have := (List.mem_filter.1 hzm).2
  unfold unkn at this
  cases hk : K z with
  | none => rfl
  | some b => rw [hk] at this; cases this
theorem WOk.upd {k m : Nat} {K : Kn} {L : List Wt} (h : WOk k m K L) {z : Int} {b : Bts} (hz : 0 ≤ z ∧ z < (k : Int)) (hb : b.length = m) : WOk k m (updK K z b) L := by
  refine ⟨fun y c hy => ?_, h.of, h.len, h.data⟩
  unfold updK at hy
  split at hy
  · rename_i e; cases hy; subst e; exact ⟨hz.1, hz.2, hb⟩
  · exact h.kn y c hy
theorem filter_lt {α : Type} {p q : α → Bool} : ∀ {l : List α} {a : α}, a ∈ l → q a = true → p a = false → (∀ x, p x = true → q x = true) → (l.filter p).length < (l.filter q).length
  | [], a, h, _, _, _ => by cases h
  | x :: r, a, h, hq, hp, hs => by
    have hle : (r.filter p).length ≤ (r.filter q).length := by
      clear h
      induction r with
      | nil => exact Nat.le_refl _
      | cons y t ih =>
        rw [List.filter_cons, List.filter_cons]
        cases hy : p y with
        | true => rw [hs y hy]; simpa using ih
        | false => cases q y <;> simp <;> omega
    rw [List.filter_cons, List.filter_cons]
    rcases List.mem_cons.1 h with rfl | h
    · rw [hq, hp]; simp; omega
    · have ih := filter_lt h hq hp hs
      cases hy : p x with
      | true => rw [hs x hy]; simpa using ih
      | false => cases q x <;> simp <;> omega
theorem unkC_upd {k : Nat} {K : Kn} {z : Int} (b : Bts) (hz : 0 ≤ z ∧ z < (k : Int)) (hn : K z = none) : unkC (updK K z b) k < unkC K k := by
  unfold unkC
  refine filter_lt (a := z.toNat) (List.mem_range.2 (by omega)) ?_ ?_ fun x hx => ?_
  · unfold unkn; rw [Int.toNat_of_nonneg hz.1, hn]; rfl
  · unfold unkn updK; rw [Int.toNat_of_nonneg hz.1, if_pos rfl]; rfl
  · unfold unkn updK at *
    split at hx
    · cases hx
    · exact hx
theorem unkC_le (K : Kn) (k : Nat) : unkC K k ≤ k := by
  have := List.length_filter_le (fun i : Nat => unkn K (i : Int)) (List.range k)
  rw [List.length_range] at this; exact this
theorem find_at {α : Type} {p : α → Bool} : ∀ {l : List α} {i : Nat} {x : α}, l[i]? = some x → p x = true → (∀ j, j < i → ∀ y, l[j]? = some y → p y = false) → l.find? p = some x
  | [], i, x, h, _, _ => by simp at h
  | a :: r, 0, x, h, hp, _ => by
    simp at h; subst h
    rw [List.find?_cons, hp]
  | a :: r, i + 1, x, h, hp, hb => by
    have ha := hb 0 (by omega) a rfl
    rw [List.find?_cons, ha]
    exact find_at (l := r) (i := i) (by simpa using h) hp fun j hj y hy => hb (j + 1) (by omega) y (by simpa using hy)
theorem find_no {α : Type} {p : α → Bool} {l : List α} (h : ∀ (j : Nat) (y : α), l[j]? = some y → p y = false) : l.find? p = none := by
  rw [List.find?_eq_none]
  intro x hx
  obtain ⟨j, hj, e⟩ := List.getElem_of_mem hx
  rw [h j x (by rw [List.getElem?_eq_getElem hj, e])]; simp
end Go.Proofs.YtcpookgbneoilaaDoor

namespace Go.Proofs.YtcpookgbneoilaaDoor
open Go.ChangeShapes Go.WideShapes Go.ChangeAt Go.RowKit Go.Maps

def strE : Value → Option (DataW Unit × List MemPlace)
  | .string s => some (.lit (.string s.data.toList), [])
  | _ => none
def boolE : Value → Option (DataW Unit × List MemPlace)
  | .bool b => some (.lit (.bool b), [])
  | _ => none
theorem strCodec : Codec strE := ⟨fun u v d p q h1 h2 => by
  unfold strE at h1 h2
  split at h1
  · rename_i s
    split at h2
    · rename_i t
      injection h1 with h1
      injection h2 with h2
      injection h1 with h1 _
      injection h2 with h2 _
      rw [← h1] at h2
      injection h2 with h2
      injection h2 with h2
      have : s = t := by
        cases s with | mk a => cases t with | mk b => exact congrArg ByteArray.mk (Array.ext' h2.symm)
      rw [this]
    · cases h2
  · cases h1⟩
theorem boolCodec : Codec boolE := ⟨fun u v d p q h1 h2 => by
  unfold boolE at h1 h2
  split at h1
  · rename_i s
    split at h2
    · rename_i t
      injection h1 with h1
      injection h2 with h2
      injection h1 with h1 _
      injection h2 with h2 _
      rw [← h1] at h2
      injection h2 with h2
      injection h2 with h2
      rw [h2]
    · cases h2
  · cases h1⟩
theorem wf_i64 {z : Int} (h : -9223372036854775808 ≤ z ∧ z ≤ 9223372036854775807) : (Lit.int .i64 z).wf = true := by
  simp [Lit.wf, IntKind.min, IntKind.max, IntKind.signed, IntKind.bits]
  omega
theorem u_int : Tryd.prog.underlying 3 = some (.int .i64) := by kernel_rfl
theorem u_mstr : Tryd.prog.underlying 63 = some (.map 3 9) := by kernel_rfl
theorem u_mbool : Tryd.prog.underlying 64 = some (.map 3 4) := by kernel_rfl
theorem zero_strV (w : World) : (zeroValue 9).run Tryd.prog w = .ok (.string { data := #[] }) w := by kernel_rfl
theorem zero_boolV (w : World) : (zeroValue 4).run Tryd.prog w = .ok (.bool false) w := by kernel_rfl

structure KnAt (w : World) (b k : Nat) (K : Kn) : Prop where
  map : ∃ n f, n + unkC K k ≤ k ∧ MapF Tryd.prog 3 .i64 strE b n f w ∧ ∀ z : Int, 0 ≤ z → z < (k : Int) → f z = (K z).map (fun b => Value.string (S b))
theorem KnAt.lt {w : World} {b k : Nat} {K : Kn} (h : KnAt w b k K) : b < w.heap.size := by
  obtain ⟨n, f, _, hm, _⟩ := h.map
  exact hm.lt
theorem KnAt.fr {w w' : World} {G : Nat → Prop} {b k : Nat} {K : Kn} (h : KnAt w b k K) (hf : Fr G w w') (hb : ¬ G b) : KnAt w' b k K := by
  obtain ⟨n, f, h1, hm, h2⟩ := h.map
  exact ⟨n, f, h1, hm.fr hf hb, h2⟩
theorem KnAt.keep {w w' : World} {b k : Nat} {K : Kn} (h : KnAt w b k K) (hb : Lat w w') : KnAt w' b k K := h.fr (G := fun _ => False) (Fr.lat hb) (fun e => e)
theorem KnAt.look_ok {w : World} {b k : Nat} {K : Kn} (h : KnAt w b k K) (hk : k ≤ 16) (z : Int) (h0 : 0 ≤ z) (h1 : z < (k : Int)) :
    (Instr.lookup 63 (.map (some b)) (.int .i64 z) true).run Tryd.prog w = .ok (.tuple #[.string (S ((K z).getD [])), .bool (K z).isSome]) w := by
  obtain ⟨n, f, _, hm, h2⟩ := h.map
  have := hm.look_ok strCodec u_int u_mstr (zero_strV w) (show strE (.string { data := #[] }) = some (_, _) from rfl) z (wf_i64 (by omega))
  rw [h2 z h0 h1] at this
  rw [this]
  cases K z <;> rfl
theorem KnAt.store {w : World} {b k : Nat} {K : Kn} (h : KnAt w b k K) (hk : k ≤ 16) (z : Int) (h0 : 0 ≤ z) (h1 : z < (k : Int)) (hn : K z = none) (x : Bts) :
    ∃ w', (Instr.mapUpdate 63 (.map (some b)) (.int .i64 z) (.string (S x))).run Tryd.prog w = .ok () w' ∧ KnAt w' b k (updK K z x) ∧ Fr (fun j => j = b) w w' := by
  obtain ⟨n, f, hc, hm, h2⟩ := h.map
  obtain ⟨w', hrun, hm2, hf⟩ := hm.store u_int u_mstr (by omega) z (wf_i64 (by omega)) (val := .string (S x)) (d := .lit (.string (S x).data.toList)) (ps := []) rfl
  have hfz := h2 z h0 h1
  rw [hn] at hfz
  rw [hfz] at hm2
  have hu := unkC_upd (k := k) (K := K) x ⟨h0, h1⟩ hn
  refine ⟨w', hrun, ⟨n + 1, _, by omega, by simpa using hm2, fun y g0 g1 => ?_⟩, hf⟩
  unfold updF updK
  by_cases e : y = z
  · subst e; rw [if_pos rfl, if_pos rfl]; rfl
  · rw [if_neg e, if_neg e]; exact h2 y g0 g1
theorem KnAt.made (w : World) (k : Nat) : KnAt (w.alloc (.map #[] 0)) w.heap.size k (fun _ => none) :=
  ⟨0, fun _ => none, by have := unkC_le (fun _ => none) k; omega, MapF.made w _ _ _ _, fun _ _ _ => rfl⟩

structure TkAt (w : World) (b : Nat) (T : List Int) : Prop where
  most : T.length ≤ 60
  map : ∃ f, MapF Tryd.prog 3 .i64 boolE b T.length f w ∧ ∀ z : Int, f z = if z ∈ T then some (Value.bool true) else none
theorem TkAt.lt {w : World} {b : Nat} {T : List Int} (h : TkAt w b T) : b < w.heap.size := by
  obtain ⟨f, hm, _⟩ := h.map
  exact hm.lt
theorem TkAt.fr {w w' : World} {G : Nat → Prop} {b : Nat} {T : List Int} (h : TkAt w b T) (hf : Fr G w w') (hb : ¬ G b) : TkAt w' b T := by
  obtain ⟨f, hm, h2⟩ := h.map
  exact ⟨h.most, f, hm.fr hf hb, h2⟩
theorem TkAt.keep {w w' : World} {b : Nat} {T : List Int} (h : TkAt w b T) (hb : Lat w w') : TkAt w' b T := h.fr (G := fun _ => False) (Fr.lat hb) (fun e => e)
theorem TkAt.look {w : World} {b : Nat} {T : List Int} (h : TkAt w b T) (z : Int) (h0 : 1 ≤ z) (h1 : z ≤ 10000) :
    (Instr.lookup 64 (.map (some b)) (.int .i64 z) false).run Tryd.prog w = .ok (.bool (decide (z ∈ T))) w := by
  obtain ⟨f, hm, h2⟩ := h.map
  have := hm.look boolCodec u_int u_mbool (zero_boolV w) (show boolE (.bool false) = some (_, _) from rfl) z (wf_i64 (by omega))
  rw [h2 z] at this
  rw [this]
  by_cases e : z ∈ T
  · rw [if_pos e, decide_eq_true e]; rfl
  · rw [if_neg e, decide_eq_false e]; rfl
theorem TkAt.len {w : World} {b : Nat} {T : List Int} (h : TkAt w b T) (ty : TypeId) : (Builtin.len_ #[64] ty #[.map (some b)]).run Tryd.prog w = .ok (.int .i64 T.length) w := by
  obtain ⟨f, hm, _⟩ := h.map
  exact hm.len u_mbool ty
theorem TkAt.store {w : World} {b : Nat} {T : List Int} (h : TkAt w b T) (z : Int) (h0 : 1 ≤ z) (h1 : z ≤ 10000) (hn : z ∉ T) (hl : T.length < 60) :
    ∃ w', (Instr.mapUpdate 64 (.map (some b)) (.int .i64 z) (.bool true)).run Tryd.prog w = .ok () w' ∧ TkAt w' b (T ++ [z]) ∧ Fr (fun j => j = b) w w' := by
  obtain ⟨f, hm, h2⟩ := h.map
  obtain ⟨w', hrun, hm2, hf⟩ := hm.store u_int u_mbool (by omega) z (wf_i64 (by omega)) (val := .bool true) (d := .lit (.bool true)) (ps := []) rfl
  rw [h2 z, if_neg hn] at hm2
  refine ⟨w', hrun, ⟨by rw [List.length_append, List.length_singleton]; omega, _, by rw [List.length_append, List.length_singleton]; simpa using hm2, fun y => ?_⟩, hf⟩
  unfold updF
  by_cases e : y = z
  · subst e; rw [if_pos rfl, if_pos (by simp)]
  · rw [if_neg e, h2 y]
    by_cases g : y ∈ T
    · rw [if_pos g, if_pos (List.mem_append_left _ g)]
    · rw [if_neg g, if_neg (fun h => (List.mem_append.1 h).elim g (fun h => e (List.mem_singleton.1 h)))]
theorem TkAt.made (w : World) : TkAt (w.alloc (.map #[] 0)) w.heap.size [] :=
  ⟨by simp, fun _ => none, MapF.made w _ _ _ _, fun z => by simp⟩

def OffG (G : Nat → Prop) (a : Option Addr) (n : Nat) : Prop := n ≠ 0 → ∀ b o, a = some ⟨b, o, none⟩ → ¬ G b
theorem IntsAt.fr {w w' : World} {G : Nat → Prop} {a : Option Addr} {n cap : Nat} {zs : List Int} (h : IntsAt w a n cap zs) (hf : Fr G w w') (ho : OffG G a n) : IntsAt w' a n cap zs :=
  ⟨h.len, ⟨h.row.le, h.row.cap, fun hn => by
    obtain ⟨b, o, ha, hc⟩ := h.row.at_ hn
    exact ⟨b, o, ha, fun j hj => hf.cell_at (hc j hj) (ho hn b o ha)⟩⟩, h.wf⟩
theorem IntsAt.blk {w : World} {a : Option Addr} {n cap : Nat} {zs : List Int} (h : IntsAt w a n cap zs) (hn : n ≠ 0) {b o : Nat} (ha : a = some ⟨b, o, none⟩) : b < w.heap.size := by
  obtain ⟨b', o', ha', hc⟩ := h.row.at_ hn
  have := hc 0 (by omega)
  have e := ha.symm.trans ha'
  injection e with e
  injection e with e1 _ _
  subst e1
  exact World.block_lt_of_cell? _ _ this

def InG (G : Nat → Prop) (a : Option Addr) (n : Nat) : Prop := n ≠ 0 → ∀ b o, a = some ⟨b, o, none⟩ → G b
structure WtAt (w : World) (N G : Nat → Prop) (r : List Value) (x : Wt) : Prop where
  ex : ∃ a c, r = [.slice a x.1.length c, .string (S x.2)] ∧ IntsAt w a x.1.length c x.1 ∧ OffG N a x.1.length ∧ InG G a x.1.length
theorem WtAt.fr {w w' : World} {N G H : Nat → Prop} {r : List Value} {x : Wt} (h : WtAt w N G r x) (hf : Fr H w w') (hs : ∀ i, i < w.heap.size → H i → G i → N i) : WtAt w' N G r x := by
  obtain ⟨a, c, h1, h2, h3, h4⟩ := h.ex
  exact ⟨a, c, h1, h2.fr hf (fun hn b o ha e => h3 hn b o ha (hs b (h2.blk hn ha) e (h4 hn b o ha))), h3, h4⟩
def WtsAt (w : World) (N G : Nat → Prop) (rows : List (List Value)) (L : List Wt) : Prop := rows.length = L.length ∧ ∀ (j : Nat) (x : Wt), L[j]? = some x → ∃ r, rows[j]? = some r ∧ WtAt w N G r x
theorem WtsAt.nil (w : World) (N G : Nat → Prop) : WtsAt w N G [] [] := ⟨rfl, fun j x h => by simp at h⟩
theorem WtsAt.map {w w' : World} {N N' G G' : Nat → Prop} {rows : List (List Value)} {L : List Wt} (h : WtsAt w N G rows L) (hm : ∀ r x, WtAt w N G r x → WtAt w' N' G' r x) : WtsAt w' N' G' rows L :=
  ⟨h.1, fun j x hx => by
    obtain ⟨r, h1, h2⟩ := h.2 j x hx
    exact ⟨r, h1, hm r x h2⟩⟩
theorem WtsAt.fr {w w' : World} {N G H : Nat → Prop} {rows : List (List Value)} {L : List Wt} (h : WtsAt w N G rows L) (hf : Fr H w w') (hs : ∀ i, i < w.heap.size → H i → G i → N i) : WtsAt w' N G rows L := h.map fun _ _ e => e.fr hf hs
theorem WtsAt.keep {w w' : World} {N G : Nat → Prop} {rows : List (List Value)} {L : List Wt} (h : WtsAt w N G rows L) (hb : Lat w w') : WtsAt w' N G rows L := h.fr (H := fun _ => False) (Fr.lat hb) (fun _ _ e => e.elim)
theorem WtAt.off {w : World} {N N' G G' : Nat → Prop} {r : List Value} {x : Wt} (e : WtAt w N G r x) (hs : ∀ i, i < w.heap.size → G i → N' i → N i) (hg : ∀ i, i < w.heap.size → G i → ¬ N i → G' i) : WtAt w N' G' r x := by
  obtain ⟨a, c, h1, h2, h3, h4⟩ := e.ex
  exact ⟨a, c, h1, h2, fun hn b o ha e => h3 hn b o ha (hs b (h2.blk hn ha) (h4 hn b o ha) e), fun hn b o ha => hg b (h2.blk hn ha) (h4 hn b o ha) (h3 hn b o ha)⟩
theorem WtsAt.off {w : World} {N N' G G' : Nat → Prop} {rows : List (List Value)} {L : List Wt} (h : WtsAt w N G rows L) (hs : ∀ i, i < w.heap.size → G i → N' i → N i) (hg : ∀ i, i < w.heap.size → G i → ¬ N i → G' i) : WtsAt w N' G' rows L := h.map fun _ _ e => e.off hs hg
theorem WtsAt.push {w : World} {N G : Nat → Prop} {rows : List (List Value)} {L : List Wt} (h : WtsAt w N G rows L) {r : List Value} {x : Wt} (hx : WtAt w N G r x) : WtsAt w N G (rows ++ [r]) (L ++ [x]) := by
  refine ⟨by rw [List.length_append, List.length_append, h.1]; rfl, fun j y hy => ?_⟩
  by_cases hj : j < L.length
  · rw [List.getElem?_append_left hj] at hy
    obtain ⟨r2, h1, h2⟩ := h.2 j y hy
    exact ⟨r2, by rw [List.getElem?_append_left (by rw [h.1]; exact hj)]; exact h1, h2⟩
  · rw [List.getElem?_append_right (by omega)] at hy
    have hj2 : j - L.length = 0 := by
      rcases Nat.eq_zero_or_pos (j - L.length) with h | h
      · exact h
      · rw [List.getElem?_eq_none (by rw [List.length_singleton]; omega)] at hy; cases hy
    rw [hj2] at hy
    simp at hy
    subst hy
    exact ⟨r, by rw [List.getElem?_append_right (by rw [h.1]; omega), h.1, hj2]; rfl, hx⟩

def Nb (p kb tb : Nat) (v : Value) (i : Nat) : Prop := i = p ∨ i = kb ∨ i = tb ∨ v.ownBlock = some i
structure PeelIn (G : Nat → Prop) (p kb tb k m : Nat) (K : Kn) (T : List Int) (L : List Wt) (a : Option Addr) (cap : Nat) (w : World) : Prop where
  lt : ∀ i, G i → i < w.heap.size
  gp : G p
  gk : G kb
  gt : G tb
  nk : p ≠ kb
  nt : p ≠ tb
  nkt : kb ≠ tb
  c0 : w.cell? ⟨p, 0, none⟩ = some (.int .i64 k)
  c1 : w.cell? ⟨p, 1, none⟩ = some (.int .i64 m)
  c2 : w.cell? ⟨p, 2, none⟩ = some (.map (some kb))
  c3 : w.cell? ⟨p, 3, none⟩ = some (.map (some tb))
  c4 : w.cell? ⟨p, 4, none⟩ = some (.slice a L.length cap)
  free : w.frozen? ⟨p, 4, none⟩ = false
  kn : KnAt w kb k K
  tk : TkAt w tb T
  row : ∃ rows, OwnR w 0 74 2 (.slice a L.length cap) rows ∧ WtsAt w (Nb p kb tb (.slice a L.length cap)) G rows L
  own : ∀ i, (Value.slice a L.length cap).ownBlock = some i → G i ∧ i ≠ p ∧ i ≠ kb ∧ i ≠ tb
  ok : WOk k m K L
  most : L.length ≤ T.length
def PeelO (G : Nat → Prop) (p k m : Nat) (K : Kn) (T : List Int) (L : List Wt) (w : World) : Prop := ∃ kb tb a cap, PeelIn G p kb tb k m K T L a cap w
theorem PeelIn.fr {G H : Nat → Prop} {p kb tb k m : Nat} {K : Kn} {T : List Int} {L : List Wt} {a : Option Addr} {cap : Nat} {w w' : World} (h : PeelIn G p kb tb k m K T L a cap w) (hf : Fr H w w') (hd : ∀ i, G i → ¬ H i) : PeelIn G p kb tb k m K T L a cap w' := by
  have dp := hd _ h.gp
  obtain ⟨rows, ho, hw⟩ := h.row
  exact ⟨fun i hi => Nat.lt_of_lt_of_le (h.lt i hi) hf.size, h.gp, h.gk, h.gt, h.nk, h.nt, h.nkt, hf.cell_at h.c0 dp, hf.cell_at h.c1 dp, hf.cell_at h.c2 dp, hf.cell_at h.c3 dp, hf.cell_at h.c4 dp, hf.free_at (h.lt _ h.gp) h.free dp,
    h.kn.fr hf (hd _ h.gk), h.tk.fr hf (hd _ h.gt), ⟨rows, ho.fr hf (fun i hi => hd _ (h.own i hi).1), hw.fr hf (fun i _ h1 h2 => absurd h1 (hd i h2))⟩, h.own, h.ok, h.most⟩
theorem PeelIn.keep {G : Nat → Prop} {p kb tb k m : Nat} {K : Kn} {T : List Int} {L : List Wt} {a : Option Addr} {cap : Nat} {w w' : World} (h : PeelIn G p kb tb k m K T L a cap w) (hb : Lat w w') : PeelIn G p kb tb k m K T L a cap w' :=
  h.fr (H := fun _ => False) (Fr.lat hb) (fun _ _ e => e)
theorem PeelIn.grow {G G' : Nat → Prop} {p kb tb k m : Nat} {K : Kn} {T : List Int} {L : List Wt} {a : Option Addr} {cap : Nat} {w : World} (h : PeelIn G p kb tb k m K T L a cap w) (hs : ∀ i, G i → G' i) (hl : ∀ i, G' i → i < w.heap.size) : PeelIn G' p kb tb k m K T L a cap w := by
  obtain ⟨rows, ho, hw⟩ := h.row
  exact ⟨hl, hs _ h.gp, hs _ h.gk, hs _ h.gt, h.nk, h.nt, h.nkt, h.c0, h.c1, h.c2, h.c3, h.c4, h.free, h.kn, h.tk, ⟨rows, ho, hw.off (fun _ _ _ e => e) (fun i _ e _ => hs i e)⟩, fun i hi => ⟨hs _ (h.own i hi).1, (h.own i hi).2⟩, h.ok, h.most⟩
theorem PeelO.fr {G H : Nat → Prop} {p k m : Nat} {K : Kn} {T : List Int} {L : List Wt} {w w' : World} (h : PeelO G p k m K T L w) (hf : Fr H w w') (hd : ∀ i, G i → ¬ H i) : PeelO G p k m K T L w' := by
  obtain ⟨kb, tb, a, cap, h⟩ := h
  exact ⟨kb, tb, a, cap, h.fr hf hd⟩
theorem PeelO.keep {G : Nat → Prop} {p k m : Nat} {K : Kn} {T : List Int} {L : List Wt} {w w' : World} (h : PeelO G p k m K T L w) (hb : Lat w w') : PeelO G p k m K T L w' := by
  obtain ⟨kb, tb, a, cap, h⟩ := h
  exact ⟨kb, tb, a, cap, h.keep hb⟩
structure PeelStep (G : Nat → Prop) (p k m : Nat) (K : Kn) (T : List Int) (L : List Wt) (w w' : World) : Prop where
  fr : Fr G w w'
  obj : ∃ G', PeelO G' p k m K T L w' ∧ ∀ i, G' i → G i ∨ w.heap.size ≤ i
  maps : w'.cell? ⟨p, 2, none⟩ = w.cell? ⟨p, 2, none⟩ ∧ w'.cell? ⟨p, 3, none⟩ = w.cell? ⟨p, 3, none⟩
end Go.Proofs.YtcpookgbneoilaaDoor

namespace Go.Proofs.YtcpookgbneoilaaDoor
open Go.ChangeShapes Go.WideShapes Go.ChangeAt Go.RowKit

theorem Own.frL {w w' : World} {B b : Nat} {e : TypeId} {v : Value} {xs : List Value} (h : Own w B e v xs) (hf : Fr (fun j => j = b) w w') (hb : b < B) : Own w' B e v xs :=
  Own.grown h ⟨hf.os, hf.tape, hf.output, hf.size, fun k hk hne => hf.block k hk (fun e => hne (by rw [e]))⟩ fun g hg e => by
    have e : b = g := Option.some.inj e
    have := (Own.lt h g hg).1
    omega
structure WB (w : World) (X : Nat) (a : Option Addr) (n cap : Nat) (d : Bts) (wr : World) : Prop where
  lat : Lat w wr
  lo : w.heap.size ≤ X
  lt : X + 1 < wr.heap.size
  c0 : wr.cell? ⟨X, 0, none⟩ = some (.slice a n cap)
  c1 : wr.cell? ⟨X, 1, none⟩ = some (.string (S d))
  f0 : wr.frozen? ⟨X, 0, none⟩ = false
  f1 : wr.frozen? ⟨X, 1, none⟩ = false
  r0 : wr.cell? ⟨X + 1, 0, none⟩ = some (.slice none 0 0)
  r1 : wr.cell? ⟨X + 1, 1, none⟩ = some (.string { data := #[] })
  g0 : wr.frozen? ⟨X + 1, 0, none⟩ = false
  g1 : wr.frozen? ⟨X + 1, 1, none⟩ = false
theorem WB.keep {w : World} {X : Nat} {a : Option Addr} {n cap : Nat} {d : Bts} {wr wx : World} (h : WB w X a n cap d wr) (hb : Lat wr wx) : WB w X a n cap d wx :=
  ⟨h.lat.trans hb, h.lo, Nat.lt_of_lt_of_le h.lt hb.size, hb.cell_at h.c0, hb.cell_at h.c1, hb.free_at (by have := h.lt; simp; omega) h.f0, hb.free_at (by have := h.lt; simp; omega) h.f1, hb.cell_at h.r0, hb.cell_at h.r1, hb.free_at h.lt h.g0, hb.free_at h.lt h.g1⟩
theorem WB.fr {w : World} {X : Nat} {a : Option Addr} {n cap : Nat} {d : Bts} {wr wx : World} {G : Nat → Prop} (h : WB w X a n cap d wr) (hb : Fr G wr wx) (hX : ∀ i, G i → X + 2 ≤ i) : WB w X a n cap d wx := by
  have n0 : ¬ G X := fun e => by have := hX _ e; omega
  have n1 : ¬ G (X + 1) := fun e => by have := hX _ e; omega
  have hlt := h.lt
  exact ⟨hb.lat_of h.lat (fun i e => by have := hX i e; have := h.lo; omega), h.lo, Nat.lt_of_lt_of_le h.lt hb.size, hb.cell_at h.c0 n0, hb.cell_at h.c1 n0, hb.free_at (by simp; omega) h.f0 n0, hb.free_at (by simp; omega) h.f1 n0, hb.cell_at h.r0 n1, hb.cell_at h.r1 n1, hb.free_at h.lt h.g0 n1, hb.free_at h.lt h.g1 n1⟩
theorem WB.put {w : World} {X : Nat} {a : Option Addr} {n cap : Nat} {d : Bts} {wr : World} (h : WB w X a n cap d wr) (e : Bts) : WB w X a n cap e (wr.setCell ⟨X, 1, none⟩ (.string (S e))) := by
  have hs : (wr.setCell ⟨X, 1, none⟩ (.string (S e))).heap.size = wr.heap.size := by simp [World.setCell]
  refine ⟨h.lat.setCell (p := ⟨X, 1, none⟩) h.lo _, h.lo, by rw [hs]; exact h.lt, ?_, World.cell?_setCell_same _ _ _ h.c1, by rw [World.frozen?_setCell]; exact h.f0, by rw [World.frozen?_setCell]; exact h.f1, ?_, ?_, by rw [World.frozen?_setCell]; exact h.g0, by rw [World.frozen?_setCell]; exact h.g1⟩
  · rw [World.cell?_setCell_other _ _ _ _ (by simp)]; exact h.c0
  · rw [World.cell?_setCell_other _ _ _ _ (by intro e; injection e with e _ _; omega)]; exact h.r0
  · rw [World.cell?_setCell_other _ _ _ _ (by intro e; injection e with e _ _; omega)]; exact h.r1

theorem app_intG (wr : World) (B : Nat) {ops : Array Oper} {rest : List Oper} {o : Oper} {a : Act} {Q : Exit → Act → World → Prop}
    (hg : o.guard = none) (s x : Operand) (ho : o.op = .call { callee := .builtin .append, args := #[s, x], argTypes := #[32, 32] })
    (v : Value) (zs : List Int) (z : Int) (hs : a.eval s = v) (hown : OwnInts wr B v zs) (hx : a.eval x = .slice (some ⟨wr.heap.size, 0, none⟩) 1 1)
    (hn : zs.length < 1000000) (hB : B ≤ wr.heap.size)
    (K : ∀ v' w', OwnInts w' B v' (zs ++ [z]) → Fr (fun j => v.ownBlock = some j) wr w' → wpList Tryd.prog ops Q rest (a.put o.dst v') w') :
    wpList Tryd.prog ops Q (o :: rest) a (wr.alloc (.cells #[.int .i64 z] 3)) := by
  have hal : OwnInts (wr.alloc (.cells #[.int .i64 z] 3)) B v zs := Own.alloc hown _
  have hrow1 : RowAt (wr.alloc (.cells #[.int .i64 z] 3)) (some ⟨wr.heap.size, 0, none⟩) 1 1 (fun j => [Value.int .i64 z].getD j undef) := by
    refine ⟨Nat.le_refl _, by unfold maxLen; omega, fun _ => ⟨wr.heap.size, 0, rfl, fun j hj => ?_⟩⟩
    obtain rfl : j = 0 := by omega
    simp
  obtain ⟨v', w', hrun, h2, h3, _⟩ := run_app_many (P := Tryd.prog) (wr.alloc (.cells #[.int .i64 z] 3)) B 32 o.type 3 (.int .i64 0) 8 Tryd.underlying32 info_int rfl (by decide) v _ hal (some ⟨wr.heap.size, 0, none⟩) 1 1 [.int .i64 z] rfl
    hrow1 (fun u hu => by rw [List.mem_singleton.1 hu]; rfl) (by rw [List.length_map]; omega) (by simp; omega)
  refine wpList_plain hg fun K' hK => ?_
  unfold Oper.wp execOp
  simp only [ho, resolve, invoke, builtin, Sem.run_bind, Sem.run_pure, Result.andThen_ok, List.map_toArray, List.map_cons, List.map_nil, hs, hx, hrun]
  refine hK _ _ (K v' w' (by simpa [OwnInts] using h2) ⟨h3.os, h3.tape, h3.output, ?_, fun k hk hne => ?_⟩)
  · have := h3.size; simp at this; omega
  · rw [h3.block k (by simp; omega) (fun e => hne e.symm)]; exact heap_alloc_old wr _ hk
theorem two_put {w : World} {g : Nat} {a b : Value} (c0 : w.cell? ⟨g, 0, none⟩ = some a) (c1 : w.cell? ⟨g, 1, none⟩ = some b) (x y : Value) :
    ((w.setCell ⟨g, 0, none⟩ x).setCell ⟨g, 1, none⟩ y).cell? ⟨g, 0, none⟩ = some x ∧ ((w.setCell ⟨g, 0, none⟩ x).setCell ⟨g, 1, none⟩ y).cell? ⟨g, 1, none⟩ = some y := by
  constructor
  · rw [World.cell?_setCell_other _ _ _ _ (by simp)]; exact World.cell?_setCell_same _ _ _ c0
  · exact World.cell?_setCell_same _ _ _ ((World.cell?_setCell_other _ _ _ _ (by simp)).trans c1)
theorem two_box {w W1 : World} (hz : W1.heap.size = w.heap.size + 1) (v0 v1 : Value) (t : TypeId) :
    ((W1.alloc (.cells #[v0, v1] t)).cell? ⟨w.heap.size + 1, 0, none⟩ = some v0 ∧ (W1.alloc (.cells #[v0, v1] t)).cell? ⟨w.heap.size + 1, 1, none⟩ = some v1) ∧ (W1.alloc (.cells #[v0, v1] t)).frozen? ⟨w.heap.size + 1, 0, none⟩ = false ∧ (W1.alloc (.cells #[v0, v1] t)).frozen? ⟨w.heap.size + 1, 1, none⟩ = false := by
  rw [← hz]; simp
theorem WB.new (w : World) (a : Option Addr) (n cap : Nat) (d : Bts) : WB w w.heap.size a n cap d ((w.alloc (.cells #[.slice a n cap, .string (S d)] 74)).alloc (.cells #[.slice none 0 0, .string { data := #[] }] 74)) := by
  obtain ⟨W1, hW⟩ : ∃ W1, W1 = w.alloc (.cells #[.slice a n cap, .string (S d)] 74) := ⟨_, rfl⟩
  have hz : W1.heap.size = w.heap.size + 1 := by rw [hW]; simp
  have c0 : W1.cell? ⟨w.heap.size, 0, none⟩ = some (.slice a n cap) := by rw [hW]; simp
  have c1 : W1.cell? ⟨w.heap.size, 1, none⟩ = some (.string (S d)) := by rw [hW]; simp
  have f0 : W1.frozen? ⟨w.heap.size, 0, none⟩ = false := by rw [hW]; simp
  have f1 : W1.frozen? ⟨w.heap.size, 1, none⟩ = false := by rw [hW]; simp
  have hl : Lat w W1 := by rw [hW]; exact Lat.alloc _ _
  rw [← hW]
  have h2 := two_box hz (.slice none 0 0) (.string { data := #[] }) 74
  refine ⟨hl.trans (Lat.alloc _ _), Nat.le_refl _, by simp [hz], (Lat.alloc _ _).cell_at c0, (Lat.alloc _ _).cell_at c1, (Lat.alloc _ _).free_at (by simp [hz]) f0, (Lat.alloc _ _).free_at (by simp [hz]) f1, h2.1.1, h2.1.2, h2.2.1, h2.2.2⟩
theorem filt_succ (K : Kn) (zs : List Int) (j : Nat) (hj : j < zs.length) : (zs.take (j + 1)).filter (unkn K) = if unkn K (zs.getD j 0) = true then (zs.take j).filter (unkn K) ++ [zs.getD j 0] else (zs.take j).filter (unkn K) := by
  have e : zs.getD j 0 = zs[j] := by rw [List.getD_eq_getElem?_getD, List.getElem?_eq_getElem hj]; rfl
  rw [List.take_succ_eq_append_getElem hj, List.filter_append, e]
  cases h : unkn K zs[j] <;> simp [h]
theorem fold_succ (K : Kn) (zs : List Int) (d : Bts) (j : Nat) (hj : j < zs.length) : (zs.take (j + 1)).foldl (ovK K) d = ovK K ((zs.take j).foldl (ovK K) d) (zs.getD j 0) := by
  have e : zs.getD j 0 = zs[j] := by rw [List.getD_eq_getElem?_getD, List.getElem?_eq_getElem hj]; rfl
  rw [List.take_succ_eq_append_getElem hj, List.foldl_append, e]; rfl

set_option maxHeartbeats 4000000 in
set_option maxRecDepth 100000 in
theorem without_any (p kb k m : Nat) (K : Kn) (a : Option Addr) (n cap : Nat) (zs : List Int) (d : Bts) (w : World) (hc2 : w.cell? ⟨p, 2, none⟩ = some (.map (some kb))) (hkn : KnAt w kb k K) (hk : k ≤ 16) (hz : IntsAt w a n cap zs) (hn : n ≤ 1000)
    (hin : ∀ z ∈ zs, 0 ≤ z ∧ z < (k : Int)) (hK : ∀ z b, K z = some b → 0 ≤ z ∧ z < (k : Int) ∧ b.length = m) (hd : d.length = m) (hm : m ≤ 8) :
    Calls Tryd.prog 56 #[.pointer (some ⟨p, 0, none⟩), .agg #[.slice a n cap, .string (S d)]] w fun e w' =>
      ∃ a' c', e = .returned (.agg #[.slice a' (wout K (zs, d)).1.length c', .string (S (wout K (zs, d)).2)]) ∧ IntsAt w' a' (wout K (zs, d)).1.length c' (wout K (zs, d)).1 ∧ (∀ b o, a' = some ⟨b, o, none⟩ → w.heap.size ≤ b) ∧ Lat w w' := by
  have hl := hz.len
  have hle := hz.row.le
  have hcm := hz.row.cap
  unfold maxLen at hcm
  have hb0 := WB.new w a n cap d
  have H2 := Lib.hid hc2; have HKN := Lib.hid hkn; have HZ := Lib.hid hz; have HIN := Lib.hid hin; have HKL := Lib.hid hK; have HD := Lib.hid hd; have HL := Lib.hid hl; have HB0 := Lib.hid hb0
  clear hc2 hkn hz hin hK hd hl hb0
  go_enter Tryd.func56, Tryd.ntmps56
  go_wp2
  go_loopw [5, 7, 8, 9, 13] (fun v _ _ _ i wr => ∃ j : Nat, j ≤ n ∧ i = .int .i64 j ∧ Hid (OwnInts wr (w.heap.size + 2) v ((zs.take j).filter (unkn K)) ∧ WB w w.heap.size a n cap ((zs.take j).foldl (ovK K) d) wr)) (fun _ _ _ _ i _ => n - (intOf i).toNat)
  case atStart => exact ⟨0, Nat.zero_le _, rfl, Own.nil _ _ _, HB0.out⟩
  case round =>
    obtain ⟨j, hj, rfl, hrel⟩ := hrel
    by_cases hlt : j < n
    · obtain ⟨hown, hwb⟩ := hrel.out
      obtain ⟨ab, ao, rfl, hc⟩ := (HZ.out.keep hwb.lat).row.at_ (by omega)
      have c1 := hc j hlt
      have hjl : j < zs.length := by rw [HL.out]; exact hlt
      have hzm := HIN.out _ (getD_mem zs j hjl)
      have hfs := filt_succ K zs j hjl
      have hds := fold_succ K zs d j hjl
      have hdl := ovK_len HKL.out (zs.take j) d HD.out
      obtain ⟨z, hz⟩ : ∃ z, z = zs.getD j 0 := ⟨_, rfl⟩
      obtain ⟨dj, hdj⟩ : ∃ dj, dj = (zs.take j).foldl (ovK K) d := ⟨_, rfl⟩
      rw [← hz] at c1 hzm hfs hds
      rw [← hdj] at hds hdl hwb
      have c2 := hwb.lat.cell_at H2.out
      have b0 := hwb.c0
      have b1 := hwb.c1
      have g1 := hwb.f1
      have i1 : (0 : Int) ≤ (j : Int) := by omega
      have i2 : (j : Int) < (n : Int) := by omega
      have hlook := (HKN.out.keep hwb.lat).look_ok hk z hzm.1 hzm.2
      obtain ⟨X, hX⟩ : ∃ X, X = w.heap.size := ⟨_, rfl⟩
      have HFS := Lib.hid hfs; have HDS := Lib.hid hds; have HDL := Lib.hid hdl; have HOW := Lib.hid hown; have HWB := Lib.hid hwb; have HJL := Lib.hid hjl; have HZM := Lib.hid hzm; have HX := Lib.hid hX
      clear hrel hc hjl hzm hfs hds hdl hz hdj hown hwb
      cases hq : K z with
      | some b =>
        have hbl := (HKL.out z b hq).2.2
        have hu : unkn K z = false := by unfold unkn; rw [hq]; rfl
        have ho : ovK K dj z = xorL dj b := by unfold ovK; rw [hq]
        rw [hq] at hlook
        have hlook2 : ∀ W, Lat wr W → (Instr.lookup 63 (.map (some kb)) (.int .i64 z) true).run Tryd.prog W = .ok (.tuple #[.string (S b), .bool true]) W := fun W hW => by
          have := ((HKN.out.keep HWB.out.lat).keep hW).look_ok hk z HZM.out.1 HZM.out.2
          rw [hq] at this; exact this
        have hover := fun W => overS dj (S b) W (by rw [HDL.out]; exact hbl.symm) (by rw [HDL.out]; unfold maxLen; omega)
        have h3 := hlook2 wr (Lat.refl _)
        have HQ := Lib.hid hq; have HBL := Lib.hid hbl; have HU := Lib.hid hu; have HO := Lib.hid ho; have HOV := Lib.hid hover
        clear hq hlook hlook2 hbl hu ho hover
        go_wp2_with (go_at_call 65; refine (HOV.out _).mono ?_; rintro e w5 ⟨rfl, hb5⟩; have hwb5 := HWB.out.keep hb5; have k1 := hwb5.c1; have k2 := hwb5.f1; have HW5 := Lib.hid hwb5; have HB5 := Lib.hid hb5; clear hwb5 hb5)
        go_roundw
        case rel => exact ⟨j + 1, by omega, by go_num, by rw [HFS.out, HU.out, if_neg (by decide)]; exact Own.frL (Own.keep HOW.out HB5.out) (Fr.set (S := fun i => i = w.heap.size) _ ⟨w.heap.size, 1, none⟩ _ rfl) (by omega), by rw [HDS.out, HO.out]; exact HW5.out.put _⟩
        case measure => simp [intOf]; omega
      | none =>
        have hlook2 : (Instr.lookup 63 (.map (some kb)) (.int .i64 z) true).run Tryd.prog wr = .ok (.tuple #[.string { data := #[] }, .bool false]) wr := by
          rw [hq] at hlook; exact hlook
        have hu : unkn K z = true := by unfold unkn; rw [hq]; rfl
        have ho : ovK K dj z = dj := by unfold ovK; rw [hq]
        have HU := Lib.hid hu; have HO := Lib.hid ho
        clear hq hlook hu ho
        have hl : ((zs.take j).filter (unkn K)).length < 1000000 := by
          have h1 := List.length_filter_le (unkn K) (zs.take j)
          rw [List.length_take] at h1
          omega
        have HLL := Lib.hid hl
        have HWZ : Hid (w.heap.size + 2 ≤ wr.heap.size) := HWB.out.lt
        clear hl
        go_wp2_with (at_builtin; refine app_intG wr (w.heap.size + 2) rfl (.tmp 32) (.tmp 34) rfl _ _ z rfl HOW.out rfl HLL.out HWZ.out ?_; intro v' w2 hown' hf2)
        go_roundw
        case rel => exact ⟨j + 1, by omega, by go_num, by rw [HFS.out, HU.out, if_pos rfl]; exact hown', by rw [HDS.out, HO.out]; exact HWB.out.fr hf2 (fun i e => (Own.lt HOW.out i e).1)⟩
        case measure => simp [intOf]; omega
    · obtain rfl : j = n := by omega
      obtain ⟨hown, hwb⟩ := hrel.out
      have b0 := hwb.c0
      have b1 := hwb.c1
      have g0 := hwb.f0
      have g1 := hwb.f1
      have r0 := hwb.r0
      have r1 := hwb.r1
      have s0 := hwb.g0
      have s1 := hwb.g1
      have HWB := Lib.hid hwb
      have ht : zs.take j = zs := List.take_of_length_le (by rw [HL.out]; exact Nat.le_refl _)
      rw [ht] at hown b1 HWB
      obtain ⟨oa, oc, rfl, hat⟩ := OwnInts.slice hown (fun z hz => by have := HIN.out z (List.mem_filter.1 hz).1; omega)
      have hbk : ∀ b o, oa = some ⟨b, o, none⟩ → w.heap.size + 2 ≤ b := fun b o e => (Own.lt hown b (by rw [e]; rfl)).1
      obtain ⟨fs, hfs⟩ : ∃ fs, fs = zs.filter (unkn K) := ⟨_, rfl⟩
      obtain ⟨dd, hdd⟩ : ∃ dd, dd = zs.foldl (ovK K) d := ⟨_, rfl⟩
      have hwo : wout K (zs, d) = (fs, dd) := by unfold wout; rw [hfs, hdd]
      rw [← hfs] at hat
      rw [← hdd] at b1 HWB
      obtain ⟨fl, hfl⟩ : ∃ fl, fl = fs.length := ⟨_, rfl⟩
      rw [← hfs, ← hfl]
      rw [← hfl] at hat
      have HWO := Lib.hid hwo; have HFL := Lib.hid hfl
      have HAT := Lib.hid hat; have HBK := Lib.hid hbk
      obtain ⟨W1, hW1⟩ : ∃ W1, W1 = wr.setCell ⟨w.heap.size, 0, none⟩ (.slice oa fl oc) := ⟨_, rfl⟩
      have q0 : W1.cell? ⟨w.heap.size, 0, none⟩ = some (.slice oa fl oc) := by rw [hW1]; exact World.cell?_setCell_same _ _ _ b0
      have q1 : W1.cell? ⟨w.heap.size, 1, none⟩ = some (.string (S dd)) := by rw [hW1, World.cell?_setCell_other _ _ _ _ (by simp)]; exact b1
      have q2 : W1.cell? ⟨w.heap.size + 1, 0, none⟩ = some (.slice none 0 0) := by rw [hW1, World.cell?_setCell_other _ _ _ _ (by intro e; injection e with e _ _; omega)]; exact r0
      have q3 : W1.cell? ⟨w.heap.size + 1, 1, none⟩ = some (.string { data := #[] }) := by rw [hW1, World.cell?_setCell_other _ _ _ _ (by intro e; injection e with e _ _; omega)]; exact r1
      have q4 : W1.frozen? ⟨w.heap.size + 1, 0, none⟩ = false := by rw [hW1, World.frozen?_setCell]; exact s0
      have q5 : W1.frozen? ⟨w.heap.size + 1, 1, none⟩ = false := by rw [hW1, World.frozen?_setCell]; exact s1
      have hfr : Fr (fun i => i = w.heap.size ∨ i = w.heap.size + 1) wr W1 := by rw [hW1]; exact Fr.set _ _ _ (.inl rfl)
      have HFR := Lib.hid hfr; have HOWN := Lib.hid hown; have HW1 := Lib.hid hW1
      clear hrel hown hwb ht hat hbk hfs hdd hwo hfl hfr
      go_upto_region 11 with fail
      rw [← hW1]
      clear hW1 b0 b1 g0 g1 r0 r1 s0 s1
      go_wp2
      have Q := two_put q2 q3 (.slice oa fl oc) (.string (S dd))
      have hfin : Fr (fun i => i = w.heap.size ∨ i = w.heap.size + 1) wr ((W1.setCell ⟨w.heap.size + 1, 0, none⟩ (.slice oa fl oc)).setCell ⟨w.heap.size + 1, 1, none⟩ (.string (S dd))) := (HFR.out.then_set ⟨w.heap.size + 1, 0, none⟩ _ (.inl (.inr rfl))).then_set ⟨w.heap.size + 1, 1, none⟩ _ (.inl (.inr rfl))
      refine bodyPost_ret (v := .agg #[.slice oa fl oc, .string (S dd)]) (by simp [results, Tryd.results56, go_sem, Q.1, Q.2]) rfl ?_
      rw [HWO.out]
      show ∃ a' c', Ending.returned (.agg #[.slice oa fl oc, .string (S dd)]) = .returned (.agg #[.slice a' fs.length c', .string (S dd)]) ∧ IntsAt _ a' fs.length c' fs ∧ _
      rw [← HFL.out]
      refine ⟨oa, oc, rfl, HAT.out.fr hfin (fun hn b o e h => ?_), fun b o e => ?_, hfin.lat_of HWB.out.lat (fun i e => ?_)⟩
      · have := HBK.out b o e
        omega
      · have := HBK.out b o e
        omega
      · omega
end Go.Proofs.YtcpookgbneoilaaDoor

namespace Go.Proofs.YtcpookgbneoilaaDoor
open Go.ChangeShapes Go.WideShapes Go.ChangeAt Go.RowKit

theorem sort_none (a : Option Addr) (cap : Nat) (w : World) : Calls Tryd.prog 55 #[.slice a 0 cap] w fun e w' => e = .returned (.tuple #[]) ∧ w' = w :=
  Any.slices_Sort_int_none Tryd.lays189 a cap w
theorem learn1_any (a : Option Addr) (n c : Nat) (s : ByteArray) (w : World) :
    Calls Tryd.prog 58 #[.agg #[.slice a n c, .string s]] w fun e w' => e = .returned (.bool (decide (n = 1))) ∧ Lat w w' := by
  obtain ⟨b, hb⟩ : ∃ b, b = decide (n = 1) := ⟨_, rfl⟩
  have h1 : ((n : Int) == 1) = b := by
    rw [hb]
    by_cases h : n = 1
    · subst h; rfl
    · rw [decide_eq_false h]; exact beq_eq_false_iff_ne.2 (by omega)
  rw [← hb]
  clear hb
  go_enter Tryd.func58, Tryd.ntmps58
  go_wp2
  go_ret
  exact ⟨rfl, Lat.alloc _ _⟩
def IxEnd (L : List Wt) (r : Int) : Prop := (r = -1 ∧ ∀ (j : Nat) (x : Wt), L[j]? = some x → one1 x = false) ∨ ∃ (i : Nat) (x : Wt), r = i ∧ L[i]? = some x ∧ one1 x = true ∧ ∀ j, j < i → ∀ y, L[j]? = some y → one1 y = false

set_option maxHeartbeats 1000000 in
theorem indexW0 (F : Nat) (eF : ∀ args w, (callFunc F args).run Tryd.prog w = .ok (.enter F args) w) (hF : ∀ (a : Option Addr) (n c : Nat) (s : ByteArray) (w : World), Calls Tryd.prog F #[.agg #[.slice a n c, .string s]] w fun e w' => e = .returned (.bool (decide (n = 1))) ∧ Lat w w') (N G : Nat → Prop) (a : Option Addr) (n cap : Nat) (rows : List (List Value)) (L : List Wt) (w : World) (h : RowsAt w 2 a n cap rows) (hw : WtsAt w N G rows L) (hn : n ≤ 1000000) :
    Calls Tryd.prog 57 #[.slice a n cap, .func (.func F) #[] #[]] w fun e w' => ∃ r : Int, e = .returned (.int .i64 r) ∧ IxEnd L r ∧ Lat w w' := by
  have hcap2 := h.cap
  have hle2 := h.le
  have hl : L.length = n := by rw [← hw.1]; exact h.len
  unfold maxLen at hcap2
  have H := Lib.hid h; have HW := Lib.hid hw; have HL := Lib.hid hl; have HF := Lib.hid hF
  clear h hw hl hF
  go_enter Tryd.func57, Tryd.ntmps57
  go_wp2
  go_loopw [8] (fun i wr => ∃ k : Nat, k ≤ n ∧ i = .int .i64 k ∧ Hid ((∀ j, j < k → ∀ y, L[j]? = some y → one1 y = false) ∧ Lat w wr)) (fun i _ => n - (intOf i).toNat)
  case atStart => exact ⟨0, Nat.zero_le _, rfl, fun j hj => absurd hj (Nat.not_lt_zero _), Lat.refl _⟩
  case round =>
    obtain ⟨k, hk, rfl, hrel⟩ := hrel
    by_cases hlt : k < n
    · obtain ⟨b, o, rfl, hc⟩ := (H.out.keep hrel.out.2).at_ (by omega)
      have hkl : k < L.length := by rw [HL.out]; exact hlt
      obtain ⟨x, hx⟩ : ∃ x, x = L[k] := ⟨_, rfl⟩
      have hx2 : L[k]? = some x := by rw [hx]; exact List.getElem?_eq_getElem hkl
      obtain ⟨r, hr, hwt⟩ := (HW.out.keep hrel.out.2).2 k x hx2
      obtain ⟨xa, xc, rfl, hxi, _, _⟩ := hwt.ex
      have c0 := (hc k _ hr).2 0 _ rfl
      have c1 := (hc k _ hr).2 1 _ rfl
      rw [Nat.add_zero] at c0
      rw [← Nat.add_assoc] at c1
      have hcall := HF.out xa x.1.length xc (S x.2)
      obtain ⟨q, hq⟩ : ∃ q, q = decide (x.1.length = 1) := ⟨_, rfl⟩
      have hq1 : one1 x = q := hq.symm
      rw [← hq] at hcall
      obtain ⟨xn, hxn⟩ : ∃ xn, xn = x.1.length := ⟨_, rfl⟩
      obtain ⟨xs, hxs⟩ : ∃ xs, xs = S x.2 := ⟨_, rfl⟩
      rw [← hxn, ← hxs] at hcall
      rw [← hxn] at c0
      rw [← hxs] at c1
      have HX := Lib.hid hx2; have HQ := Lib.hid hq1; have HR := Lib.hid hrel.out; have HC := Lib.hid hcall
      clear hx hx2 hr hwt hxi hc hq hq1 hrel hcall hxn hxs hkl
      cases q with
      | true =>
        go_wp2_with (go_at_fn F; refine (HC.out _).mono ?_; rintro e w5 ⟨rfl, hb5⟩)
        go_ret
        exact ⟨k, rfl, .inr ⟨k, x, rfl, HX.out, HQ.out, HR.out.1⟩, HR.out.2.trans hb5⟩
      | false =>
        go_wp2_with (go_at_fn F; refine (HC.out _).mono ?_; rintro e w5 ⟨rfl, hb5⟩)
        go_roundw
        case rel => exact ⟨k + 1, by omega, by go_num, fun j hj y hy => by
          by_cases e : j = k
          · subst e
            have := HX.out.symm.trans hy
            injection this with this
            subst this
            exact HQ.out
          · exact HR.out.1 j (by omega) y hy, HR.out.2.trans hb5⟩
        case measure => simp [intOf]; omega
    · obtain rfl : k = n := by omega
      have HR := Lib.hid hrel.out
      clear hrel
      go_wp2
      go_ret
      exact ⟨-1, rfl, .inl ⟨rfl, fun j x hx => HR.out.1 j (by
        rcases Nat.lt_or_ge j k with h | h
        · exact h
        · rw [List.getElem?_eq_none (by rw [HL.out]; exact h)] at hx; cases hx) x hx⟩, HR.out.2⟩
theorem indexW (N G : Nat → Prop) (a : Option Addr) (n cap : Nat) (rows : List (List Value)) (L : List Wt) (w : World) (h : RowsAt w 2 a n cap rows) (hw : WtsAt w N G rows L) (hn : n ≤ 1000000) :
    Calls Tryd.prog 57 #[.slice a n cap, .func (.func 58) #[] #[]] w fun e w' => ∃ r : Int, e = .returned (.int .i64 r) ∧ IxEnd L r ∧ Lat w w' :=
  indexW0 _ (enters_of Tryd.func58 (by kernel_rfl) rfl) learn1_any N G a n cap rows L w h hw hn
end Go.Proofs.YtcpookgbneoilaaDoor

namespace Go.Proofs.YtcpookgbneoilaaDoor
open Go.ChangeShapes Go.WideShapes Go.ChangeAt Go.RowKit Go.Sort

theorem sort_fr (B : Nat) (v : Value) (zs : List Int) (w : World) (h : OwnInts w B v zs) (hl : zs.length ≤ 1000000) :
    Calls Tryd.prog 55 #[v] w fun e w' => e = .returned (.tuple #[]) ∧ OwnInts w' B v (zs.mergeSort fun x y => decide (x ≤ y)) ∧ Fr (fun i => v.ownBlock = some i) w w' := by
  obtain ⟨hlen, hor⟩ := h
  rw [List.length_map] at hor
  rcases hor with ⟨rfl, h0⟩ | ⟨g, cap, cur, rfl, hg, hh, hn, hc, hs, ht⟩
  · obtain rfl := List.eq_nil_of_length_eq_zero h0
    refine (sort_none none 0 w).mono ?_
    rintro e w' ⟨he, rfl⟩
    exact ⟨he, by rw [List.mergeSort_nil]; exact Own.nil _ _ _, Fr.refl _ _⟩
  · have hgl : g < w.heap.size := (Array.getElem?_eq_some_iff.1 hh).1
    rw [Nat.mul_one] at ht hs
    have hH : Holds (Value.int .i64) w g 0 zs.toArray := by
      intro j hj
      have hj' : j < zs.length := by simpa using hj
      refine ⟨?_, by simp [World.frozen?, hh]⟩
      have h1 : (cur.toList.take zs.length)[j]? = (zs.map encI)[j]? := by rw [ht]
      rw [List.getElem?_take_of_lt hj'] at h1
      simp only [World.cell?, hh, Nat.zero_add]
      simp only [Option.isSome_none, Bool.false_eq_true, if_false]
      rw [← Array.getElem?_toList, h1]
      simp [hj']
    refine (Tryd.slices_Sort_int g 0 cap zs w hH hgl (by omega)).mono ?_
    rintro e w' ⟨he, n, os, rfl⟩
    have hts : (zs.mergeSort fun x y => decide (x ≤ y)).length = zs.length := List.length_mergeSort _
    refine ⟨he, ⟨by simp, .inr ⟨g, cap, putCells encI 0 (zs.mergeSort fun x y => decide (x ≤ y)).toArray cur, ?_, hg, ?_, by simpa using hn, hc, by simp [putCells, hs], ?_⟩⟩, ?_⟩
    · simp
    · rw [heap_grow_old _ _ (by simpa using hgl)]
      simp [putRow, mapBlock, Sort.ahead, Array.getElem?_modify, hh, onCells]
    · rw [Nat.mul_one, List.length_map]; exact take_putI cur _ (by omega)
    · refine ⟨rfl, rfl, rfl, by simp, fun k hk hne => ?_⟩
      rw [heap_grow_old _ _ (by simp; omega)]
      have : g ≠ k := fun e => hne (by rw [e]; rfl)
      simp [putRow, mapBlock, Sort.ahead, Array.getElem?_modify, this]

theorem app_intL (wr : World) (B : Nat) {ops : Array Oper} {rest : List Oper} {o : Oper} {a : Act} {Q : Exit → Act → World → Prop}
    (hg : o.guard = none) (s x : Operand) (ho : o.op = .call { callee := .builtin .append, args := #[s, x], argTypes := #[32, 32] })
    (v : Value) (zs : List Int) (z : Int) (hs : a.eval s = v) (hown : OwnInts wr B v zs) (hx : a.eval x = .slice (some ⟨wr.heap.size, 0, none⟩) 1 1)
    (hn : zs.length < 1000000) (hB : B ≤ wr.heap.size)
    (K : ∀ v' w', OwnInts w' B v' (zs ++ [z]) → Fr (fun j => v.ownBlock = some j) wr w' → (∀ i, v'.ownBlock = some i → v.ownBlock = some i ∨ wr.heap.size ≤ i) → wpList Tryd.prog ops Q rest (a.put o.dst v') w') :
    wpList Tryd.prog ops Q (o :: rest) a (wr.alloc (.cells #[.int .i64 z] 3)) := by
  have hal : OwnInts (wr.alloc (.cells #[.int .i64 z] 3)) B v zs := Own.alloc hown _
  have hrow1 : RowAt (wr.alloc (.cells #[.int .i64 z] 3)) (some ⟨wr.heap.size, 0, none⟩) 1 1 (fun j => [Value.int .i64 z].getD j undef) := by
    refine ⟨Nat.le_refl _, by unfold maxLen; omega, fun _ => ⟨wr.heap.size, 0, rfl, fun j hj => ?_⟩⟩
    obtain rfl : j = 0 := by omega
    simp
  obtain ⟨v', w', hrun, h2, h3, h4⟩ := run_app_many (P := Tryd.prog) (wr.alloc (.cells #[.int .i64 z] 3)) B 32 o.type 3 (.int .i64 0) 8 Tryd.underlying32 info_int rfl (by decide) v _ hal (some ⟨wr.heap.size, 0, none⟩) 1 1 [.int .i64 z] rfl
    hrow1 (fun u hu => by rw [List.mem_singleton.1 hu]; rfl) (by rw [List.length_map]; omega) (by simp; omega)
  refine wpList_plain hg fun K' hK => ?_
  unfold Oper.wp execOp
  simp only [ho, resolve, invoke, builtin, Sem.run_bind, Sem.run_pure, Result.andThen_ok, List.map_toArray, List.map_cons, List.map_nil, hs, hx, hrun]
  refine hK _ _ (K v' w' (by simpa [OwnInts] using h2) ⟨h3.os, h3.tape, h3.output, ?_, fun k hk hne => ?_⟩ (fun i hi => ?_))
  · have := h3.size; simp at this; omega
  · rw [h3.block k (by simp; omega) (fun e => hne e.symm)]; exact heap_alloc_old wr _ hk
  · rcases h4 with h | h
    · exact .inl (by rw [← h]; exact hi)
    · rw [h] at hi
      injection hi with hi
      exact .inr (by rw [← hi]; simp)

def GG (G : Nat → Prop) (w wr : World) (v : Value) (i : Nat) : Prop := i < wr.heap.size ∧ (G i ∨ w.heap.size ≤ i) ∧ v.ownBlock ≠ some i
section
variable {G : Nat → Prop} {p kb tb k m : Nat} {K K' : Kn} {T : List Int} {L : List Wt} {a : Option Addr} {cap : Nat} {w w1 w2 wr wx : World} {v v' : Value}
theorem PeelIn.gg (h : PeelIn (GG G w w1 v) p kb tb k m K T L a cap w1) (hb : Lat w1 w2) : PeelIn (GG G w w2 v) p kb tb k m K T L a cap w2 :=
  (h.keep hb).grow (fun _ hi => ⟨Nat.lt_of_lt_of_le hi.1 hb.size, hi.2⟩) (fun _ hi => hi.1)
theorem PeelIn.know (h : PeelIn G p kb tb k m K T L a cap w1) (hkn : KnAt w2 kb k K') (hf : Fr (fun i => i = kb) w1 w2) (hok : WOk k m K' L) : PeelIn G p kb tb k m K' T L a cap w2 := by
  obtain ⟨rows, ho, hw⟩ := h.row
  have np : ¬ p = kb := h.nk
  exact ⟨fun i hi => Nat.lt_of_lt_of_le (h.lt i hi) hf.size, h.gp, h.gk, h.gt, h.nk, h.nt, h.nkt, hf.cell_at h.c0 np, hf.cell_at h.c1 np, hf.cell_at h.c2 np, hf.cell_at h.c3 np, hf.cell_at h.c4 np, hf.free_at (h.lt _ h.gp) h.free np,
    hkn, h.tk.fr hf (fun e => h.nkt e.symm), ⟨rows, ho.fr hf (fun i hi e => (h.own i hi).2.2.1 e), hw.fr hf (fun i _ e _ => .inr (.inl e))⟩, h.own, hok, h.most⟩
theorem PeelIn.other (h : PeelIn (GG G w w1 v) p kb tb k m K T L a cap w1) (hf : Fr (fun i => v.ownBlock = some i) w1 w2) (hloc : ∀ i, v'.ownBlock = some i → v.ownBlock = some i ∨ w1.heap.size ≤ i) : PeelIn (GG G w w2 v') p kb tb k m K T L a cap w2 := by
  have h2 := h.fr hf (fun i hi e => hi.2.2 e)
  refine PeelIn.grow ⟨h2.lt, h2.gp, h2.gk, h2.gt, h2.nk, h2.nt, h2.nkt, h2.c0, h2.c1, h2.c2, h2.c3, h2.c4, h2.free, h2.kn, h2.tk, h2.row, h2.own, h2.ok, h2.most⟩ (fun i hi => ⟨Nat.lt_of_lt_of_le hi.1 hf.size, hi.2.1, fun e => ?_⟩) (fun _ hi => hi.1)
  rcases hloc i e with h3 | h3
  · exact hi.2.2 h3
  · have := hi.1; omega
theorem PeelIn.left (h : PeelIn (GG G w wr v) p kb tb k m K T L a cap wr) (hv : ∀ i, v.ownBlock = some i → i < wr.heap.size) (hw : w.heap.size ≤ wr.heap.size) (hl : Lat wr wx) {la : Option Addr} {ll lc : Nat} {rows : List (List Value)} (ho : OwnR wx wr.heap.size 74 2 (.slice la ll lc) rows)
    (hws : WtsAt wx (fun i => (Value.slice la ll lc).ownBlock = some i) (fun i => wr.heap.size ≤ i) rows (leftW K L)) (hll : (leftW K L).length = ll) :
    PeelIn (GG G w (wx.setCell ⟨p, 4, none⟩ (.slice la ll lc)) v) p kb tb k m K T (leftW K L) la lc (wx.setCell ⟨p, 4, none⟩ (.slice la ll lc)) := by
  have hs : (wx.setCell ⟨p, 4, none⟩ (.slice la ll lc)).heap.size = wx.heap.size := by simp [World.setCell]
  have hp := h.lt _ h.gp
  have hkb := h.lt _ h.gk
  have htb := h.lt _ h.gt
  have hf : Fr (fun i => i = p) wx (wx.setCell ⟨p, 4, none⟩ (.slice la ll lc)) := Fr.set _ _ _ rfl
  have h2 := h.keep hl
  have hlz := hl.size
  have hup : ∀ i, GG G w wr v i → GG G w (wx.setCell ⟨p, 4, none⟩ (.slice la ll lc)) v i := fun i hi => ⟨by rw [hs]; exact Nat.lt_of_lt_of_le hi.1 hl.size, hi.2⟩
  have hlen : (leftW K L).length ≤ L.length := by
    unfold leftW
    refine Nat.le_trans (List.length_filter_le _ _) ?_
    rw [List.length_map]; exact Nat.le_refl _
  have hob := OwnR.lt ho
  have c : ∀ j x, j ≠ 4 → wx.cell? ⟨p, j, none⟩ = some x → (wx.setCell ⟨p, 4, none⟩ (.slice la ll lc)).cell? ⟨p, j, none⟩ = some x := fun j x hj hx => by
    rw [World.cell?_setCell_other _ _ _ _ (by intro e; injection e with _ e _; exact hj e.symm)]; exact hx
  refine ⟨fun i hi => hi.1, hup _ h.gp, hup _ h.gk, hup _ h.gt, h.nk, h.nt, h.nkt, c _ _ (by decide) h2.c0, c _ _ (by decide) h2.c1, c _ _ (by decide) h2.c2, c _ _ (by decide) h2.c3, by rw [hll]; exact World.cell?_setCell_same _ _ _ h2.c4, by rw [World.frozen?_setCell]; exact h2.free,
    h2.kn.fr hf (fun e => h.nk e.symm), h2.tk.fr hf (fun e => h.nt e.symm), ⟨rows, ?_, ?_⟩, fun i hi => ?_, h.ok.left, Nat.le_trans hlen h.most⟩
  · rw [hll]; exact (ho.base (Nat.zero_le _)).fr hf (fun i hi e => by have := (hob i hi).1; omega)
  · rw [hll]
    refine (hws.fr hf (fun i _ e hi => ?_)).off (fun i _ hi e => ?_) (fun i hi hi2 hn => ⟨hi, ?_, fun e => ?_⟩)
    · omega
    · rcases e with e | e | e | e
      · omega
      · omega
      · omega
      · exact e
    · exact .inr (Nat.le_trans hw hi2)
    · have := hv i e; omega
  · rw [hll] at hi
    obtain ⟨g1, g2⟩ := hob i hi
    refine ⟨⟨by rw [hs]; exact g2, .inr (by omega), fun e => ?_⟩, by omega, by omega, by omega⟩
    have := hv i e
    omega
end
end Go.Proofs.YtcpookgbneoilaaDoor

namespace Go.Proofs.YtcpookgbneoilaaDoor
open Go.ChangeShapes Go.WideShapes Go.ChangeAt Go.RowKit

theorem lack_rank {k : Nat} (h64 : k ≤ 64) {L : List Vec} (h : Bare k L) {i : Nat} (hi : i < k) :
    (rk k (L ++ (lackL k L i).map unit) < rk k (L ++ (lackL k L i).map unit ++ [unit i])) = (raises k (L ++ (List.range i).map unit) (unit i) = true) ∧ Bare k (L ++ (lackL k L i).map unit) := by
  have hlt := lackL_lt k L i
  have hb1 : Bare k (L ++ (lackL k L i).map unit) := h.append (bare_units _ fun x hx => by have := hlt x hx; omega)
  have hb2 : Bare k (L ++ (List.range i).map unit) := h.append (bare_range (by omega))
  have hsame : ∀ v, Sp 0 (L ++ (lackL k L i).map unit) v ↔ Sp 0 (L ++ (List.range i).map unit) v := fun v => by
    constructor
    · refine Sp.mono fun x hx => ?_
      rcases List.mem_append.1 hx with hx | hx
      · exact List.mem_append_left _ hx
      · obtain ⟨j, hj, rfl⟩ := List.mem_map.1 hx
        exact List.mem_append_right _ (List.mem_map.2 ⟨j, List.mem_range.2 (hlt j hj), rfl⟩)
    · refine Sp.sub hb1.wf fun x hx => ?_
      rcases List.mem_append.1 hx with hx | hx
      · exact Sp.mem hb1.wf (List.mem_append_left _ hx)
      · obtain ⟨j, hj, rfl⟩ := List.mem_map.1 hx
        exact lack_fills h64 h i (by omega) j (List.mem_range.1 hj)
  have e : raises k (L ++ (lackL k L i).map unit) (unit i) = raises k (L ++ (List.range i).map unit) (unit i) := by
    have h1 := raises_iff h64 hb1 (v := unit i) rfl
    have h2 := raises_iff h64 hb2 (v := unit i) rfl
    have h3 := hsame (unit i)
    cases e1 : raises k (L ++ (lackL k L i).map unit) (unit i) <;> cases e2 : raises k (L ++ (List.range i).map unit) (unit i) <;> simp_all
  refine ⟨?_, hb1⟩
  rw [rk_snoc h64 hb1 (unit_lt hi), e]
  cases raises k (L ++ (List.range i).map unit) (unit i) <;> simp
theorem lackL_succ (k : Nat) (L : List Vec) (i : Nat) : lackL k L (i + 1) = if raises k (L ++ (List.range i).map unit) (unit i) = true then lackL k L i ++ [i] else lackL k L i := rfl
theorem apartL {w : World} {B C : Nat} {v u : Value} {A : List Vec} {zs : List Int} (h : OwnL w B v A) (k : OwnInts w C u zs) : ∀ g, v.ownBlock = some g → u.ownBlock ≠ some g := fun g hg hu => by
  rcases h.2.2 with ⟨rfl, _⟩ | ⟨g1, c1, cur1, rfl, _, hh1, _⟩
  · cases hg
  · rcases k.2 with ⟨rfl, _⟩ | ⟨g2, c2, cur2, rfl, _, hh2, _⟩
    · cases hu
    · cases hg; cases hu
      rw [hh1] at hh2
      injection hh2 with e
      injection e with _ e2 _
      exact absurd e2 (by decide)
structure LK (w : World) (k : Nat) (R : List Vec) (lv ov : Value) (i : Nat) (W : World) : Prop where
  lat : Lat w W
  own : OwnL W w.heap.size lv (R ++ (lackL k R i).map unit)
  out : OwnInts W w.heap.size ov (ofNats (lackL k R i))
theorem LK.keep {w W W' : World} {k : Nat} {R : List Vec} {lv ov : Value} {i : Nat} (h : LK w k R lv ov i W) (hb : Lat W W') : LK w k R lv ov i W' := ⟨h.lat.trans hb, h.own.keep hb, Own.keep h.out hb⟩

theorem OwnInts.frF {w w' : World} {B : Nat} {v : Value} {zs : List Int} {H : Nat → Prop} (h : OwnInts w B v zs) (hf : Fr H w w') (hn : ∀ g, v.ownBlock = some g → ¬ H g) : OwnInts w' B v zs := by
  obtain ⟨h1, h2⟩ := h
  refine ⟨h1, ?_⟩
  rcases h2 with h2 | ⟨g, cap, cur, rfl, hg, hh, rest⟩
  · exact .inl h2
  · exact .inr ⟨g, cap, cur, rfl, hg, by rw [hf.block g (Array.getElem?_eq_some_iff.1 hh).1 (hn g rfl)]; exact hh, rest⟩
theorem range_fr {w w' : World} {b o : Nat} {cs : List Value} {H : Nat → Prop} (h : w.rangeAt b o cs) (hf : Fr H w w') (hn : ¬ H b) : w'.rangeAt b o cs := fun j v hv => hf.cell_at (h j v hv) hn

set_option maxHeartbeats 8000000 in
set_option maxRecDepth 100000 in
theorem refLacks (k : Nat) (a : Option Addr) (n cap : Nat) (zs : List Int) (w : World) (h : IntsAt w a n cap zs) (h1 : 1 ≤ k) (h2 : k ≤ 16) (hz : ∀ z ∈ zs, 1 ≤ z ∧ z ≤ 10000) (hn : n ≤ 60) :
    Calls Tryd.prog 21 #[.int .i64 k, .slice a n cap] w fun e w' => ∃ v, e = .returned v ∧ OwnInts w' w.heap.size v (ofNats (lackL k (rowsOf k zs) k)) ∧ Lat w w' := by
  have hlen := h.len
  have hbare := rowsOf_bare (k := k) h1 hz
  have hrl := rowsOf_len k zs
  have hsnoc := rowsOf_takeR k zs
  rw [hlen] at hrl
  obtain ⟨R, hR⟩ : ∃ R, R = rowsOf k zs := ⟨_, rfl⟩
  rw [← hR] at hbare hrl hsnoc ⊢
  have hrk := fun (A : List Vec) (hA : Bare k A) (hA2 : A.length ≤ 100) aa nn cc W (hW : LinesAt W aa nn cc A) => refRk aa nn cc k 0 A W hW (hA.ln16 h2) (by have := hW.len; omega) h2 (by omega)
  have HH := Lib.hid h; have HZ := Lib.hid hz; have HLEN := Lib.hid hlen; have HRL := Lib.hid hrl; have HSN := Lib.hid hsnoc; have HBA := Lib.hid hbare; have HRK := Lib.hid hrk
  clear h hz hlen hbare hrl hsnoc hR hrk
  go_enter Tryd.func21, Tryd.ntmps21
  go_wp2_with fail
  go_loopg [5, 6] n (fun f lv iv wx => ∃ i : Nat, i + f = n ∧ iv = .int .i64 i ∧ Hid (Lat w wx ∧ OwnL wx w.heap.size lv (R.take i)))
  case atStart => exact ⟨0, by omega, rfl, Lat.refl w, OwnL.nil w _⟩
  case round =>
    obtain ⟨i, hi, rfl, hrel⟩ := hrel
    by_cases hlt : i < n
    · obtain ⟨f, rfl⟩ : ∃ f, gk = f + 1 := ⟨gk - 1, by omega⟩
      have di : decide (i < n) = true := decide_eq_true hlt
      have hzi := HZ.out _ (getD_mem zs i (by rw [HLEN.out]; exact hlt))
      have hsn := HSN.out i (by rw [HLEN.out]; exact hlt)
      obtain ⟨z, hzz⟩ : ∃ z : Nat, zs.getD i 0 = (z : Int) := ⟨(zs.getD i 0).toNat, by omega⟩
      obtain ⟨b, o, rfl, hc⟩ := (HH.out.keep hrel.out.1).row.at_ (by omega)
      have c0 := hc i hlt
      rw [hzz] at hzi c0 hsn
      obtain ⟨u, hu⟩ : ∃ u, u = rowOf k (z : Int) := ⟨_, rfl⟩
      have hu2 : (bitsN (setZ k z), ([] : List UInt8)) = u := by rw [hu]; unfold rowOf; rw [Int.toNat_natCast]
      rw [← hu] at hsn
      have i0 : (0 : Int) ≤ (i : Int) := by omega
      have i1 : (i : Int) < (n : Int) := by omega
      have hset := refSet k z wr h1 h2 (by omega) (by omega)
      have hs16 := setZ_16 h1 h2 z (by omega)
      have HSLN := Lib.hid (setZ_length k z h1 h2 (by omega)).2
      have HSET := Lib.hid hset; have HS16 := Lib.hid hs16; have HSN2 := Lib.hid hsn; have HU2 := Lib.hid hu2; have HREL := Lib.hid hrel.out
      clear hrel hc hzi hzz hsn hset hs16 hu hu2
      go_wp2_with fail
      refine HSET.out.mono ?_
      rintro e w2 ⟨sa, sc, rfl, hsi, hb2⟩
      have hsl : (setZ k z).length ≤ 1000000 := by have := HSLN.out; omega
      have HOF := Lib.hid (refOf sa _ sc (setZ k z) [] w2 hsi HS16.out hsl)
      have HB2 := Lib.hid hb2
      clear hsi hb2 hsl HSET HS16 HSLN
      go_wp2_with fail
      refine HOF.out.mono ?_
      rintro e w3 ⟨rfl, hb3⟩
      rw [HU2.out]
      have HL3 := Lib.hid (HB2.out.trans hb3)
      clear hb3 HOF HU2 HB2
      have hzt := zline_there w3 78
      obtain ⟨W4, hW4⟩ : ∃ W, W = (w3.alloc (.cells (lineC (0, [])).toArray 78)).setCells w3.heap.size 0 (lineC u) := ⟨_, rfl⟩
      have hx4 := World.rangeAt_setCells_same (w3.alloc (.cells (lineC (0, [])).toArray 78)) w3.heap.size 0 (lineC u) (by rw [lineC_len]; exact hzt)
      have hl34 : Lat w3 W4 := by
        rw [hW4]
        exact (Fr.setCells _ _ _ _).lat_of (Lat.alloc _ _) (fun k e => by rw [e]; exact Nat.le_refl _)
      rw [← hW4] at hx4
      rw [zero_cells] at hW4 hzt
      have HZT := Lib.hid hzt; have HX4 := Lib.hid hx4; have HW4 := Lib.hid hW4; have HL34 := Lib.hid (HL3.out.trans hl34)
      clear hzt hx4 hW4 hl34 HL3
      go_upto_region 6 with (refine at_store rfl (.tmp 7) (.tmp 25) rfl w3.heap.size 0 u rfl rfl HZT.out ?_)
      rw [← HW4.out]
      clear HW4 HZT
      refine wp_region_lit ?_
      have hll := lineC_len u
      go_wp2_with (first
        | refine at_load rfl (.tmp 7) rfl w3.heap.size 0 rfl u HX4.out ?_
        | (at_builtin; rw [bs_line u]; (refine app_line W4 w.heap.size rfl (.tmp 26) (.tmp 28) rfl u5 (R.take i) u rfl (HREL.out.2.keep HL34.out) rfl (by rw [List.length_take]; omega) (HREL.out.1.trans HL34.out).size ?_); intro v' w' hown' _ hfr'))
      have hlat := hfr'.lat_of (HREL.out.1.trans HL34.out) (fun k hk => (HREL.out.2.lt k hk).1)
      rw [← HSN2.out] at hown'
      have HOW := Lib.hid hown'; have HLAT := Lib.hid hlat
      clear hown' hfr' hlat hll
      try go_wp2_with fail
      go_roundg f
      case measure => omega
      case rel => exact ⟨i + 1, by omega, by go_num, HLAT.out, HOW.out⟩
    · obtain rfl : i = n := by omega
      have di : decide (i < i) = false := decide_eq_false (by omega)
      have ho := hrel.out.2
      rw [List.take_of_length_le (by rw [HRL.out]; exact Nat.le_refl _)] at ho
      have hlk : LK w k R u5 (.slice none 0 0) 0 wr := ⟨hrel.out.1, by rw [show lackL k R 0 = [] from rfl, List.map_nil, List.append_nil]; exact ho, Own.nil _ _ _⟩
      have HLK := Lib.hid hlk
      clear ho hrel hlk
      go_wp2_with fail
      go_loopg [5, 8, 9] k (fun f lv ov bv wx => ∃ b : Nat, b + f = k ∧ bv = .int .i64 b ∧ Hid (LK w k R lv ov b wx))
      case atStart => exact ⟨0, by omega, rfl, HLK.out⟩
      case round =>
        clear HLK
        obtain ⟨b, hb, rfl, hrel⟩ := hrel
        by_cases hbk : b < k
        · obtain ⟨f, rfl⟩ : ∃ f, gk = f + 1 := ⟨gk - 1, by omega⟩
          have db : decide (b < k) = true := decide_eq_true hbk
          obtain ⟨hst, hb1⟩ := lack_rank (by omega) HBA.out hbk
          have hle := lackL_le k R b
          have hsu := lackL_succ k R b
          obtain ⟨A, hA⟩ : ∃ A, A = R ++ (lackL k R b).map unit := ⟨_, rfl⟩
          have hAl : A.length ≤ 76 := by rw [hA, List.length_append, List.length_map, HRL.out]; omega
          have hb2 : Bare k (A ++ [unit b]) := by rw [hA]; exact hb1.snoc rfl (unit_lt hbk)
          rw [← hA] at hst hb1
          have hown : OwnL wr w.heap.size u5 A := by rw [hA]; exact hrel.out.own
          obtain ⟨aa, cc, hu5, -, -, -⟩ := OwnL.form hown rfl
          subst hu5
          obtain ⟨r1, hr1⟩ : ∃ r, r = rk k A := ⟨_, rfl⟩
          obtain ⟨r2, hr2⟩ : ∃ r, r = rk k (A ++ [unit b]) := ⟨_, rfl⟩
          rw [← hr1, ← hr2] at hst
          obtain ⟨c1, hc1⟩ : ∃ c, c = A.length := ⟨_, rfl⟩
          have hrk1 := HRK.out A hb1 (by omega) aa _ cc wr hown.shown
          have hrk2 := fun a2 n2 c2 W hW => HRK.out (A ++ [unit b]) hb2 (by rw [List.length_append, List.length_singleton]; omega) a2 n2 c2 W hW
          rw [rkF_eq (by omega) hb1, ← hr1] at hrk1
          rw [rkF_eq (by omega) hb2, ← hr2] at hrk2
          rw [← hc1] at hrk1 hown ⊢
          have hof := fun (W : World) => refOf (some ⟨W.heap.size, 0, none⟩) 1 1 [(b : Int)] [] (W.alloc (.cells #[.int .i64 (b : Int)] 3)) (by have h9 := ints_new W [(b : Int)] 3 (by simp) (by intro z hz; rw [List.mem_singleton] at hz; subst hz; omega); simpa using h9) (fun z hz => by rw [List.mem_singleton] at hz; subst hz; omega) (by omega)
          obtain ⟨u, hu⟩ : ∃ u, u = unit b := ⟨_, rfl⟩
          rw [bits_one, ← hu] at hof
          rw [← hu] at hrk2
          have HR1 := Lib.hid hrk1; have HR2 := Lib.hid hrk2; have HOF := Lib.hid hof; have HST := Lib.hid hst; have HSU := Lib.hid hsu; have HA := Lib.hid hA; have HREL := Lib.hid hrel.out; have HOW := Lib.hid hown; have HU := Lib.hid hu; have HC1 := Lib.hid hc1; have HLE := Lib.hid hle
          clear hrk1 hrk2 hof hst hsu hA hrel hown hu hc1 hle hr1 hr2 hb1 hb2
          have hll := lineC_len u
          go_wp2_with fail
          refine HR1.out.mono ?_
          rintro e w2 ⟨rfl, hb2⟩
          have HB2 := Lib.hid hb2
          clear hb2 HR1
          go_wp2_with fail
          refine (HOF.out w2).mono ?_
          rintro e w3 ⟨rfl, hb3⟩
          have HL3 := Lib.hid (HB2.out.trans ((Lat.alloc _ _).trans hb3))
          clear hb3 HOF HB2
          have hzt := zline_there w3 78
          obtain ⟨W4, hW4⟩ : ∃ W, W = (w3.alloc (.cells (lineC (0, [])).toArray 78)).setCells w3.heap.size 0 (lineC u) := ⟨_, rfl⟩
          have hx4 := World.rangeAt_setCells_same (w3.alloc (.cells (lineC (0, [])).toArray 78)) w3.heap.size 0 (lineC u) (by rw [lineC_len]; exact hzt)
          have hl34 : Lat w3 W4 := by
            rw [hW4]
            exact (Fr.setCells _ _ _ _).lat_of (Lat.alloc _ _) (fun k e => by rw [e]; exact Nat.le_refl _)
          rw [← hW4] at hx4
          rw [zero_cells] at hW4 hzt
          have HW3S := Lib.hid (show wr.heap.size ≤ w3.heap.size from HL3.out.size)
          have HZT := Lib.hid hzt; have HX4 := Lib.hid hx4; have HW4 := Lib.hid hW4; have HL34 := Lib.hid (HL3.out.trans hl34)
          clear hzt hx4 hW4 hl34 HL3
          go_upto_region 13 with (refine at_store rfl (.tmp 11) (.tmp 40) rfl w3.heap.size 0 u rfl rfl HZT.out ?_)
          rw [← HW4.out]
          clear HW4 HZT
          refine wp_region_lit ?_
          go_wp2_with (first
            | refine at_load rfl (.tmp 11) rfl w3.heap.size 0 rfl u HX4.out ?_
            | (at_builtin; rw [bs_line u]; (refine app_line W4 w.heap.size rfl (.tmp 41) (.tmp 43) rfl (.slice aa c1 cc) A u rfl (HOW.out.keep HL34.out) rfl (by omega) (HREL.out.lat.trans HL34.out).size ?_); intro v5 w5 hown5 hold5 hfr5))
          have hl5 := hfr5.lat_of (HREL.out.lat.trans HL34.out) (fun k hk => (HOW.out.lt k hk).1)
          have hout5 : OwnInts w5 w.heap.size u8 (ofNats (lackL k R b)) := OwnInts.frF (Own.keep HREL.out.out HL34.out) hfr5 (fun g hg e => apartL HOW.out HREL.out.out g e hg)
          have hx5 := range_fr HX4.out hfr5 (fun e => by have := (HOW.out.lt _ e).2; have := HL34.out.size; have := HW3S.out; omega)
          obtain ⟨a5, c5, hv5, -, -, -⟩ := OwnL.form hown5 rfl
          subst hv5
          obtain ⟨n5, hn5⟩ : ∃ n5, n5 = (A ++ [u]).length := ⟨_, rfl⟩
          have hrk5 := HR2.out a5 _ c5 w5 hown5.shown
          rw [← hn5] at hrk5 ⊢
          have HR5 := Lib.hid hrk5; have HL5 := Lib.hid hl5; have HO5 := Lib.hid hout5; have HX5 := Lib.hid hx5; have HOLD := Lib.hid hold5; have HN5 := Lib.hid hn5
          clear hown5 hold5 hfr5 hl5 hout5 hx5 hrk5 hn5 HR2 HX4 HREL HOW
          try go_wp2_with fail
          refine HR5.out.mono ?_
          rintro e w6 ⟨rfl, hb6⟩
          have HL6 := Lib.hid (HL5.out.trans hb6); have HO6 := Lib.hid (Own.keep HO5.out hb6); have HX6 := Lib.hid (range_keep HX5.out hb6); have HV6 := Lib.hid (HOLD.out.keep hb6)
          clear hb6 HR5 HL5 HO5 HX5 HOLD HN5
          by_cases hgt : r1 < r2
          · have dg : decide (r1 < r2) = true := decide_eq_true hgt
            have hs2 := HSU.out
            rw [if_pos (HST.out ▸ hgt)] at hs2
            have HS2 := Lib.hid hs2
            clear hs2 HSU HST hgt
            go_wp2_with (first
              | refine at_load rfl (.tmp 11) rfl w3.heap.size 0 rfl u HX6.out ?_
              | (at_builtin; rw [bs_line u]; (refine app_line w6 w.heap.size rfl (.tmp 50) (.tmp 52) rfl (.slice aa c1 cc) A u rfl HV6.out rfl (by omega) HL6.out.size ?_); intro v7 w7 hown7 _ hfr7)
              | (at_builtin; refine app_intF w7 w.heap.size rfl (.tmp 54) (.tmp 56) rfl u8 (ofNats (lackL k R b)) (b : Int) rfl (OwnInts.frF HO6.out hfr7 (fun g hg e => apartL HV6.out HO6.out g e hg)) rfl (by unfold ofNats; rw [List.length_map]; have := HLE.out; omega) (hfr7.lat_of HL6.out (fun k hk => (HV6.out.lt k hk).1)).size ?_; intro v8 w8 hown8 hfr8))
            have ho7 := OwnInts.frF HO6.out hfr7 (fun g hg e => apartL HV6.out HO6.out g e hg)
            have hl7 := hfr7.lat_of HL6.out (fun k hk => (HV6.out.lt k hk).1)
            have hl8 := hfr8.lat_of hl7 (fun k hk => (Own.lt ho7 k hk).1)
            have hv8 : OwnL w8 w.heap.size v7 (A ++ [u]) := OwnR.fr hown7 hfr8 (fun g hg e => apartL hown7 ho7 g hg e)
            have hlk : LK w k R v7 v8 (b + 1) w8 := ⟨hl8, by rw [HS2.out, List.map_append, ← List.append_assoc, ← HA.out]; show OwnL w8 w.heap.size v7 (A ++ [unit b]); rw [← HU.out]; exact hv8, by rw [HS2.out]; unfold ofNats at hown8 ⊢; rw [List.map_append]; exact hown8⟩
            have HLKN := Lib.hid hlk
            clear hown7 hown8 hfr7 hfr8 ho7 hl7 hl8 hv8 hlk
            try go_wp2_with fail
            go_roundg f
            case measure => omega
            case rel => exact ⟨b + 1, by omega, by go_num, HLKN.out⟩
          · have dg : decide (r1 < r2) = false := decide_eq_false hgt
            have hs2 := HSU.out
            rw [if_neg (fun e => hgt (HST.out ▸ e))] at hs2
            have hlk : LK w k R (.slice aa c1 cc) u8 (b + 1) w6 := ⟨HL6.out, by rw [hs2, ← HA.out]; exact HV6.out, by rw [hs2]; exact HO6.out⟩
            have HLKN := Lib.hid hlk
            clear hs2 HSU HST hgt hlk
            go_wp2_with fail
            go_roundg f
            case measure => omega
            case rel => exact ⟨b + 1, by omega, by go_num, HLKN.out⟩
        · obtain rfl : b = k := by omega
          have db : decide (b < b) = false := decide_eq_false (by omega)
          have HR := Lib.hid hrel.out
          clear hrel
          go_wp2_with fail
          go_ret
          exact ⟨_, rfl, HR.out.out, HR.out.lat⟩
end Go.Proofs.YtcpookgbneoilaaDoor

namespace Go.Proofs.YtcpookgbneoilaaDoor
open Go.ChangeShapes Go.WideShapes Go.ChangeAt Go.RowKit

theorem sameErr_nil (w : World) : Calls Tryd.prog 7 #[.nilIface, .int .i64 0] w fun e w' => e = .returned (.bool true) ∧ Lat w w' := by
  go_enter Tryd.func7, Tryd.ntmps7
  go_wp2_with (go_at_call 29; refine (told_nil _).mono ?_; rintro e w' ⟨rfl, hb⟩)
  go_ret
  exact ⟨rfl, hb⟩
theorem sameErr_eno (n : Int) (w : World) (hg : Hnd w) : Calls Tryd.prog 7 #[eno n, .int .i64 n] w fun e w' => e = .returned (.bool true) ∧ Lat w w' := by
  have H := Lib.hid hg
  clear hg
  go_enter Tryd.func7, Tryd.ntmps7
  go_wp2_with (go_at_call 29; refine (told_eno n _ H.out).mono ?_; rintro e w' ⟨rfl, hb⟩)
  go_ret
  exact ⟨rfl, hb⟩
theorem sameErr_any (n : Nat) (w : World) (hg : Hnd w) : Calls Tryd.prog 7 #[errv n, .int .i64 n] w fun e w' => e = .returned (.bool true) ∧ Lat w w' := by
  by_cases h : n = 0
  · subst h; exact sameErr_nil w
  · rw [errv_pos h]; exact sameErr_eno n w hg
end Go.Proofs.YtcpookgbneoilaaDoor

namespace Go.Proofs.YtcpookgbneoilaaDoor
open Go.ChangeShapes Go.WideShapes Go.ChangeAt Go.RowKit

set_option maxHeartbeats 400000 in
theorem sameInts_yes (a : Option Addr) (n cap : Nat) (zs : List Int) (b : Option Addr) (cap2 : Nat) (w : World) (h : IntsAt w a n cap zs) (h2 : IntsAt w b n cap2 zs) :
    Calls Tryd.prog 12 #[.slice a n cap, .slice b n cap2] w fun e w' => e = .returned (.bool true) ∧ Lat w w' := by
  have hcap2 := h.row.cap
  have hle2 := h.row.le
  unfold maxLen at hcap2
  have H1 := Lib.hid h
  have H2 := Lib.hid h2
  have dn : ((n : Int) != (n : Int)) = false := by simp
  clear h h2
  go_enter Tryd.func12, Tryd.ntmps12
  go_wp2
  go_loopw [5] (fun i wr => ∃ k : Nat, k ≤ n ∧ i = .int .i64 k ∧ Hid (Lat w wr)) (fun i _ => n - (intOf i).toNat)
  case atStart => exact ⟨0, Nat.zero_le _, rfl, Lat.refl _⟩
  case round =>
    obtain ⟨k, hk, rfl, hrel⟩ := hrel
    by_cases hlt : k < n
    · obtain ⟨b1, o1, rfl, hc1⟩ := H1.out.row.at_ (by omega)
      obtain ⟨b2, o2, rfl, hc2⟩ := H2.out.row.at_ (by omega)
      have c1 := hrel.out.cell_at (hc1 k hlt)
      have c2 := hrel.out.cell_at (hc2 k hlt)
      obtain ⟨z, hz⟩ : ∃ z, z = zs.getD k 0 := ⟨_, rfl⟩
      rw [← hz] at c1 c2
      clear hc1 hc2 hz
      go_wp2
      go_quiet (fail)
      go_wp2
      go_roundw
      case rel => exact ⟨k + 1, by omega, by go_num, Lat.trans hrel.out (Lat.drewN _ _)⟩
      case measure => simp [intOf]; omega
    · go_wp2
      go_ret
      exact ⟨rfl, hrel.out⟩
end Go.Proofs.YtcpookgbneoilaaDoor

namespace Go.Proofs.YtcpookgbneoilaaDoor
open Go.ChangeShapes Go.WideShapes Go.ChangeAt Go.RowKit

set_option maxHeartbeats 2000000 in
set_option maxRecDepth 100000 in
theorem refSeeds (k : Int) (a : Option Addr) (n cap : Nat) (zs : List Int) (w : World) (h : IntsAt w a n cap zs) :
    Calls Tryd.prog 17 #[.int .i64 k, .slice a n cap] w fun e w' => e = .returned (.int .i64 (rdyE k zs : Nat)) ∧ w = w' := by
  have hlen := h.len
  have hcap := h.row.cap
  have hle := h.row.le
  unfold maxLen at hcap
  by_cases h60 : 60 < n
  · have e1 : rdyE k zs = 4 := by unfold rdyE; rw [if_pos (by omega)]
    have d1 : decide ((60 : Int) < (n : Int)) = true := decide_eq_true (by omega)
    rw [e1]
    clear h e1 h60 hlen
    go_enter Tryd.func17, Tryd.ntmps17
    go_wp2_with fail
    go_ret
    exact ⟨rfl, rfl⟩
  have d1 : decide ((60 : Int) < (n : Int)) = false := decide_eq_false (by omega)
  by_cases hk : k < 1 ∨ 16 < k
  · have e1 : rdyE k zs = 1 := by unfold rdyE; rw [if_neg (by omega), if_pos hk]
    have hq : decide (k < 1) = true ∨ (decide (k < 1) = false ∧ decide (16 < k) = true) := by simp only [decide_eq_true_eq, decide_eq_false_iff_not]; omega
    rw [e1]
    clear h e1 h60 hlen hk
    rcases hq with b1 | ⟨b1, b2⟩
    all_goals
      go_enter Tryd.func17, Tryd.ntmps17
      go_wp2_with fail
      go_ret
      exact ⟨rfl, rfl⟩
  have b1 : decide (k < 1) = false := decide_eq_false (by omega)
  have b2 : decide (16 < k) = false := decide_eq_false (by omega)
  have hE : rdyE k zs = if zs.any noSeed = true then 1 else 0 := by unfold rdyE; rw [if_neg (by omega), if_neg hk]
  have HH := Lib.hid h; have HE := Lib.hid hE; have HLEN := Lib.hid hlen
  clear h hE hlen hk h60
  go_enter Tryd.func17, Tryd.ntmps17
  go_wp2_with fail
  go_loopg [5] n (fun f iv wx => ∃ i : Nat, i + f = n ∧ iv = .int .i64 i ∧ w = wx ∧ Hid (∀ j, j < i → noSeed (zs.getD j 0) = false))
  case atStart => exact ⟨0, by omega, rfl, rfl, fun j hj => by omega⟩
  case round =>
    obtain ⟨i, hi, rfl, rfl, hrel⟩ := hrel
    by_cases hlt : i < n
    · obtain ⟨f, rfl⟩ : ∃ f, gk = f + 1 := ⟨gk - 1, by omega⟩
      have di : decide (i < n) = true := decide_eq_true hlt
      obtain ⟨b, o, rfl, hc⟩ := HH.out.row.at_ (by omega)
      have c0 := hc i hlt
      have hm := getD_mem zs i (by rw [HLEN.out]; exact hlt)
      obtain ⟨z, hz⟩ : ∃ z, z = zs.getD i 0 := ⟨_, rfl⟩
      rw [← hz] at c0 hm
      have i0 : (0 : Int) ≤ (i : Int) := by omega
      have i1 : (i : Int) < (n : Int) := by omega
      by_cases hbad : z < 1 ∨ 10000 < z
      · have hq : decide (z < 1) = true ∨ (decide (z < 1) = false ∧ decide (10000 < z) = true) := by simp only [decide_eq_true_eq, decide_eq_false_iff_not]; omega
        have e1 : rdyE k zs = 1 := by
          rw [HE.out, if_pos (List.any_eq_true.2 ⟨z, hm, by unfold noSeed; rw [decide_eq_false (by omega)]; rfl⟩)]
        have HE1 := Lib.hid e1
        clear hbad hm hz hc hrel e1
        rcases hq with z1 | ⟨z1, z2⟩
        all_goals
          go_wp2_with fail
          go_ret
          exact ⟨by rw [HE1.out]; rfl, rfl⟩
      · have z1 : decide (z < 1) = false := decide_eq_false (by omega)
        have z2 : decide (10000 < z) = false := decide_eq_false (by omega)
        have hnx : ∀ j, j < i + 1 → noSeed (zs.getD j 0) = false := fun j hj => by
          by_cases e : j = i
          · rw [e, ← hz]; unfold noSeed; rw [decide_eq_true (by omega)]; rfl
          · exact hrel.out j (by omega)
        have HNX := Lib.hid hnx
        clear hbad hm hz hc hrel hnx
        go_wp2_with fail
        go_roundg f
        case measure => omega
        case rel => exact ⟨i + 1, by omega, by go_num, rfl, HNX.out⟩
    · obtain rfl : i = n := by omega
      have di : decide (i < i) = false := decide_eq_false (by omega)
      have e1 : rdyE k zs = 0 := by
        rw [HE.out, if_neg]
        intro hh
        obtain ⟨z, hz, hb⟩ := List.any_eq_true.1 hh
        obtain ⟨j, hj, rfl⟩ := List.getElem_of_mem hz
        have := hrel.out j (by rw [← HLEN.out]; exact hj)
        rw [List.getD_eq_getElem?_getD, List.getElem?_eq_getElem hj] at this
        rw [show noSeed zs[j] = false from this] at hb
        cases hb
      have HE1 := Lib.hid e1
      clear hrel e1
      go_wp2_with fail
      go_ret
      exact ⟨by rw [HE1.out]; rfl, rfl⟩

def fT (k : Nat) (L : List Vec) : Nat → Int
  | 0 => -1
  | i + 1 => if rk k (L.take (i + 1)) = k ∧ fT k L i < 0 then ((i + 1 : Nat) : Int) else fT k L i
theorem fT_pos {k : Nat} {L : List Vec} {i : Nat} (h : 0 ≤ fT k L i) : ∀ d, fT k L (i + d) = fT k L i
  | 0 => rfl
  | d + 1 => by
    have ih := fT_pos h d
    show (if rk k (L.take (i + d + 1)) = k ∧ fT k L (i + d) < 0 then ((i + d + 1 : Nat) : Int) else fT k L (i + d)) = _
    rw [if_neg (fun e => by rw [ih] at e; omega)]; exact ih
theorem fT_fst {k : Nat} {L : List Vec} : ∀ f i, fT k L i = -1 → fT k L (i + f) = if fstA k L f i = 0 then -1 else (fstA k L f i : Int)
  | 0, i, h => by rw [show fstA k L 0 i = 0 from rfl, if_pos rfl]; exact h
  | f + 1, i, h => by
    have hs : fT k L (i + 1) = if rk k (L.take (i + 1)) = k ∧ fT k L i < 0 then ((i + 1 : Nat) : Int) else fT k L i := rfl
    have hf : fstA k L (f + 1) i = if rk k (L.take (i + 1)) = k then i + 1 else fstA k L f (i + 1) := rfl
    by_cases e : rk k (L.take (i + 1)) = k
    · rw [if_pos ⟨e, by omega⟩] at hs
      rw [hf, if_pos e, if_neg (by omega), show i + (f + 1) = (i + 1) + f by omega, fT_pos (by rw [hs]; omega), hs]
    · rw [if_neg (fun h => e h.1), h] at hs
      rw [hf, if_neg e, show i + (f + 1) = (i + 1) + f by omega]
      exact fT_fst f (i + 1) hs
theorem fT_end {k : Nat} {L : List Vec} : fT k L L.length = if fstN k L = 0 then -1 else (fstN k L : Int) := by
  have := fT_fst (k := k) (L := L) L.length 0 rfl
  rw [Nat.zero_add] at this; exact this
theorem newL_succ (k : Nat) (L : List Vec) (i : Nat) : newL k L (i + 1) = if raises k (L.take i) (L.getD i (0, [])) = true then newL k L i ++ [i] else newL k L i := rfl
theorem new_rank {k : Nat} (h64 : k ≤ 64) {L : List Vec} (h : Bare k L) {i : Nat} (hi : i < L.length) : (rk k (L.take i) < rk k (L.take (i + 1))) = (raises k (L.take i) (L.getD i (0, [])) = true) := by
  rw [take_snocV L i hi, rk_snoc h64 (h.take i) (getD_bits h i hi).2]
  cases raises k (L.take i) (L.getD i (0, [])) <;> simp
theorem rows_take (k : Nat) (zs : List Int) (i : Nat) : rowsOf k (zs.take i) = (rowsOf k zs).take i := by unfold rowsOf; rw [List.map_take]
theorem own_nats {w : World} {B : Nat} {v : Value} {l : List Nat} {n : Nat} (h : OwnInts w B v (ofNats l)) (hb : ∀ x ∈ l, x ≤ 1000000) (hn : l.length = n) : ∃ a c, v = .slice a n c ∧ IntsAt w a n c (ofNats l) := by
  refine OwnInts.sliceN h (fun z hz => ?_) (by unfold ofNats; rw [List.length_map]; exact hn)
  obtain ⟨x, hx, rfl⟩ := List.mem_map.1 hz
  have := hb x hx
  show -9223372036854775808 ≤ ((x : Nat) : Int) ∧ _
  constructor
  · omega
  · show ((x : Nat) : Int) ≤ _; omega

theorem own_lackN {w : World} {B : Nat} {v : Value} {q : Nat} {R : List Vec} {LR : List Int} (h : OwnInts w B v LR) (hl : LR = ofNats (lackL q R q)) (hq : q ≤ 16) : ∃ a c, v = .slice a LR.length c ∧ IntsAt w a LR.length c LR := by
  rw [hl] at h ⊢
  exact own_nats h (fun x hx => by have := lackL_lt q R q x hx; omega) (by unfold ofNats; rw [List.length_map])

set_option maxHeartbeats 16000000 in
set_option maxRecDepth 100000 in
theorem walk_needTells (k : Int) (a : Option Addr) (n cap : Nat) (zs : List Int) (w : World) (hg : Hnd w) (_ : (Lit.int .i64 k).wf = true) (h : IntsAt w a n cap zs) :
    Calls Tryd.prog 4 #[.int .i64 k, .slice a n cap] w fun e w' => e = .returned (.bool true) ∧ Lat w w' := by
  have hlen := h.len
  have hcap := h.row.cap
  have hle := h.row.le
  unfold maxLen at hcap
  have hse := refSeeds k a n cap zs w h
  have hfi := fun W (hW : Lat w W) => first_any k a n cap zs W (h.keep hW)
  have hne := fun W (hW : Lat w W) => new_any k a n cap zs W (h.keep hW)
  have hla := fun W (hW : Lat w W) => lacks_any k a n cap zs W (h.keep hW)
  obtain ⟨E, hE⟩ : ∃ E, E = rdyE k zs := ⟨_, rfl⟩
  rw [← hE] at hse hne hla
  obtain ⟨FE, hFE⟩ : ∃ E, E = firstE k zs := ⟨_, rfl⟩
  obtain ⟨FR, hFR⟩ : ∃ E, E = firstR k zs := ⟨_, rfl⟩
  obtain ⟨NR, hNR⟩ : ∃ E, E = newR k zs := ⟨_, rfl⟩
  obtain ⟨LR, hLR⟩ : ∃ E, E = lackR k zs := ⟨_, rfl⟩
  rw [← hFE, ← hFR] at hfi
  rw [← hNR] at hne
  rw [← hLR] at hla
  obtain ⟨F0, hF0⟩ : ∃ z : Int, z = if E = 0 then fT k.toNat (rowsOf k.toNat zs) n else -1 := ⟨_, rfl⟩
  have h3 : (E ≠ 0 ∧ FE = E ∧ FR = 0 ∧ F0 = -1) ∨ (E = 0 ∧ F0 = -1 ∧ FE = 8 ∧ FR = 0) ∨ (E = 0 ∧ 0 ≤ F0 ∧ FE = 0 ∧ F0 = (FR : Int)) := by
    rw [hFE, hFR, hF0]
    unfold firstE firstR
    rw [← hE]
    by_cases e : E = 0
    · have hend := fT_end (k := k.toNat) (L := rowsOf k.toNat zs)
      rw [rowsOf_len, hlen] at hend
      right
      have ne : ¬ (E ≠ 0) := fun h => h e
      rw [if_pos e, if_pos e, hend, if_neg ne]
      by_cases e2 : fstN k.toNat (rowsOf k.toNat zs) = 0
      · rw [if_pos e2, if_pos e2, e2]; exact .inl ⟨e, rfl, rfl, rfl⟩
      · rw [if_neg e2, if_neg e2]; exact .inr ⟨e, by omega, rfl, rfl⟩
    · left
      rw [if_neg e, if_neg e, if_pos e]; exact ⟨e, rfl, rfl, rfl⟩
  have HH := Lib.hid h; have HG := Lib.hid hg; have HSE := Lib.hid hse; have HFI := Lib.hid hfi; have HNE := Lib.hid hne; have HLA := Lib.hid hla; have HE := Lib.hid hE; have HNR := Lib.hid hNR; have HLR := Lib.hid hLR; have HF0 := Lib.hid hF0; have H3 := Lib.hid h3; have HLEN := Lib.hid hlen
  clear h hg hse hfi hne hla hE hFE hFR hNR hLR hF0 h3 hlen
  go_enter Tryd.func4, Tryd.ntmps4
  go_wp2_with fail
  refine HSE.out.mono ?_
  rintro e w1 ⟨rfl, rfl⟩
  go_upto_block 0 with fail
  go_cut [6, 7, 9, 10] from 22 to 54 (fun fi nv _ _ wx => fi = .int .i64 F0 ∧ ∃ b m c, nv = .slice b m c ∧ Hid (IntsAt wx b m c NR ∧ Lat w wx))
  case first =>
    by_cases hE : E = 0
    case neg =>
      have dE : ((E : Int) == 0) = false := by rw [beq_eq_false_iff_ne]; omega
      have e1 : F0 = -1 := by rw [HF0.out, if_neg hE]
      have e2 : NR = [] := by rw [HNR.out]; unfold newR; rw [← HE.out, if_neg hE]
      have HE1 := Lib.hid e1; have HE2 := Lib.hid e2
      clear hE e1 e2
      by_cases hn0 : 0 < n
      · have dn : decide (0 < n) = true := decide_eq_true hn0
        go_wp2_with fail
        refine wp_loop_rounds 1 ?_
        rw [rounds_succ]
        go_wp2_with fail
        go_meet
        exact ⟨by rw [HE1.out], none, 0, 0, rfl, by rw [HE2.out]; exact IntsAt.nil _, Lat.refl w⟩
      · have dn : decide (0 < n) = false := decide_eq_false hn0
        go_wp2_with fail
        refine wp_loop_rounds 1 ?_
        rw [rounds_succ]
        go_wp2_with fail
        go_meet
        exact ⟨by rw [HE1.out], none, 0, 0, rfl, by rw [HE2.out]; exact IntsAt.nil _, Lat.refl w⟩
    obtain ⟨h60, h1, h2, hz⟩ := rdyE_zero (HE.out.symm.trans hE)
    obtain ⟨q, rfl⟩ : ∃ q : Nat, k = q := ⟨k.toNat, by omega⟩
    rw [HLEN.out] at h60
    have hq1 : 1 ≤ q := by omega
    have hq2 : q ≤ 16 := by omega
    have hbare := rowsOf_bare (k := q) hq1 hz
    have hrl := rowsOf_len q zs
    rw [HLEN.out] at hrl
    have hF := HF0.out
    have hN := HNR.out
    unfold newR at hN
    rw [if_pos hE, Int.toNat_natCast] at hF
    rw [← HE.out, if_pos hE, Int.toNat_natCast, HLEN.out] at hN
    have hrk := fun i (hi : i ≤ n) W (hW : Lat w W) => refRank q a i cap (zs.take i) W ((HH.out.keep hW).take i hi) hq1 hq2 (fun z hm => hz z (List.mem_of_mem_take hm)) (by omega)
    have hnr := fun i (hi : i < n) => new_rank (k := q) (by omega) hbare (i := i) (by rw [hrl]; exact hi)
    have hnl := newL_succ q (rowsOf q zs)
    have hnle := newL_le q (rowsOf q zs)
    have hnlt := newL_lt q (rowsOf q zs)
    have hft : ∀ i, fT q (rowsOf q zs) (i + 1) = if rk q ((rowsOf q zs).take (i + 1)) = q ∧ fT q (rowsOf q zs) i < 0 then ((i + 1 : Nat) : Int) else fT q (rowsOf q zs) i := fun i => rfl
    have hft0 : fT q (rowsOf q zs) 0 = -1 := rfl
    have hn0 : newL q (rowsOf q zs) 0 = [] := rfl
    have hr0 : rk q ((rowsOf q zs).take 0) = 0 := by rw [List.take_zero]; exact rk_nil q
    have hkle := fun i => rk_le q ((rowsOf q zs).take i)
    have hrk2 := fun i (hi : i ≤ n) W (hW : Lat w W) => (rows_take q zs i) ▸ hrk i hi W hW
    obtain ⟨R, hR⟩ : ∃ R, R = rowsOf q zs := ⟨_, rfl⟩
    rw [← hR] at hF hN hnr hnl hnle hnlt hft hft0 hn0 hr0 hkle hrk2
    have dE : ((E : Int) == 0) = true := by rw [beq_iff_eq]; omega
    have HRK := Lib.hid hrk2; have HNRK := Lib.hid hnr; have HNL := Lib.hid hnl; have HNLE := Lib.hid hnle; have HNLT := Lib.hid hnlt; have HFT := Lib.hid hft; have HFT0 := Lib.hid hft0; have HN0 := Lib.hid hn0; have HR0 := Lib.hid hr0; have HKLE := Lib.hid hkle; have HFF := Lib.hid hF; have HNN := Lib.hid hN
    clear hE h1 h2 hz hbare hrl hF hN hrk hrk2 hnr hnl hnle hnlt hft hft0 hn0 hr0 hkle hR HSE HFI HNE HLA
    go_wp2_with fail
    go_loopg [6, 7, 9, 10] n (fun f fi nv wv iv wx => ∃ i : Nat, i + f = n ∧ iv = .int .i64 i ∧ fi = .int .i64 (fT q R i) ∧ wv = .int .i64 (rk q (R.take i) : Nat) ∧ Hid (OwnInts wx w.heap.size nv (ofNats (newL q R i)) ∧ Lat w wx))
    case atStart => exact ⟨0, by omega, rfl, by rw [HFT0.out], by rw [HR0.out]; rfl, by rw [HN0.out]; exact Own.nil _ _ _, Lat.refl w⟩
    case round =>
      obtain ⟨i, hi, rfl, rfl, rfl, hrel⟩ := hrel
      by_cases hlt : i < n
      · obtain ⟨f, rfl⟩ : ∃ f, gk = f + 1 := ⟨gk - 1, by omega⟩
        have di : decide (i < n) = true := decide_eq_true hlt
        obtain ⟨j, hj⟩ : ∃ j, j = i + 1 := ⟨_, rfl⟩
        have hjI : (i : Int) + 1 = (j : Int) := by omega
        have hrk := HRK.out j (by omega) wr hrel.out.2
        have hnrk := HNRK.out i hlt
        have hnl := HNL.out i
        have hft := HFT.out i
        have hnle := HNLE.out i
        have hkl := HKLE.out j
        rw [← hj] at hnrk hnl hft
        obtain ⟨r1, hr1⟩ : ∃ r, r = rk q (R.take i) := ⟨_, rfl⟩
        obtain ⟨r2, hr2⟩ : ∃ r, r = rk q (R.take j) := ⟨_, rfl⟩
        obtain ⟨f1, hf1⟩ : ∃ r, r = fT q R i := ⟨_, rfl⟩
        rw [← hr1, ← hr2] at hnrk
        rw [← hr2] at hrk hft hkl
        rw [← hf1] at hft ⊢
        rw [← hr1]
        obtain ⟨f2, hf2⟩ : ∃ z, z = fT q R j := ⟨_, rfl⟩
        rw [← hf2] at hft
        have hjn : (j : Int) ≤ (n : Int) := by omega
        have hj0 : (0 : Int) ≤ (j : Int) := by omega
        have hjc : (j : Int) ≤ (cap : Int) := by omega
        have HRKJ := Lib.hid hrk; have HFT2 := Lib.hid hft; have HREL := Lib.hid hrel.out; have HNL2 := Lib.hid hnl; have HNLE2 := Lib.hid hnle; have HJ := Lib.hid hj; have HR2 := Lib.hid hr2; have HF2 := Lib.hid hf2; have HNK := Lib.hid hnrk
        clear hrk hft hrel hnl hnle hj hr1 hr2 hf1 hf2 hnrk
        go_wp2_with fail
        refine HRKJ.out.mono ?_
        rintro e w2 ⟨rfl, hb2⟩
        have HREL2 := Lib.hid (And.intro (Own.keep HREL.out.1 hb2) (HREL.out.2.trans hb2))
        clear hb2 HREL HRKJ
        by_cases hgt : r1 < r2
        · have dg : decide (r1 < r2) = true := decide_eq_true hgt
          have hnv := HNL2.out
          rw [if_pos (HNK.out ▸ hgt)] at hnv
          have HNV := Lib.hid hnv
          clear hnv hgt HNL2 HNK
          go_upto_region 12 with (at_builtin; refine app_intF w2 w.heap.size rfl (.tmp 41) (.tmp 43) rfl u7 (ofNats (newL q R i)) (i : Int) rfl HREL2.out.1 rfl (by unfold ofNats; rw [List.length_map]; have := HNLE2.out; omega) HREL2.out.2.size ?_; intro v3 w3 hown3 hfr3)
          have hlat3 := hfr3.lat_of HREL2.out.2 (fun k hk => (Own.lt HREL2.out.1 k hk).1)
          have ho3 : OwnInts w3 w.heap.size v3 (ofNats (newL q R j)) := by
            rw [HNV.out]; unfold ofNats at hown3 ⊢; rw [List.map_append]; exact hown3
          have HREL3 := Lib.hid (And.intro ho3 hlat3)
          clear hown3 hfr3 hlat3 ho3 HREL2
          by_cases hrq : r2 = q
          · have dq : ((r2 : Int) == (q : Int)) = true := by rw [beq_iff_eq]; omega
            by_cases hf : f1 < 0
            · have df : decide (f1 < 0) = true := decide_eq_true hf
              have hfv : f2 = (j : Int) := by rw [HFT2.out, if_pos ⟨hrq, hf⟩, HJ.out]
              have HFV := Lib.hid hfv
              clear hfv hrq hf
              go_wp2_with fail
              go_roundg f
              case measure => omega
              case rel => exact ⟨i + 1, by omega, by go_num, by rw [← HJ.out, ← HF2.out, HFV.out], by rw [← HJ.out, ← HR2.out], by rw [← HJ.out]; exact HREL3.out⟩
            · have df : decide (f1 < 0) = false := decide_eq_false hf
              have hfv : f2 = f1 := by rw [HFT2.out, if_neg (fun h => hf h.2)]
              have HFV := Lib.hid hfv
              clear hfv hrq hf
              go_wp2_with fail
              go_roundg f
              case measure => omega
              case rel => exact ⟨i + 1, by omega, by go_num, by rw [← HJ.out, ← HF2.out, HFV.out], by rw [← HJ.out, ← HR2.out], by rw [← HJ.out]; exact HREL3.out⟩
          · have dq : ((r2 : Int) == (q : Int)) = false := by rw [beq_eq_false_iff_ne]; omega
            have hfv : f2 = f1 := by rw [HFT2.out, if_neg (fun h => hrq h.1)]
            have HFV := Lib.hid hfv
            clear hfv hrq
            go_wp2_with fail
            go_roundg f
            case measure => omega
            case rel => exact ⟨i + 1, by omega, by go_num, by rw [← HJ.out, ← HF2.out, HFV.out], by rw [← HJ.out, ← HR2.out], by rw [← HJ.out]; exact HREL3.out⟩
        · have dg : decide (r1 < r2) = false := decide_eq_false hgt
          have hnv := HNL2.out
          rw [if_neg (fun e => hgt (HNK.out ▸ e))] at hnv
          have hr3 : OwnInts w2 w.heap.size u7 (ofNats (newL q R j)) ∧ Lat w w2 := by rw [hnv]; exact HREL2.out
          have HREL3 := Lib.hid hr3
          clear hnv hgt HNL2 HNK HREL2 hr3
          by_cases hrq : r2 = q
          · have dq : ((r2 : Int) == (q : Int)) = true := by rw [beq_iff_eq]; omega
            by_cases hf : f1 < 0
            · have df : decide (f1 < 0) = true := decide_eq_true hf
              have hfv : f2 = (j : Int) := by rw [HFT2.out, if_pos ⟨hrq, hf⟩, HJ.out]
              have HFV := Lib.hid hfv
              clear hfv hrq hf
              go_wp2_with fail
              go_roundg f
              case measure => omega
              case rel => exact ⟨i + 1, by omega, by go_num, by rw [← HJ.out, ← HF2.out, HFV.out], by rw [← HJ.out, ← HR2.out], by rw [← HJ.out]; exact HREL3.out⟩
            · have df : decide (f1 < 0) = false := decide_eq_false hf
              have hfv : f2 = f1 := by rw [HFT2.out, if_neg (fun h => hf h.2)]
              have HFV := Lib.hid hfv
              clear hfv hrq hf
              go_wp2_with fail
              go_roundg f
              case measure => omega
              case rel => exact ⟨i + 1, by omega, by go_num, by rw [← HJ.out, ← HF2.out, HFV.out], by rw [← HJ.out, ← HR2.out], by rw [← HJ.out]; exact HREL3.out⟩
          · have dq : ((r2 : Int) == (q : Int)) = false := by rw [beq_eq_false_iff_ne]; omega
            have hfv : f2 = f1 := by rw [HFT2.out, if_neg (fun h => hrq h.1)]
            have HFV := Lib.hid hfv
            clear hfv hrq
            go_wp2_with fail
            go_roundg f
            case measure => omega
            case rel => exact ⟨i + 1, by omega, by go_num, by rw [← HJ.out, ← HF2.out, HFV.out], by rw [← HJ.out, ← HR2.out], by rw [← HJ.out]; exact HREL3.out⟩
      · obtain rfl : i = n := by omega
        have di : decide (i < i) = false := decide_eq_false (by omega)
        obtain ⟨a7, c7, rfl, hi7⟩ := own_nats hrel.out.1 (fun x hx => by have := HNLT.out i x hx; omega) rfl
        rw [← HNN.out] at hi7
        have HI7 := Lib.hid hi7; have HL7 := Lib.hid hrel.out.2
        clear hrel hi7
        go_wp2_with fail
        go_meet
        exact ⟨by rw [HFF.out], _, _, _, rfl, HI7.out, HL7.out⟩
  case rest =>
    obtain ⟨rfl, b7, m7, c7, rfl, hr7⟩ := hcut
    have HR7 := Lib.hid hr7.out
    clear hr7
    rcases H3.out with ⟨hE, rfl, rfl, rfl⟩ | ⟨hE, rfl, rfl, rfl⟩ | ⟨hE, hF, hFE, rfl⟩
    · have dE : ((FE : Int) == 0) = false := by rw [beq_eq_false_iff_ne]; omega
      have dEn : ((FE : Int) != 0) = true := by rw [bne_iff_ne]; omega
      have hlr : LR = [] := by rw [HLR.out]; unfold lackR; rw [← HE.out, if_neg hE]
      have HLR2 := Lib.hid hlr
      clear hE hlr H3 HF0 HSE
      go_wp2_with fail
      refine (HFI.out _ HR7.out.2).mono ?_
      rintro e w3 ⟨rfl, hb3⟩
      have HL3 := Lib.hid (HR7.out.2.trans hb3); have HI3 := Lib.hid (HR7.out.1.keep hb3)
      clear hb3 HR7
      go_wp2_with fail
      refine (sameErr_any FE w3 (HG.out.keep HL3.out)).mono ?_
      rintro e w4 ⟨rfl, hb4⟩
      have HL4 := Lib.hid (HL3.out.trans hb4); have HI4 := Lib.hid (HI3.out.keep hb4)
      clear hb4 HL3 HI3
      go_wp2_with fail
      refine (HNE.out _ HL4.out).mono ?_
      rintro e w5 ⟨⟨b5, m5, c5, rfl, hi5⟩, hb5⟩
      obtain rfl : m7 = m5 := by rw [← hi5.len, ← HI4.out.len]
      have HL5 := Lib.hid (HL4.out.trans hb5); have HI5 := Lib.hid (HI4.out.keep hb5); have HJ5 := Lib.hid hi5
      clear hb5 HL4 HI4 hi5
      go_wp2_with fail
      refine (sameErr_any FE w5 (HG.out.keep HL5.out)).mono ?_
      rintro e w6 ⟨rfl, hb6⟩
      have HL6 := Lib.hid (HL5.out.trans hb6); have HI6 := Lib.hid (HI5.out.keep hb6); have HJ6 := Lib.hid (HJ5.out.keep hb6)
      clear hb6 HL5 HI5 HJ5
      go_wp2_with fail
      refine (sameInts_yes b5 m7 c5 NR b7 c7 w6 HJ6.out HI6.out).mono ?_
      rintro e w7 ⟨rfl, hb7⟩
      have HL7 := Lib.hid (HL6.out.trans hb7)
      clear hb7 HL6 HI6 HJ6
      have HL8 := Lib.hid HL7.out
      have HI8 : Hid (IntsAt w7 none 0 0 LR) := by rw [HLR2.out]; exact IntsAt.nil _
      clear HL7
      go_wp2_with fail
      refine (HLA.out _ HL8.out).mono ?_
      rintro e w9 ⟨⟨b9, m9, c9, rfl, hi9⟩, hb9⟩
      obtain rfl : 0 = m9 := by rw [← hi9.len, ← HI8.out.len]
      have HL9 := Lib.hid (HL8.out.trans hb9); have HI9 := Lib.hid (HI8.out.keep hb9); have HJ9 := Lib.hid hi9
      clear hb9 HL8 HI8 hi9
      go_wp2_with fail
      refine (sameErr_any FE w9 (HG.out.keep HL9.out)).mono ?_
      rintro e w10 ⟨rfl, hb10⟩
      have HL10 := Lib.hid (HL9.out.trans hb10); have HI10 := Lib.hid (HI9.out.keep hb10); have HJ10 := Lib.hid (HJ9.out.keep hb10)
      clear hb10 HL9 HI9 HJ9
      go_wp2_with fail
      refine (sameInts_yes b9 _ c9 LR _ _ w10 HJ10.out HI10.out).mono ?_
      rintro e w11 ⟨rfl, hb11⟩
      have HL11 := Lib.hid (HL10.out.trans hb11)
      clear hb11 HL10 HI10 HJ10
      go_wp2_with fail
      go_ret
      exact ⟨rfl, HL11.out⟩
    · obtain ⟨h60, h1, h2, hz⟩ := rdyE_zero (HE.out.symm.trans hE)
      obtain ⟨q, rfl⟩ : ∃ q : Nat, k = q := ⟨k.toNat, by omega⟩
      rw [HLEN.out] at h60
      have hrl := fun W (hW : Lat w W) => refLacks q a n cap zs W (HH.out.keep hW) (by omega) (by omega) hz h60
      have hlr := HLR.out
      unfold lackR at hlr
      rw [← HE.out, if_pos hE, Int.toNat_natCast] at hlr
      have HRL := Lib.hid hrl; have HLR2 := Lib.hid hlr; have HQ := Lib.hid (show q ≤ 16 by omega)
      have dE : ((E : Int) == 0) = true := by rw [beq_iff_eq]; omega
      have dEn : ((E : Int) != 0) = false := by rw [bne_eq_false_iff_eq]; omega
      clear hE h60 h1 h2 hz hrl hlr H3 HF0 HSE
      go_wp2_with fail
      refine (HFI.out _ HR7.out.2).mono ?_
      rintro e w3 ⟨rfl, hb3⟩
      have HL3 := Lib.hid (HR7.out.2.trans hb3); have HI3 := Lib.hid (HR7.out.1.keep hb3)
      clear hb3 HR7
      go_wp2_with fail
      refine (sameErr_any 8 w3 (HG.out.keep HL3.out)).mono ?_
      rintro e w4 ⟨rfl, hb4⟩
      have HL4 := Lib.hid (HL3.out.trans hb4); have HI4 := Lib.hid (HI3.out.keep hb4)
      clear hb4 HL3 HI3
      go_wp2_with fail
      refine (HNE.out _ HL4.out).mono ?_
      rintro e w5 ⟨⟨b5, m5, c5, rfl, hi5⟩, hb5⟩
      obtain rfl : m7 = m5 := by rw [← hi5.len, ← HI4.out.len]
      have HL5 := Lib.hid (HL4.out.trans hb5); have HI5 := Lib.hid (HI4.out.keep hb5); have HJ5 := Lib.hid hi5
      clear hb5 HL4 HI4 hi5
      go_wp2_with fail
      refine (sameErr_any E w5 (HG.out.keep HL5.out)).mono ?_
      rintro e w6 ⟨rfl, hb6⟩
      have HL6 := Lib.hid (HL5.out.trans hb6); have HI6 := Lib.hid (HI5.out.keep hb6); have HJ6 := Lib.hid (HJ5.out.keep hb6)
      clear hb6 HL5 HI5 HJ5
      go_wp2_with fail
      refine (sameInts_yes b5 m7 c5 NR b7 c7 w6 HJ6.out HI6.out).mono ?_
      rintro e w7 ⟨rfl, hb7⟩
      have HL7 := Lib.hid (HL6.out.trans hb7)
      clear hb7 HL6 HI6 HJ6
      go_wp2_with fail
      refine (HRL.out w7 HL7.out).mono ?_
      rintro e w8 ⟨v8, rfl, ho8, hb8⟩
      rw [← HLR2.out] at ho8
      obtain ⟨lb, lc, rfl, hi8⟩ := own_lackN ho8 HLR2.out HQ.out
      have HL8 := Lib.hid (HL7.out.trans hb8); have HI8 := Lib.hid hi8
      clear hb8 ho8 hi8 HL7
      go_wp2_with fail
      refine (HLA.out _ HL8.out).mono ?_
      rintro e w9 ⟨⟨b9, m9, c9, rfl, hi9⟩, hb9⟩
      obtain rfl : LR.length = m9 := by rw [← hi9.len, ← HI8.out.len]
      have HL9 := Lib.hid (HL8.out.trans hb9); have HI9 := Lib.hid (HI8.out.keep hb9); have HJ9 := Lib.hid hi9
      clear hb9 HL8 HI8 hi9
      go_wp2_with fail
      refine (sameErr_any E w9 (HG.out.keep HL9.out)).mono ?_
      rintro e w10 ⟨rfl, hb10⟩
      have HL10 := Lib.hid (HL9.out.trans hb10); have HI10 := Lib.hid (HI9.out.keep hb10); have HJ10 := Lib.hid (HJ9.out.keep hb10)
      clear hb10 HL9 HI9 HJ9
      go_wp2_with fail
      refine (sameInts_yes b9 _ c9 LR _ _ w10 HJ10.out HI10.out).mono ?_
      rintro e w11 ⟨rfl, hb11⟩
      have HL11 := Lib.hid (HL10.out.trans hb11)
      clear hb11 HL10 HI10 HJ10
      go_wp2_with fail
      go_ret
      exact ⟨rfl, HL11.out⟩
    · obtain ⟨h60, h1, h2, hz⟩ := rdyE_zero (HE.out.symm.trans hE)
      obtain ⟨q, rfl⟩ : ∃ q : Nat, k = q := ⟨k.toNat, by omega⟩
      rw [HLEN.out] at h60
      have hrl := fun W (hW : Lat w W) => refLacks q a n cap zs W (HH.out.keep hW) (by omega) (by omega) hz h60
      have hlr := HLR.out
      unfold lackR at hlr
      rw [← HE.out, if_pos hE, Int.toNat_natCast] at hlr
      have HRL := Lib.hid hrl; have HLR2 := Lib.hid hlr; have HQ := Lib.hid (show q ≤ 16 by omega)
      have dE : ((E : Int) == 0) = true := by rw [beq_iff_eq]; omega
      have dEn : ((E : Int) != 0) = false := by rw [bne_eq_false_iff_eq]; omega
      obtain rfl : FE = E := by omega
      have dF : decide ((FR : Int) < 0) = false := decide_eq_false (by omega)
      clear hE h60 h1 h2 hz hrl hlr H3 HF0 HSE hF hFE
      go_wp2_with fail
      refine (HFI.out _ HR7.out.2).mono ?_
      rintro e w3 ⟨rfl, hb3⟩
      have HL3 := Lib.hid (HR7.out.2.trans hb3); have HI3 := Lib.hid (HR7.out.1.keep hb3)
      clear hb3 HR7
      go_wp2_with fail
      refine (sameErr_any FE w3 (HG.out.keep HL3.out)).mono ?_
      rintro e w4 ⟨rfl, hb4⟩
      have HL4 := Lib.hid (HL3.out.trans hb4); have HI4 := Lib.hid (HI3.out.keep hb4)
      clear hb4 HL3 HI3
      go_wp2_with fail
      refine (HNE.out _ HL4.out).mono ?_
      rintro e w5 ⟨⟨b5, m5, c5, rfl, hi5⟩, hb5⟩
      obtain rfl : m7 = m5 := by rw [← hi5.len, ← HI4.out.len]
      have HL5 := Lib.hid (HL4.out.trans hb5); have HI5 := Lib.hid (HI4.out.keep hb5); have HJ5 := Lib.hid hi5
      clear hb5 HL4 HI4 hi5
      go_wp2_with fail
      refine (sameErr_any FE w5 (HG.out.keep HL5.out)).mono ?_
      rintro e w6 ⟨rfl, hb6⟩
      have HL6 := Lib.hid (HL5.out.trans hb6); have HI6 := Lib.hid (HI5.out.keep hb6); have HJ6 := Lib.hid (HJ5.out.keep hb6)
      clear hb6 HL5 HI5 HJ5
      go_wp2_with fail
      refine (sameInts_yes b5 m7 c5 NR b7 c7 w6 HJ6.out HI6.out).mono ?_
      rintro e w7 ⟨rfl, hb7⟩
      have HL7 := Lib.hid (HL6.out.trans hb7)
      clear hb7 HL6 HI6 HJ6
      go_wp2_with fail
      refine (HRL.out w7 HL7.out).mono ?_
      rintro e w8 ⟨v8, rfl, ho8, hb8⟩
      rw [← HLR2.out] at ho8
      obtain ⟨lb, lc, rfl, hi8⟩ := own_lackN ho8 HLR2.out HQ.out
      have HL8 := Lib.hid (HL7.out.trans hb8); have HI8 := Lib.hid hi8
      clear hb8 ho8 hi8 HL7
      go_wp2_with fail
      refine (HLA.out _ HL8.out).mono ?_
      rintro e w9 ⟨⟨b9, m9, c9, rfl, hi9⟩, hb9⟩
      obtain rfl : LR.length = m9 := by rw [← hi9.len, ← HI8.out.len]
      have HL9 := Lib.hid (HL8.out.trans hb9); have HI9 := Lib.hid (HI8.out.keep hb9); have HJ9 := Lib.hid hi9
      clear hb9 HL8 HI8 hi9
      go_wp2_with fail
      refine (sameErr_any FE w9 (HG.out.keep HL9.out)).mono ?_
      rintro e w10 ⟨rfl, hb10⟩
      have HL10 := Lib.hid (HL9.out.trans hb10); have HI10 := Lib.hid (HI9.out.keep hb10); have HJ10 := Lib.hid (HJ9.out.keep hb10)
      clear hb10 HL9 HI9 HJ9
      go_wp2_with fail
      refine (sameInts_yes b9 _ c9 LR _ _ w10 HJ10.out HI10.out).mono ?_
      rintro e w11 ⟨rfl, hb11⟩
      have HL11 := Lib.hid (HL10.out.trans hb11)
      clear hb11 HL10 HI10 HJ10
      go_wp2_with fail
      go_ret
      exact ⟨rfl, HL11.out⟩
end Go.Proofs.YtcpookgbneoilaaDoor

namespace Go.Proofs.YtcpookgbneoilaaDoor

theorem Ln.lt {m k : Nat} {L : List Vec} (h : Ln m k L) : ∀ u ∈ L, u.1 < 2 ^ k := fun u hu => (h u hu).2
theorem clash_eq {m k : Nat} (h64 : k ≤ 64) {L : List Vec} (h : Ln m k L) : clashB m (clrF L k).1 = slvC k L L.length 0 := by
  have hc := clrF_cl h k
  cases e : clashB m (clrF L k).1 with
  | false => exact (slv_none0 h64 h.wf h.lt (hc.st h.wf e).noClash).symm
  | true =>
    cases e2 : slvC k L L.length 0 with
    | true => rfl
    | false => exact absurd (st_slv0 h64 h.wf h.lt e2).noClash (hc.clash e)
theorem st_same {m k : Nat} {T T' : Nat → Option Vec} {L : List Vec} (h : St m k T L) (h' : St m k T' L) (b : Nat) : (T b).isSome = (T' b).isSome := by
  have h1 := h.lead b
  have h2 := h'.lead b
  cases e1 : T b <;> cases e2 : T' b <;> simp_all
theorem cnt_eq {m k : Nat} (h64 : k ≤ 64) {L : List Vec} (h : Ln m k L) (hc : slvC k L L.length 0 = false) : cntA (clrF L k).2 k = rnkT (tabT k L) k := by
  have hcl := clrF_cl h k
  rw [← clash_eq h64 h] at hc
  rw [cntA_rnk (clrF L k).1]
  rw [clash_eq h64 h] at hc
  exact rnkT_congr fun b _ => st_same (hcl.st h.wf (by rw [clash_eq h64 h]; exact hc)) (st_slv0 h64 h.wf h.lt hc) b
theorem cntA_full {at_ : Nat → Option Nat} : ∀ {k : Nat}, cntA at_ k = k → ∀ b, b < k → ∃ i, at_ b = some i := fun {k} h b hb => by
  rw [cntA_rnk []] at h
  have := rnkT_full h b hb
  unfold clT at this
  rw [Option.isSome_map] at this
  exact Option.isSome_iff_exists.1 this
theorem one_bit {n b : Nat} {k : Nat} (hk : n < 2 ^ k) (hb : n.testBit b = true) (ho : ∀ j, j < k → j ≠ b → n.testBit j = false) : n = 2 ^ b := by
  apply Nat.eq_of_testBit_eq
  intro i
  rw [Nat.testBit_two_pow]
  by_cases e : b = i
  · rw [decide_eq_true e, ← e]; exact hb
  · rw [decide_eq_false e]
    by_cases hi : i < k
    · exact ho i hi (fun h => e h.symm)
    · exact Nat.testBit_lt_two_pow (Nat.lt_of_lt_of_le hk (Nat.pow_le_pow_right (by omega) (by omega)))
theorem out_eq {m k : Nat} (h64 : k ≤ 64) {L : List Vec} (h : Ln m k L) (hc : slvC k L L.length 0 = false) (hf : cntA (clrF L k).2 k = k) :
    ∀ j i, j < k → (clrF L k).2 j = some i → outF (tabT k L) k k j = (rowG (clrF L k).1 i).2 := fun j i hj hi => by
  have hcl := clrF_cl h k
  have hst := st_slv0 h64 h.wf h.lt hc
  have hs2 := hcl.st h.wf (by rw [clash_eq h64 h]; exact hc)
  have hfull : ∀ b, b < k → tabT k L b ≠ none := fun b hb => by
    obtain ⟨i, hi⟩ := cntA_full hf b hb
    have : (clT (clrF L k).1 (clrF L k).2 b).isSome = true := by unfold clT; rw [hi]; rfl
    rw [st_same hs2 hst b] at this
    intro e; rw [e] at this; cases this
  obtain ⟨B, hB⟩ : ∃ B : Nat → List UInt8, B = fun j => ((clT (clrF L k).1 (clrF L k).2 j).getD (0, [])).2 := ⟨_, rfl⟩
  have hBat : ∀ b i, (clrF L k).2 b = some i → B b = (rowG (clrF L k).1 i).2 := fun b i e => by rw [hB]; unfold clT; simp only [e]; rfl
  have hBl : ∀ j, j < k → (B j).length = m := fun j hj => by
    obtain ⟨i, hi⟩ := cntA_full hf j hj
    rw [hBat j i hi]
    exact (hcl.ln.row (hcl.lt j i hi).2).1
  have hR2 : ∀ u ∈ rowsT (clT (clrF L k).1 (clrF L k).2) k, Right m k B u := fun u hu => by
    obtain ⟨b, hb, e⟩ := mem_rowsT.1 hu
    obtain ⟨i, hi⟩ := cntA_full hf b hb
    have eu : u = rowG (clrF L k).1 i := by
      unfold clT at e
      rw [hi] at e
      exact (Option.some.inj e).symm
    have hrow := hcl.ln.row (hcl.lt b i hi).2
    have h1 : u.1 = 2 ^ b := by
      rw [eu]
      refine one_bit hrow.2 (hcl.low b i hi).1 fun j hj hne => ?_
      obtain ⟨i', hi'⟩ := cntA_full hf j hj
      refine hcl.one j i' i hi' (hcl.lt b i hi).2 fun e => ?_
      rw [← e] at hi'
      exact hne (hcl.inj j b i hi' hi)
    have h2 : u = (2 ^ b, B b) := Prod.ext h1 (by rw [hBat b i hi, eu])
    rw [h2]
    exact unit_right hBl hb
  rw [← hBat j i hi]
  refine outF_right hBl hst.ti hfull (fun b x hx => ?_) k (Nat.le_refl k) j (by omega) hj
  have h3 := (hst.sp x).1 (Sp.mem hst.ti.wf (mem_rowsT.2 ⟨b, hst.ti.lt b x hx, hx⟩))
  exact sp_right hBl hR2 ((hs2.sp x).2 h3)
end Go.Proofs.YtcpookgbneoilaaDoor

namespace Go.Proofs.YtcpookgbneoilaaDoor
open Go.ChangeShapes Go.WideShapes Go.ChangeAt Go.RowKit

theorem app_strM (wr : World) (B : Nat) {ops : Array Oper} {rest : List Oper} {o : Oper} {a : Act} {Q : Exit → Act → World → Prop}
    (hg : o.guard = none) (s x : Operand) (ho : o.op = .call { callee := .builtin .append, args := #[s, x], argTypes := #[54, 54] })
    (v : Value) (zs : List ByteArray) (z : ByteArray) (hs : a.eval s = v) (hown : OwnStrs wr B v zs) (hx : a.eval x = .slice (some ⟨wr.heap.size, 0, none⟩) 1 1)
    (hn : zs.length < 1000000) (hB : B ≤ wr.heap.size)
    (K : ∀ v' w', OwnStrs w' B v' (zs ++ [z]) → Fr (fun j => v.ownBlock = some j) wr w' → (∀ i, v'.ownBlock = some i → v.ownBlock = some i ∨ wr.heap.size ≤ i) → wpList Tryd.prog ops Q rest (a.put o.dst v') w') :
    wpList Tryd.prog ops Q (o :: rest) a (wr.alloc (.cells #[.string z] 9)) := by
  have hal : OwnStrs (wr.alloc (.cells #[.string z] 9)) B v zs := Own.alloc hown _
  have hrow1 : RowAt (wr.alloc (.cells #[.string z] 9)) (some ⟨wr.heap.size, 0, none⟩) 1 1 (fun j => [Value.string z].getD j undef) := by
    refine ⟨Nat.le_refl _, by unfold maxLen; omega, fun _ => ⟨wr.heap.size, 0, rfl, fun j hj => ?_⟩⟩
    obtain rfl : j = 0 := by omega
    simp
  obtain ⟨v', w', hrun, h2, h3, h4⟩ := run_app_many (P := Tryd.prog) (wr.alloc (.cells #[.string z] 9)) B 54 o.type 9 (.string .empty) 16 Tryd.underlying54 info_string rfl (by decide) v _ hal (some ⟨wr.heap.size, 0, none⟩) 1 1 [.string z] rfl
    hrow1 (fun u hu => by rw [List.mem_singleton.1 hu]; rfl) (by rw [List.length_map]; omega) (by simp; omega)
  refine wpList_plain hg fun K' hK => ?_
  unfold Oper.wp execOp
  simp only [ho, resolve, invoke, builtin, Sem.run_bind, Sem.run_pure, Result.andThen_ok, List.map_toArray, List.map_cons, List.map_nil, hs, hx, hrun]
  refine hK _ _ (K v' w' (by simpa [OwnStrs] using h2) ⟨h3.os, h3.tape, h3.output, ?_, fun k hk hne => ?_⟩ (fun i hi => ?_))
  · have := h3.size; simp at this; omega
  · rw [h3.block k (by simp; omega) (fun e => hne e.symm)]; exact heap_alloc_old wr _ hk
  · rcases h4 with h | h
    · exact .inl (by rw [← h]; exact hi)
    · rw [h] at hi
      injection hi with hi
      exact .inr (by rw [← hi]; simp)
end Go.Proofs.YtcpookgbneoilaaDoor

namespace Go.Proofs.YtcpookgbneoilaaDoor
open Go.ChangeShapes Go.WideShapes Go.ChangeAt Go.RowKit

def fbE (k m : Int) : List Dr → Nat
  | [] => 0
  | d :: r => if drpE k m d.s d.t ≠ 0 then drpE k m d.s d.t else fbE k m r
def preE (k m : Int) (ds : List Dr) : Nat := if 60 < ds.length then 4 else if k < 1 ∨ 16 < k ∨ m < 1 ∨ 8 < m then 1 else fbE k m ds
theorem fbE_drop {k m : Int} {ds : List Dr} {j : Nat} {d : Dr} (h : ds[j]? = some d) : fbE k m (ds.drop j) = if drpE k m d.s d.t ≠ 0 then drpE k m d.s d.t else fbE k m (ds.drop (j + 1)) := by
  obtain ⟨hj, rfl⟩ := List.getElem?_eq_some_iff.1 h
  rw [List.drop_eq_getElem_cons hj]; rfl
theorem fbE_zero {k m : Int} : ∀ {ds : List Dr}, fbE k m ds = 0 → ∀ d ∈ ds, drpE k m d.s d.t = 0
  | [], _, d, hd => by cases hd
  | d :: r, h, x, hx => by
    unfold fbE at h
    split at h
    · rename_i hne; exact absurd h hne
    · rename_i hne
      rcases List.mem_cons.1 hx with rfl | hx
      · exact Decidable.byContradiction fun e => hne e
      · exact fbE_zero h x hx

set_option maxHeartbeats 4000000 in
set_option maxRecDepth 100000 in
theorem refSolve_bad (k m : Int) (a : Option Addr) (n cap : Nat) (ds : List Dr) (w : World) (h : DropsAt w a n cap ds) (hE : preE k m ds ≠ 0) :
    Calls Tryd.prog 24 #[.int .i64 k, .int .i64 m, .slice a n cap] w fun e w' => e = .returned (.tuple #[.slice none 0 0, .int .i64 (preE k m ds : Nat)]) ∧ Lat w w' := by
  have hlen := h.len
  have hcm := h.rows.cap
  have hle := h.rows.le
  unfold maxLen at hcm
  by_cases h60 : 60 < n
  · have e1 : preE k m ds = 4 := by unfold preE; rw [if_pos (by omega)]
    have d1 : decide ((60 : Int) < (n : Int)) = true := decide_eq_true (by omega)
    rw [e1]
    clear h e1 h60 hlen hE
    go_enter Tryd.func24, Tryd.ntmps24
    go_wp2_with fail
    go_ret2
    exact ⟨rfl, Lat.refl w⟩
  have d1 : decide ((60 : Int) < (n : Int)) = false := decide_eq_false (by omega)
  by_cases hk : k < 1 ∨ 16 < k ∨ m < 1 ∨ 8 < m
  · have e1 : preE k m ds = 1 := by unfold preE; rw [if_neg (by omega), if_pos hk]
    have hq : decide (k < 1) = true ∨ (decide (k < 1) = false ∧ decide (16 < k) = true) ∨ (decide (k < 1) = false ∧ decide (16 < k) = false ∧ decide (m < 1) = true) ∨ (decide (k < 1) = false ∧ decide (16 < k) = false ∧ decide (m < 1) = false ∧ decide (8 < m) = true) := by simp only [decide_eq_true_eq, decide_eq_false_iff_not]; omega
    rw [e1]
    clear h e1 h60 hlen hk hE
    rcases hq with b1 | ⟨b1, b2⟩ | ⟨b1, b2, b3⟩ | ⟨b1, b2, b3, b4⟩
    all_goals
      go_enter Tryd.func24, Tryd.ntmps24
      go_wp2_with fail
      go_ret2
      exact ⟨rfl, Lat.refl w⟩
  have b1 : decide (k < 1) = false := decide_eq_false (by omega)
  have b2 : decide (16 < k) = false := decide_eq_false (by omega)
  have b3 : decide (m < 1) = false := decide_eq_false (by omega)
  have b4 : decide (8 < m) = false := decide_eq_false (by omega)
  have hP : preE k m ds = fbE k m ds := by unfold preE; rw [if_neg (by omega), if_neg hk]
  rw [hP] at hE
  have HP := Lib.hid hP; have H := Lib.hid h; have HLEN := Lib.hid hlen; have HE := Lib.hid hE
  clear h hP hlen hk h60 hE
  go_enter Tryd.func24, Tryd.ntmps24
  go_wp2_with fail
  go_loopg [8] n (fun f iv wx => ∃ i : Nat, i + f = n ∧ iv = .int .i64 i ∧ Hid (Lat w wx ∧ fbE k m (ds.drop i) = fbE k m ds))
  case atStart => exact ⟨0, by omega, rfl, Lat.refl w, rfl⟩
  case round =>
    obtain ⟨i, hi, rfl, hrel⟩ := hrel
    by_cases hlt : i < n
    · obtain ⟨f, rfl⟩ : ∃ f, gk = f + 1 := ⟨gk - 1, by omega⟩
      have di : decide (i < n) = true := decide_eq_true hlt
      obtain ⟨d, hd⟩ : ∃ d, ds[i]? = some d := ⟨ds[i]'(by rw [HLEN.out]; exact hlt), List.getElem?_eq_getElem _⟩
      obtain ⟨b, o, rfl, hc⟩ := (H.out.keep hrel.out.1).at_ (by omega)
      obtain ⟨c0, c1⟩ := hc i d hd
      have hfb := fbE_drop (k := k) (m := m) hd
      rw [hrel.out.2] at hfb
      obtain ⟨s, t⟩ := d
      have hrd := refDrop k m s t
      obtain ⟨x, hx⟩ : ∃ x, x = drpE k m s t := ⟨_, rfl⟩
      rw [← hx] at hrd hfb
      have i0 : (0 : Int) ≤ (i : Int) := by omega
      have i1 : (i : Int) < (n : Int) := by omega
      have HRD := Lib.hid hrd; have HFB := Lib.hid hfb; have HL := Lib.hid hrel.out.1
      clear hrel hc hd hrd hfb hx
      go_wp2_with fail
      refine (HRD.out _).mono ?_
      rintro e w2 ⟨rfl, hb2⟩
      have HL2 := Lib.hid (HL.out.trans hb2)
      clear hb2 HL
      by_cases hx0 : x = 0
      · have dx : ((x : Int) != 0) = false := by rw [bne_eq_false_iff_eq]; omega
        have hf2 := HFB.out
        rw [if_neg (fun e => e hx0)] at hf2
        have HF2 := Lib.hid hf2.symm
        clear hx0 hf2
        go_wp2_with fail
        go_roundg f
        case measure => omega
        case rel => exact ⟨i + 1, by omega, by go_num, HL2.out, HF2.out⟩
      · have dx : ((x : Int) != 0) = true := by rw [bne_iff_ne]; omega
        have hf2 := HFB.out
        rw [if_pos hx0] at hf2
        have HF2 := Lib.hid hf2
        clear hx0 hf2
        go_wp2_with fail
        go_ret2
        exact ⟨by rw [HP.out, HF2.out]; rfl, HL2.out⟩
    · obtain rfl : i = n := by omega
      exfalso
      have h2 := hrel.out.2
      rw [List.drop_eq_nil_of_le (by rw [HLEN.out]; exact Nat.le_refl _)] at h2
      exact HE.out h2.symm

theorem Ln.mono16 {m k : Nat} {L : List Vec} (h : Ln m k L) (hk : k ≤ 16) : Ln m 16 L := fun u hu => ⟨(h u hu).1, Nat.lt_of_lt_of_le (h u hu).2 (Nat.pow_le_pow_right (by omega) hk)⟩
theorem rowsD_ln {k m : Nat} (hk1 : 1 ≤ k) {ds : List Dr} (hd : ∀ d ∈ ds, drpE k m d.s d.t = 0) : Ln m k (rowsD k ds) := fun u hu => by
  unfold rowsD at hu
  obtain ⟨d, hdm, rfl⟩ := List.mem_map.1 hu
  obtain ⟨_, _, _, _, h5, _, h7⟩ := drpE_zero (hd d hdm)
  refine ⟨?_, bitsTo_lt _ k (setZ_lt k d.s.toNat hk1 (by omega)) _ (Nat.le_refl _)⟩
  show d.t.data.toList.length = m
  rw [Array.length_toList]
  have : (d.t.size : Int) = m := h7
  show d.t.size = m
  omega
def outA (A : List Vec) (at_ : Nat → Option Nat) : Nat → List ByteArray
  | 0 => []
  | b + 1 => match at_ b with
    | none => outA A at_ b
    | some p => outA A at_ b ++ [S (rowG A p).2]
theorem outA_len (A : List Vec) (at_ : Nat → Option Nat) : ∀ b, (outA A at_ b).length ≤ b
  | 0 => Nat.le_refl _
  | b + 1 => by
    have := outA_len A at_ b
    unfold outA
    split
    · omega
    · rw [List.length_append, List.length_singleton]; omega
theorem outA_full {A : List Vec} {at_ : Nat → Option Nat} {O : Nat → List UInt8} : ∀ {k : Nat}, (∀ b, b < k → ∃ p, at_ b = some p ∧ O b = (rowG A p).2) → outA A at_ k = (List.range k).map fun b => S (O b)
  | 0, _ => rfl
  | k + 1, h => by
    obtain ⟨p, hp, ho⟩ := h k (by omega)
    rw [outA, hp, List.range_succ, List.map_append, outA_full fun b hb => h b (by omega)]
    show _ = _ ++ [S (O k)]
    rw [ho]
theorem outA_size {A : List Vec} {at_ : Nat → Option Nat} (h : ∀ b p, at_ b = some p → (rowG A p).2.length ≤ 8) : ∀ k, ∀ s ∈ outA A at_ k, s.size ≤ 8
  | 0, s, hs => by cases hs
  | k + 1, s, hs => by
    unfold outA at hs
    split at hs
    · exact outA_size h k s hs
    · rename_i p hp
      rcases List.mem_append.1 hs with hs | hs
      · exact outA_size h k s hs
      · rw [List.mem_singleton.1 hs, S_size]; exact h k p hp
theorem strs_own {w : World} {B n : Nat} {v : Value} {ss : List ByteArray} (h : OwnStrs w B v ss) (hs : ∀ s ∈ ss, s.size ≤ 8) (hn : ss.length = n) : ∃ a c, v = .slice a n c ∧ StrsAt w a n c ss := by
  subst hn
  obtain ⟨a, c, hv, hr⟩ := Own.slice h
  rw [List.length_map] at hv hr
  refine ⟨a, c, hv, rfl, ⟨hr.le, hr.cap, fun hn => ?_⟩, fun s hm => by have := hs s hm; unfold maxLen; omega⟩
  obtain ⟨b, off, ha, hc⟩ := hr.at_ hn
  exact ⟨b, off, ha, fun j hj => by rw [hc j hj]; simp [List.getD, hj]⟩
def nzB (v : Vec) : Nat → Bool
  | 0 => true
  | b + 1 => nzB v b && !v.1.testBit b
theorem nzB_all (v : Vec) : ∀ b, nzB v b = true ↔ ∀ j, j < b → v.1.testBit j = false
  | 0 => ⟨fun _ j hj => by omega, fun _ => rfl⟩
  | b + 1 => by
    have ih := nzB_all v b
    unfold nzB
    rw [Bool.and_eq_true, ih]
    constructor
    · rintro ⟨h1, h2⟩ j hj
      by_cases e : j = b
      · subst e; simpa using h2
      · exact h1 j (by omega)
    · intro h
      exact ⟨fun j hj => h j (by omega), by rw [h b (by omega)]; rfl⟩
theorem nzB_iff {v : Vec} {k : Nat} (hk : v.1 < 2 ^ k) : nzB v k = true ↔ v.1 = 0 :=
  ⟨fun h => bits_zero hk ((nzB_all v k).1 h), fun h => (nzB_all v k).2 fun j _ => by rw [h]; exact Nat.zero_testBit j⟩
def rslE (k : Nat) (ds : List Dr) : Nat := if slvC k (rowsD k ds) ds.length 0 = true then 7 else if rnkT (tabT k (rowsD k ds)) k < k then 8 else 0

def rslL (k : Nat) (ds : List Dr) : List ByteArray := if rslE k ds = 0 then (List.range k).map (fun j => S (outF (tabT k (rowsD k ds)) k k j)) else []
theorem rslL_bad {k : Nat} {ds : List Dr} {e : Nat} (h : rslE k ds = e + 1) : rslL k ds = [] := by unfold rslL; rw [if_neg (by omega)]

set_option maxHeartbeats 16000000 in
set_option maxRecDepth 100000 in
theorem refSolve_ok (k m : Nat) (a : Option Addr) (n cap : Nat) (ds : List Dr) (w : World) (h : DropsAt w a n cap ds) (hE : preE k m ds = 0) :
    Calls Tryd.prog 24 #[.int .i64 k, .int .i64 m, .slice a n cap] w fun e w' => ∃ b q c, e = .returned (.tuple #[.slice b q c, .int .i64 (rslE k ds : Nat)]) ∧ StrsAt w' b q c (rslL k ds) ∧ Lat w w' := by
  have hlen := h.len
  have hcm := h.rows.cap
  have hle := h.rows.le
  unfold maxLen at hcm
  have hsplit : n ≤ 60 ∧ 1 ≤ k ∧ k ≤ 16 ∧ 1 ≤ m ∧ m ≤ 8 ∧ ∀ d ∈ ds, drpE k m d.s d.t = 0 := by
    unfold preE at hE
    by_cases h60 : 60 < ds.length
    · rw [if_pos h60] at hE; cases hE
    rw [if_neg h60] at hE
    by_cases hk : (k : Int) < 1 ∨ 16 < (k : Int) ∨ (m : Int) < 1 ∨ 8 < (m : Int)
    · rw [if_pos hk] at hE; cases hE
    rw [if_neg hk] at hE
    exact ⟨by omega, by omega, by omega, by omega, by omega, fbE_zero hE⟩
  obtain ⟨hn, hk1, hk, hm1, hm8, hd⟩ := hsplit
  have d1 : decide ((60 : Int) < (n : Int)) = false := decide_eq_false (by omega)
  have b1 : decide ((k : Int) < 1) = false := decide_eq_false (by omega)
  have b2 : decide ((16 : Int) < (k : Int)) = false := decide_eq_false (by omega)
  have b3 : decide ((m : Int) < 1) = false := decide_eq_false (by omega)
  have b4 : decide ((8 : Int) < (m : Int)) = false := decide_eq_false (by omega)
  have H := Lib.hid h; have HLEN := Lib.hid hlen; have HD := Lib.hid hd
  clear h hlen hd hE
  go_enter Tryd.func24, Tryd.ntmps24
  go_wp2_with fail
  go_loopg [8] n (fun f iv wx => ∃ i : Nat, i + f = n ∧ iv = .int .i64 i ∧ Hid (Lat w wx))
  case atStart => exact ⟨0, by omega, rfl, Lat.refl w⟩
  case round =>
    obtain ⟨i, hi, rfl, hrel⟩ := hrel
    by_cases hlt : i < n
    · obtain ⟨f, rfl⟩ : ∃ f, gk = f + 1 := ⟨gk - 1, by omega⟩
      have di : decide (i < n) = true := decide_eq_true hlt
      have hil : i < ds.length := by rw [HLEN.out]; exact hlt
      obtain ⟨d, hd⟩ : ∃ d, ds[i]? = some d := ⟨ds[i], List.getElem?_eq_getElem hil⟩
      obtain ⟨b, o, rfl, hc⟩ := (H.out.keep hrel.out).at_ (by omega)
      obtain ⟨c0, c1⟩ := hc i d hd
      have hx0 := HD.out d (List.mem_of_getElem? hd)
      obtain ⟨s, t⟩ := d
      have hrd := refDrop k m s t
      rw [hx0] at hrd
      have i0 : (0 : Int) ≤ (i : Int) := by omega
      have i1 : (i : Int) < (n : Int) := by omega
      have HRD := Lib.hid hrd; have HL := Lib.hid hrel.out
      clear hrel hc hd hrd hx0 hil
      go_wp2_with fail
      refine (HRD.out _).mono ?_
      rintro e w2 ⟨rfl, hb2⟩
      have HL2 := Lib.hid (HL.out.trans hb2)
      clear hb2 HL
      go_wp2_with fail
      go_roundg f
      case measure => omega
      case rel => exact ⟨i + 1, by omega, by go_num, HL2.out⟩
    · obtain rfl : i = n := by omega
      have di : decide (i < i) = false := decide_eq_false (by omega)
      have HL := Lib.hid hrel.out
      clear hrel
      have hrl : (rowsD k ds).length = i := by unfold rowsD; rw [List.length_map]; exact HLEN.out
      obtain ⟨R, hR⟩ : ∃ R, R = rowsD k ds := ⟨_, rfl⟩
      rw [← hR] at hrl
      have HRL := Lib.hid hrl; have HRDF := Lib.hid hR
      clear hrl hR
      go_wp2_with fail
      go_loopg [10, 11] i (fun f lv iv wx => ∃ j : Nat, j + f = i ∧ iv = .int .i64 j ∧ Hid (Lat w wx ∧ OwnL wx w.heap.size lv (R.take j)))
      case atStart => exact ⟨0, by omega, rfl, HL.out, OwnL.nil _ _⟩
      case round =>
        clear HL
        obtain ⟨j, hj, rfl, hrel⟩ := hrel
        by_cases hlt : j < i
        · obtain ⟨f, rfl⟩ : ∃ f, gk = f + 1 := ⟨gk - 1, by omega⟩
          have dj : decide (j < i) = true := decide_eq_true hlt
          have hil : j < ds.length := by rw [HLEN.out]; exact hlt
          obtain ⟨d, hd⟩ : ∃ d, ds[j]? = some d := ⟨ds[j], List.getElem?_eq_getElem hil⟩
          obtain ⟨b, o, rfl, hc⟩ := (H.out.keep hrel.out.1).at_ (by omega)
          obtain ⟨c0, c1⟩ := hc j d hd
          have hx0 := drpE_zero (HD.out d (List.mem_of_getElem? hd))
          have hsn := take_snocD R j (by rw [HRL.out]; exact hlt)
          rw [HRDF.out, rowsD_getD k ds j d hd, ← HRDF.out] at hsn
          obtain ⟨s, t⟩ := d
          obtain ⟨z, rfl⟩ : ∃ z : Nat, s = z := ⟨s.toNat, by have := hx0.2.2.2.2.1; simp at this; omega⟩
          obtain ⟨tl, rfl⟩ := S_of t
          have hz1 : 1 ≤ z := by have := hx0.2.2.2.2.1; simp at this; omega
          have hz2 : z ≤ 10000 := by have := hx0.2.2.2.2.2.1; simp at this; omega
          obtain ⟨u, hu⟩ : ∃ u, u = rowD k ⟨(z : Int), S tl⟩ := ⟨_, rfl⟩
          have hu2 : (bitsN (setZ k z), tl) = u := by rw [hu]; unfold rowD; simp only [Int.toNat_natCast]
          rw [← hu] at hsn
          have i0 : (0 : Int) ≤ (j : Int) := by omega
          have i1 : (j : Int) < (i : Int) := by omega
          have hset := fun W => refSet k z W hk1 hk hz1 hz2
          have hs16 := setZ_16 hk1 hk z hz1
          have hsl := (setZ_length k z hk1 hk hz2).2
          have hof := fun sa sc W hW => refOf sa (setZ k z).length sc (setZ k z) tl W hW hs16 (by omega)
          rw [hu2] at hof
          have HSET := Lib.hid hset; have HOF := Lib.hid hof; have HSN2 := Lib.hid hsn; have HREL := Lib.hid hrel.out
          clear hrel hc hd hsn hset hs16 hu hu2 hsl hof hx0 hz1 hz2 hil
          go_upto_region 15 with fail
          have hF0 : wr.drew.cell? ⟨b, o + j * 2, none⟩ = some (.int .i64 z) ∧ wr.drew.cell? ⟨b, o + j * 2 + 1, none⟩ = some (.string (S tl)) := ⟨c0, c1⟩
          have hF := hF0
          refine wp_region_gate (fun w' => w'.cell? ⟨b, o + j * 2, none⟩ = some (.int .i64 z) ∧ w'.cell? ⟨b, o + j * 2 + 1, none⟩ = some (.string (S tl))) (fun _ => True) 1000 (by kernel_rfl) ?_
          refine gate_takeF (i := 0) (v := ?_) rfl (by kernel_rfl) (by kernel_rfl) (by kernel_rfl) (fun _ _ _ h => h) (by decide) ⟨hF, fun _ => trivial⟩ (Or.inl ⟨by kernel_rfl, ?_⟩) ?_
          rotate_left
          · intro wq hSw; obtain ⟨s0, s1⟩ := hSw; go_simp; rfl
          simp only [Act.put]
          refine gate_takeF (i := 1) (v := ?_) rfl (by kernel_rfl) (by kernel_rfl) (by kernel_rfl) (fun _ _ _ h => h) (by decide) ⟨hF, fun _ => trivial⟩ (Or.inl ⟨by kernel_rfl, ?_⟩) ?_
          rotate_left
          · intro wq hSw; obtain ⟨s0, s1⟩ := hSw; go_simp; rfl
          simp only [Act.put]
          refine gate_takeF (i := 2) (v := ?_) rfl (by kernel_rfl) (by kernel_rfl) (by kernel_rfl) (fun _ _ _ h => h) (by decide) ⟨hF, fun _ => trivial⟩ (Or.inl ⟨by kernel_rfl, ?_⟩) ?_
          rotate_left
          · intro wq hSw; obtain ⟨s0, s1⟩ := hSw; go_simp; rfl
          simp only [Act.put]
          refine gate_takeF (i := 3) (v := ?_) rfl (by kernel_rfl) (by kernel_rfl) (by kernel_rfl) (fun _ _ _ h => h) (by decide) ⟨hF, fun _ => trivial⟩ (Or.inl ⟨by kernel_rfl, ?_⟩) ?_
          rotate_left
          · intro wq hSw; obtain ⟨s0, s1⟩ := hSw; go_simp; rfl
          simp only [Act.put]
          refine gate_takeF (i := 4) (v := ?_) rfl (by kernel_rfl) (by kernel_rfl) (by kernel_rfl) (fun _ _ _ h => h) (by decide) ⟨hF, fun _ => trivial⟩ (Or.inl ⟨by kernel_rfl, ?_⟩) ?_
          rotate_left
          · intro wq hSw; obtain ⟨s0, s1⟩ := hSw; go_simp; rfl
          simp only [Act.put]
          refine gate_takeF (i := 5) (v := ?_) rfl (by kernel_rfl) (by kernel_rfl) (by kernel_rfl) (fun _ _ _ h => h) (by decide) ⟨hF, fun _ => trivial⟩ (Or.inl ⟨by kernel_rfl, ?_⟩) ?_
          rotate_left
          · intro wq hSw; obtain ⟨s0, s1⟩ := hSw; go_simp; rfl
          simp only [Act.put]
          refine gate_takeF (i := 7) (v := ?_) rfl (by kernel_rfl) (by kernel_rfl) (by kernel_rfl) (fun _ _ _ h => h) (by decide) ⟨hF, fun _ => trivial⟩ (Or.inl ⟨by kernel_rfl, ?_⟩) ?_
          rotate_left
          · intro wq hSw; obtain ⟨s0, s1⟩ := hSw; go_simp; rfl
          simp only [Act.put]
          refine gate_takeF (i := 8) (v := ?_) rfl (by kernel_rfl) (by kernel_rfl) (by kernel_rfl) (fun _ _ _ h => h) (by decide) ⟨hF, fun _ => trivial⟩ (Or.inl ⟨by kernel_rfl, ?_⟩) ?_
          rotate_left
          · intro wq hSw; obtain ⟨s0, s1⟩ := hSw; go_simp; rfl
          simp only [Act.put]
          refine gate_takeF (i := 9) (v := ?_) rfl (by kernel_rfl) (by kernel_rfl) (by kernel_rfl) (fun _ _ _ h => h) (by decide) ⟨hF, fun _ => trivial⟩ (Or.inl ⟨by kernel_rfl, ?_⟩) ?_
          rotate_left
          · intro wq hSw; obtain ⟨s0, s1⟩ := hSw; go_simp; rfl
          simp only [Act.put]
          refine gate_takeF (i := 10) (v := ?_) rfl (by kernel_rfl) (by kernel_rfl) (by kernel_rfl) (fun _ _ _ h => h) (by decide) ⟨hF, fun _ => trivial⟩ (Or.inl ⟨by kernel_rfl, ?_⟩) ?_
          rotate_left
          · intro wq hSw; obtain ⟨s0, s1⟩ := hSw; go_simp; rfl
          simp only [Act.put]
          refine gate_takeF (i := 11) (v := ?_) rfl (by kernel_rfl) (by kernel_rfl) (by kernel_rfl) (fun _ _ _ h => h) (by decide) ⟨hF, fun _ => trivial⟩ (Or.inl ⟨by kernel_rfl, ?_⟩) ?_
          rotate_left
          · intro wq hSw; obtain ⟨s0, s1⟩ := hSw; go_simp; rfl
          simp only [Act.put]
          refine gate_two (i := 6) (j := 13) (by kernel_rfl) rfl rfl (fun K hK => ?_) (fun K hK => ?_)
          · go_simp
            refine (HSET.out _).mono ?_
            rintro e w2 ⟨sa, sc, rfl, hsi, hb2⟩
            refine hK _ _ ⟨(⟨hb2.cell_at hF0.1, hb2.cell_at hF0.2⟩ : w2.cell? ⟨b, o + j * 2, none⟩ = some (.int .i64 z) ∧ w2.cell? ⟨b, o + j * 2 + 1, none⟩ = some (.string (S tl))), fun _ => trivial⟩ ?_
            clear hK K
            refine gate_two (i := 12) (j := 13) (by kernel_rfl) rfl rfl (fun K hK => ?_) (fun K hK => ?_)
            · go_simp
              refine (HOF.out sa sc _ hsi).mono ?_
              rintro e w3 ⟨rfl, hb3⟩
              have hl3 := hb2.trans hb3
              refine hK _ _ ⟨(⟨hl3.cell_at hF0.1, hl3.cell_at hF0.2⟩ : w3.cell? ⟨b, o + j * 2, none⟩ = some (.int .i64 z) ∧ w3.cell? ⟨b, o + j * 2 + 1, none⟩ = some (.string (S tl))), fun _ => trivial⟩ ?_
              clear hK K
              refine gate_one (i := 13) (by kernel_rfl) rfl (fun K hK => ?_)
              go_simp
              have hl5 := hl3.trans (Lat.alloc w3 (.cells #[Value.bool false, Value.bool false, Value.bool false, Value.bool false, Value.bool false, Value.bool false, Value.bool false, Value.bool false, Value.bool false, Value.bool false, Value.bool false, Value.bool false, Value.bool false, Value.bool false, Value.bool false, Value.bool false, Value.string { data := #[] }] 78))
              refine hK _ _ ⟨(⟨hl5.cell_at hF0.1, hl5.cell_at hF0.2⟩ : (w3.alloc (.cells #[Value.bool false, Value.bool false, Value.bool false, Value.bool false, Value.bool false, Value.bool false, Value.bool false, Value.bool false, Value.bool false, Value.bool false, Value.bool false, Value.bool false, Value.bool false, Value.bool false, Value.bool false, Value.bool false, Value.string { data := #[] }] 78)).cell? ⟨b, o + j * 2, none⟩ = some (.int .i64 z) ∧ (w3.alloc (.cells #[Value.bool false, Value.bool false, Value.bool false, Value.bool false, Value.bool false, Value.bool false, Value.bool false, Value.bool false, Value.bool false, Value.bool false, Value.bool false, Value.bool false, Value.bool false, Value.bool false, Value.bool false, Value.bool false, Value.string { data := #[] }] 78)).cell? ⟨b, o + j * 2 + 1, none⟩ = some (.string (S tl))), fun _ => trivial⟩ ?_
              clear hK K
              have hzt := zline_there w3 78
              rw [zero_cells] at hzt
              have HX9 := Lib.hid (show wr.drew.heap.size ≤ w3.heap.size from hl3.size)
              refine gate_one (i := 14) (by kernel_rfl) rfl (fun K hK => ?_)
              rw [if_pos (by kernel_rfl)]
              refine line_store (.tmp 12) (.tmp 72) rfl w3.heap.size 0 u (by go_simp) (by go_simp) hzt ?_
              have hl9 : Lat wr.drew ((w3.alloc (.cells #[Value.bool false, Value.bool false, Value.bool false, Value.bool false, Value.bool false, Value.bool false, Value.bool false, Value.bool false, Value.bool false, Value.bool false, Value.bool false, Value.bool false, Value.bool false, Value.bool false, Value.bool false, Value.bool false, Value.string { data := #[] }] 78)).setCells w3.heap.size 0 (lineC u)) := (Fr.setCells _ _ _ _).lat_of hl5 (fun k e => by rw [e]; exact HX9.out)
              have hx9 := World.rangeAt_setCells_same (w3.alloc (.cells #[Value.bool false, Value.bool false, Value.bool false, Value.bool false, Value.bool false, Value.bool false, Value.bool false, Value.bool false, Value.bool false, Value.bool false, Value.bool false, Value.bool false, Value.bool false, Value.bool false, Value.bool false, Value.bool false, Value.string { data := #[] }] 78)) w3.heap.size 0 (lineC u) (by rw [lineC_len]; exact hzt)
              refine hK _ _ ⟨⟨hl9.cell_at hF0.1, hl9.cell_at hF0.2⟩, fun _ => trivial⟩ ?_
              clear hK K
              refine gate_done (by kernel_rfl) ?_ _
              obtain ⟨W4, hW4⟩ : ∃ W4, W4 = (w3.alloc (.cells #[Value.bool false, Value.bool false, Value.bool false, Value.bool false, Value.bool false, Value.bool false, Value.bool false, Value.bool false, Value.bool false, Value.bool false, Value.bool false, Value.bool false, Value.bool false, Value.bool false, Value.bool false, Value.bool false, Value.string { data := #[] }] 78)).setCells w3.heap.size 0 (lineC u) := ⟨_, rfl⟩
              obtain ⟨X9, hX9⟩ : ∃ X9, X9 = w3.heap.size := ⟨_, rfl⟩
              rw [← hW4] at hl9 hx9 ⊢
              rw [← hX9] at hx9 ⊢
              have HX4 := Lib.hid hx9; have HL34 := Lib.hid ((Lat.drew wr).trans hl9)
              clear hl9 hx9 hW4 hX9 HX9 HSET HOF
              simp only [List.getElem_toArray, List.getElem_cons_succ, List.getElem_cons_zero]
              go_simp
              have hll := lineC_len u
              go_wp2_with (first
                | refine at_load rfl (.tmp 12) rfl X9 0 rfl u HX4.out ?_
                | (at_builtin; rw [bs_line u]; (refine app_line W4 w.heap.size rfl (.tmp 73) (.tmp 75) rfl u10 (R.take j) u rfl (HREL.out.2.keep HL34.out) rfl (by rw [List.length_take]; omega) (HREL.out.1.trans HL34.out).size ?_); intro v' w' hown' _ hfr'))
              have hlat := hfr'.lat_of (HREL.out.1.trans HL34.out) (fun k hk => (HREL.out.2.lt k hk).1)
              rw [← HSN2.out] at hown'
              have HOW := Lib.hid hown'; have HLAT := Lib.hid hlat
              clear hown' hfr' hlat hll
              try go_wp2_with fail
              go_roundg f
              case measure => omega
              case rel => exact ⟨j + 1, by omega, by go_num, HLAT.out, HOW.out⟩
            · go_simp
              have hl4 := hb2.trans (Lat.alloc w2 (.cells #[Value.bool false, Value.bool false, Value.bool false, Value.bool false, Value.bool false, Value.bool false, Value.bool false, Value.bool false, Value.bool false, Value.bool false, Value.bool false, Value.bool false, Value.bool false, Value.bool false, Value.bool false, Value.bool false, Value.string { data := #[] }] 78))
              refine hK _ _ ⟨(⟨hl4.cell_at hF0.1, hl4.cell_at hF0.2⟩ : (w2.alloc (.cells #[Value.bool false, Value.bool false, Value.bool false, Value.bool false, Value.bool false, Value.bool false, Value.bool false, Value.bool false, Value.bool false, Value.bool false, Value.bool false, Value.bool false, Value.bool false, Value.bool false, Value.bool false, Value.bool false, Value.string { data := #[] }] 78)).cell? ⟨b, o + j * 2, none⟩ = some (.int .i64 z) ∧ (w2.alloc (.cells #[Value.bool false, Value.bool false, Value.bool false, Value.bool false, Value.bool false, Value.bool false, Value.bool false, Value.bool false, Value.bool false, Value.bool false, Value.bool false, Value.bool false, Value.bool false, Value.bool false, Value.bool false, Value.bool false, Value.string { data := #[] }] 78)).cell? ⟨b, o + j * 2 + 1, none⟩ = some (.string (S tl))), fun _ => trivial⟩ ?_
              clear hK K
              have hzt := zline_there w2 78
              rw [zero_cells] at hzt
              refine gate_one (i := 12) (by kernel_rfl) rfl (fun K hK => ?_)
              go_simp
              refine (HOF.out sa sc _ (hsi.keep (Lat.alloc w2 (.cells #[Value.bool false, Value.bool false, Value.bool false, Value.bool false, Value.bool false, Value.bool false, Value.bool false, Value.bool false, Value.bool false, Value.bool false, Value.bool false, Value.bool false, Value.bool false, Value.bool false, Value.bool false, Value.bool false, Value.string { data := #[] }] 78)))).mono ?_
              rintro e w3 ⟨rfl, hb3⟩
              have hl5 := hl4.trans hb3
              refine hK _ _ ⟨(⟨hl5.cell_at hF0.1, hl5.cell_at hF0.2⟩ : w3.cell? ⟨b, o + j * 2, none⟩ = some (.int .i64 z) ∧ w3.cell? ⟨b, o + j * 2 + 1, none⟩ = some (.string (S tl))), fun _ => trivial⟩ ?_
              clear hK K
              have hz2 := there_keep hzt hb3
              have HX9 := Lib.hid (show wr.drew.heap.size ≤ w2.heap.size from hb2.size)
              refine gate_one (i := 14) (by kernel_rfl) rfl (fun K hK => ?_)
              rw [if_pos (by kernel_rfl)]
              refine line_store (.tmp 12) (.tmp 72) rfl w2.heap.size 0 u (by go_simp) (by go_simp) hz2 ?_
              have hl9 : Lat wr.drew (w3.setCells w2.heap.size 0 (lineC u)) := (Fr.setCells _ _ _ _).lat_of hl5 (fun k e => by rw [e]; exact HX9.out)
              have hx9 := World.rangeAt_setCells_same w3 w2.heap.size 0 (lineC u) (by rw [lineC_len]; exact hz2)
              refine hK _ _ ⟨⟨hl9.cell_at hF0.1, hl9.cell_at hF0.2⟩, fun _ => trivial⟩ ?_
              clear hK K
              refine gate_done (by kernel_rfl) ?_ _
              obtain ⟨W4, hW4⟩ : ∃ W4, W4 = w3.setCells w2.heap.size 0 (lineC u) := ⟨_, rfl⟩
              obtain ⟨X9, hX9⟩ : ∃ X9, X9 = w2.heap.size := ⟨_, rfl⟩
              rw [← hW4] at hl9 hx9 ⊢
              rw [← hX9] at hx9 ⊢
              have HX4 := Lib.hid hx9; have HL34 := Lib.hid ((Lat.drew wr).trans hl9)
              clear hl9 hx9 hW4 hX9 HX9 HSET HOF
              simp only [List.getElem_toArray, List.getElem_cons_succ, List.getElem_cons_zero]
              go_simp
              have hll := lineC_len u
              go_wp2_with (first
                | refine at_load rfl (.tmp 12) rfl X9 0 rfl u HX4.out ?_
                | (at_builtin; rw [bs_line u]; (refine app_line W4 w.heap.size rfl (.tmp 73) (.tmp 75) rfl u10 (R.take j) u rfl (HREL.out.2.keep HL34.out) rfl (by rw [List.length_take]; omega) (HREL.out.1.trans HL34.out).size ?_); intro v' w' hown' _ hfr'))
              have hlat := hfr'.lat_of (HREL.out.1.trans HL34.out) (fun k hk => (HREL.out.2.lt k hk).1)
              rw [← HSN2.out] at hown'
              have HOW := Lib.hid hown'; have HLAT := Lib.hid hlat
              clear hown' hfr' hlat hll
              try go_wp2_with fail
              go_roundg f
              case measure => omega
              case rel => exact ⟨j + 1, by omega, by go_num, HLAT.out, HOW.out⟩
          · go_simp
            have hl2 := Lat.alloc wr.drew (.cells #[Value.bool false, Value.bool false, Value.bool false, Value.bool false, Value.bool false, Value.bool false, Value.bool false, Value.bool false, Value.bool false, Value.bool false, Value.bool false, Value.bool false, Value.bool false, Value.bool false, Value.bool false, Value.bool false, Value.string { data := #[] }] 78)
            refine hK _ _ ⟨(⟨hl2.cell_at hF0.1, hl2.cell_at hF0.2⟩ : (wr.drew.alloc (.cells #[Value.bool false, Value.bool false, Value.bool false, Value.bool false, Value.bool false, Value.bool false, Value.bool false, Value.bool false, Value.bool false, Value.bool false, Value.bool false, Value.bool false, Value.bool false, Value.bool false, Value.bool false, Value.bool false, Value.string { data := #[] }] 78)).cell? ⟨b, o + j * 2, none⟩ = some (.int .i64 z) ∧ (wr.drew.alloc (.cells #[Value.bool false, Value.bool false, Value.bool false, Value.bool false, Value.bool false, Value.bool false, Value.bool false, Value.bool false, Value.bool false, Value.bool false, Value.bool false, Value.bool false, Value.bool false, Value.bool false, Value.bool false, Value.bool false, Value.string { data := #[] }] 78)).cell? ⟨b, o + j * 2 + 1, none⟩ = some (.string (S tl))), fun _ => trivial⟩ ?_
            clear hK K
            have hzt := zline_there wr.drew 78
            rw [zero_cells] at hzt
            refine gate_one (i := 6) (by kernel_rfl) rfl (fun K hK => ?_)
            go_simp
            refine (HSET.out _).mono ?_
            rintro e w2 ⟨sa, sc, rfl, hsi, hb2⟩
            have hl3 := hl2.trans hb2
            refine hK _ _ ⟨(⟨hl3.cell_at hF0.1, hl3.cell_at hF0.2⟩ : w2.cell? ⟨b, o + j * 2, none⟩ = some (.int .i64 z) ∧ w2.cell? ⟨b, o + j * 2 + 1, none⟩ = some (.string (S tl))), fun _ => trivial⟩ ?_
            clear hK K
            refine gate_one (i := 12) (by kernel_rfl) rfl (fun K hK => ?_)
            go_simp
            refine (HOF.out sa sc _ hsi).mono ?_
            rintro e w3 ⟨rfl, hb3⟩
            have hl5 := hl3.trans hb3
            refine hK _ _ ⟨(⟨hl5.cell_at hF0.1, hl5.cell_at hF0.2⟩ : w3.cell? ⟨b, o + j * 2, none⟩ = some (.int .i64 z) ∧ w3.cell? ⟨b, o + j * 2 + 1, none⟩ = some (.string (S tl))), fun _ => trivial⟩ ?_
            clear hK K
            have hz2 : w3.there wr.heap.size 0 17 := there_keep hzt (hb2.trans hb3)
            have HX9 := Lib.hid (show wr.drew.heap.size ≤ wr.heap.size from Nat.le_refl _)
            refine gate_one (i := 14) (by kernel_rfl) rfl (fun K hK => ?_)
            rw [if_pos (by kernel_rfl)]
            refine line_store (.tmp 12) (.tmp 72) rfl wr.heap.size 0 u (by go_simp) (by go_simp) hz2 ?_
            have hl9 : Lat wr.drew (w3.setCells wr.heap.size 0 (lineC u)) := (Fr.setCells _ _ _ _).lat_of hl5 (fun k e => by rw [e]; exact HX9.out)
            have hx9 := World.rangeAt_setCells_same w3 wr.heap.size 0 (lineC u) (by rw [lineC_len]; exact hz2)
            refine hK _ _ ⟨⟨hl9.cell_at hF0.1, hl9.cell_at hF0.2⟩, fun _ => trivial⟩ ?_
            clear hK K
            refine gate_done (by kernel_rfl) ?_ _
            obtain ⟨W4, hW4⟩ : ∃ W4, W4 = w3.setCells wr.heap.size 0 (lineC u) := ⟨_, rfl⟩
            obtain ⟨X9, hX9⟩ : ∃ X9, X9 = wr.heap.size := ⟨_, rfl⟩
            rw [← hW4] at hl9 hx9 ⊢
            rw [← hX9] at hx9 ⊢
            have HX4 := Lib.hid hx9; have HL34 := Lib.hid ((Lat.drew wr).trans hl9)
            clear hl9 hx9 hW4 hX9 HX9 HSET HOF
            simp only [List.getElem_toArray, List.getElem_cons_succ, List.getElem_cons_zero]
            go_simp
            have hll := lineC_len u
            go_wp2_with (first
              | refine at_load rfl (.tmp 12) rfl X9 0 rfl u HX4.out ?_
              | (at_builtin; rw [bs_line u]; (refine app_line W4 w.heap.size rfl (.tmp 73) (.tmp 75) rfl u10 (R.take j) u rfl (HREL.out.2.keep HL34.out) rfl (by rw [List.length_take]; omega) (HREL.out.1.trans HL34.out).size ?_); intro v' w' hown' _ hfr'))
            have hlat := hfr'.lat_of (HREL.out.1.trans HL34.out) (fun k hk => (HREL.out.2.lt k hk).1)
            rw [← HSN2.out] at hown'
            have HOW := Lib.hid hown'; have HLAT := Lib.hid hlat
            clear hown' hfr' hlat hll
            try go_wp2_with fail
            go_roundg f
            case measure => omega
            case rel => exact ⟨j + 1, by omega, by go_num, HLAT.out, HOW.out⟩
        · obtain rfl : j = i := by omega
          have dj : decide (j < j) = false := decide_eq_false (by omega)
          have ho := hrel.out.2
          rw [List.take_of_length_le (by rw [HRL.out]; exact Nat.le_refl _)] at ho
          obtain ⟨aa, cc, rfl, hform, hnc, hcm2⟩ := OwnL.form ho HRL.out
          have hln : Ln m k R := by rw [HRDF.out]; exact rowsD_ln hk1 HD.out
          have hce := clash_eq (by omega) hln
          have hcn := cnt_eq (by omega) hln
          have hoe := out_eq (by omega) hln
          have hcl := clrF_cl hln k
          have hrc := refClear aa j cc k m R wr ho.shown (hln.mono16 hk) hn hk (by omega)
          have HC := Lib.hid hrc; have HL0 := Lib.hid hrel.out.1
          clear ho hrel hform hrc
          go_wp2_with fail
          refine HC.out.mono ?_
          rintro e w2 ⟨ca, c2, rfl, hla, hb2⟩
          obtain ⟨at_, hat⟩ : ∃ c, c = (clrF R k).2 := ⟨_, rfl⟩
          obtain ⟨A, hA⟩ : ∃ A, A = (clrF R k).1 := ⟨_, rfl⟩
          rw [← hA] at hce hla hcl hoe
          rw [← hat] at hcn hcl hoe ⊢
          have hAl : A.length = j := hcl.len.trans HRL.out
          have hzt := zarr_there w2 80
          have hld := World.rangeAt_setCells_same (w2.alloc (.cells #[Value.int .i64 0, Value.int .i64 0, Value.int .i64 0, Value.int .i64 0, Value.int .i64 0, Value.int .i64 0, Value.int .i64 0, Value.int .i64 0, Value.int .i64 0, Value.int .i64 0, Value.int .i64 0, Value.int .i64 0, Value.int .i64 0, Value.int .i64 0, Value.int .i64 0, Value.int .i64 0] 80)) w2.heap.size 0 (arrC at_) (by rw [arrC_len]; exact hzt)
          have hl23 : Lat w2 ((w2.alloc (.cells #[Value.int .i64 0, Value.int .i64 0, Value.int .i64 0, Value.int .i64 0, Value.int .i64 0, Value.int .i64 0, Value.int .i64 0, Value.int .i64 0, Value.int .i64 0, Value.int .i64 0, Value.int .i64 0, Value.int .i64 0, Value.int .i64 0, Value.int .i64 0, Value.int .i64 0, Value.int .i64 0] 80)).setCells w2.heap.size 0 (arrC at_)) := (Fr.setCells _ _ _ _).lat_of (Lat.alloc _ _) (fun k e => by rw [e]; exact Nat.le_refl _)
          obtain ⟨W3, hW3⟩ : ∃ W, W = (w2.alloc (.cells #[Value.int .i64 0, Value.int .i64 0, Value.int .i64 0, Value.int .i64 0, Value.int .i64 0, Value.int .i64 0, Value.int .i64 0, Value.int .i64 0, Value.int .i64 0, Value.int .i64 0, Value.int .i64 0, Value.int .i64 0, Value.int .i64 0, Value.int .i64 0, Value.int .i64 0, Value.int .i64 0] 80)).setCells w2.heap.size 0 (arrC at_) := ⟨_, rfl⟩
          rw [← hW3] at hld hl23
          obtain ⟨X, hX⟩ : ∃ X, X = w2.heap.size := ⟨_, rfl⟩
          have hcell : ∀ W, Lat W3 W → ∀ b, b < 16 → W.cell? ⟨X, b, none⟩ = some (.int .i64 (atI (at_ b))) := fun W hW b hb => by
            have := hld b _ (arrC_get at_ hb)
            rw [Nat.zero_add, ← hX] at this; exact hW.cell_at this
          have HLN := Lib.hid (hla.keep hl23)
          have HCE := Lib.hid hce; have HCN := Lib.hid hcn; have HOE := Lib.hid hoe; have HCL := Lib.hid hcl; have HAL := Lib.hid hAl; have HCELL := Lib.hid hcell
          have HZT := Lib.hid hzt; have HW3 := Lib.hid hW3; have HLW := Lib.hid ((HL0.out.trans hb2).trans hl23); have HLNA := Lib.hid hcl.ln
          clear hla hce hcn hoe hcl hAl hcell hzt hW3 hld hl23 hat hA hb2 HL0 HC hln
          go_upto_region 18 with (refine at_storeA rfl (.tmp 14) (.tmp 82) rfl w2.heap.size 0 at_ rfl rfl HZT.out ?_)
          rw [← HW3.out, ← hX]
          clear HW3 HZT hX
          go_wp2_with fail
          go_loopg [15, 16, 17] k (fun f fv ov bv wx => ∃ b : Nat, b + f = k ∧ bv = .int .i64 b ∧ fv = .bool (decide (cntA at_ b < b)) ∧ Hid (Lat W3 wx ∧ OwnStrs wx W3.heap.size ov (outA A at_ b)))
          case atStart => exact ⟨0, by omega, rfl, rfl, Lat.refl _, Own.nil _ _ _⟩
          case round =>
            obtain ⟨b, hb, rfl, rfl, hrel⟩ := hrel
            by_cases hbk : b < k
            · obtain ⟨f, rfl⟩ : ∃ f, gk = f + 1 := ⟨gk - 1, by omega⟩
              have db : decide (b < k) = true := decide_eq_true hbk
              have b0 : (0 : Int) ≤ (b : Int) := by omega
              have b1 : (b : Int) < 16 := by omega
              have cb := HCELL.out wr hrel.out.1 b (by omega)
              have hcs : cntA at_ (b + 1) = cntA at_ b + (if (at_ b).isSome = true then 1 else 0) := rfl
              have hle : cntA at_ b ≤ b := by rw [cntA_rnk []]; exact rnkT_le _ _
              obtain ⟨q, hq⟩ : ∃ q, q = cntA at_ b := ⟨_, rfl⟩
              rw [← hq] at hcs hle ⊢
              cases hab : at_ b with
              | none =>
                rw [hab] at cb hcs
                have cb' : wr.cell? ⟨X, b, none⟩ = some (.int .i64 (-1)) := cb
                have hd2 : decide (cntA at_ (b + 1) < b + 1) = true := decide_eq_true (by rw [hcs]; simp; omega)
                have hou : outA A at_ (b + 1) = outA A at_ b := by rw [outA, hab]
                have HD2 := Lib.hid hd2; have HOU := Lib.hid hou; have HREL := Lib.hid hrel.out
                clear cb hcs hab hq hrel hd2 hou
                go_wp2_with fail
                go_roundg f
                case measure => omega
                case rel => exact ⟨b + 1, by omega, by go_num, by rw [HD2.out], HREL.out.1, by rw [HOU.out]; exact HREL.out.2⟩
              | some p =>
                rw [hab] at cb hcs
                have cb' : wr.cell? ⟨X, b, none⟩ = some (.int .i64 p) := cb
                have hpn : p < j := by have := (HCL.out.lt b p hab).2; rw [HAL.out] at this; exact this
                have dp : decide ((p : Int) < 0) = false := decide_eq_false (by omega)
                have p0 : (0 : Int) ≤ (p : Int) := by omega
                have p1 : (p : Int) < (j : Int) := by omega
                obtain ⟨lb, lo, rfl, hlc⟩ := ((HLN.out).keep hrel.out.1).at_ (by omega)
                have cd : wr.cell? ⟨lb, lo + p * 17 + 16, none⟩ = some (.string (S (rowG A p).2)) := hlc p hpn 16 (lineF (rowG A p) 16) (lineC_get _ (by omega))
                obtain ⟨sd, hsd⟩ : ∃ s, s = S (rowG A p).2 := ⟨_, rfl⟩
                rw [← hsd] at cd
                have hou : outA A at_ (b + 1) = outA A at_ b ++ [sd] := by rw [outA, hab, hsd]
                have hd2 : decide (cntA at_ (b + 1) < b + 1) = decide (q < b) := by rw [hcs]; exact decide_eq_decide.2 ⟨fun h => by simp at h; omega, fun h => by simp; omega⟩
                have hol := outA_len A at_ b
                have HD2 := Lib.hid hd2; have HOU := Lib.hid hou; have HREL := Lib.hid hrel.out; have HOL := Lib.hid hol
                clear cb hcs hab hq hrel hd2 hou hlc hsd hpn hol
                go_wp2_with (at_builtin; refine app_strM wr W3.heap.size rfl (.tmp 92) (.tmp 100) rfl u16 (outA A at_ b) sd rfl HREL.out.2 rfl (by have := HOL.out; omega) HREL.out.1.size ?_; intro v5 w5 hown5 hfr5 hloc5)
                have hl5 := hfr5.lat_of HREL.out.1 (fun k hk => (Own.lt HREL.out.2 k hk).1)
                rw [← HOU.out] at hown5
                have HL5 := Lib.hid hl5; have HO5 := Lib.hid hown5
                clear hown5 hfr5 hloc5 hl5 HREL
                try go_wp2_with fail
                go_roundg f
                case measure => omega
                case rel => exact ⟨b + 1, by omega, by go_num, by rw [HD2.out], HL5.out, HO5.out⟩
            · obtain rfl : k = b := by omega
              have db : decide (k < k) = false := decide_eq_false (by omega)
              obtain ⟨few, hfew⟩ : ∃ f, f = decide (cntA at_ k < k) := ⟨_, rfl⟩
              obtain ⟨OL, hOL⟩ : ∃ o, o = outA A at_ k := ⟨_, rfl⟩
              rw [← hfew]
              rw [← hOL] at hrel
              have HFEW := Lib.hid hfew; have HOL := Lib.hid hOL; have HREL := Lib.hid hrel.out
              have hzr := fun W => zero_any m W (by omega)
              have HZR := Lib.hid hzr
              clear hrel hfew hOL hzr
              go_wp2_with fail
              go_loopg [18] j (fun f iv wx => ∃ i : Nat, i + f = j ∧ iv = .int .i64 i ∧ Hid ((Lat W3 wx ∧ OwnStrs wx W3.heap.size u16 OL) ∧ ∀ q, q < i → ¬ ((rowG A q).1 = 0 ∧ (rowG A q).2 ≠ noughts m)))
              case atStart => exact ⟨0, by omega, rfl, HREL.out, fun q hq => by omega⟩
              case round =>
                clear HREL
                obtain ⟨i, hi, rfl, hrel⟩ := hrel
                by_cases hlt : i < j
                · obtain ⟨f, rfl⟩ : ∃ f, gk = f + 1 := ⟨gk - 1, by omega⟩
                  have di : decide (i < j) = true := decide_eq_true hlt
                  have hln := HLN.out.keep hrel.out.1.1
                  obtain ⟨lb, lo, rfl, hlc⟩ := hln.at_ (by omega)
                  have i0 : (0 : Int) ≤ (i : Int) := by omega
                  have i1 : (i : Int) < (j : Int) := by omega
                  have hrow := hlc i hlt
                  have hil : i < A.length := by rw [HAL.out]; exact hlt
                  have hlnA := HLNA.out.row hil
                  obtain ⟨v, hv⟩ : ∃ v, v = rowG A i := ⟨_, rfl⟩
                  rw [← hv] at hrow hlnA
                  have hbad : v.1 = 0 ∧ v.2 ≠ noughts m → clashB m A = true := fun h => by
                    unfold clashB
                    exact List.any_eq_true.2 ⟨v, by rw [hv]; exact rowG_mem hil, decide_eq_true h⟩
                  have HV := Lib.hid hv; have HVL := Lib.hid hlnA; have HBAD := Lib.hid hbad; have HOLD := Lib.hid hrel.out.2
                  have HST := Lib.hid (And.intro hrow hrel.out.1)
                  clear hrel hln hlc hrow hil hlnA hv hbad
                  go_wp2_with fail
                  go_loopg [19, 20] k (fun f nv bv wx => ∃ b : Nat, b + f = k ∧ bv = .int .i64 b ∧ nv = .bool (nzB v b) ∧ Hid (wx.rangeAt lb (lo + i * 17) (lineC v) ∧ Lat W3 wx ∧ OwnStrs wx W3.heap.size u16 OL))
                  case atStart => exact ⟨0, by omega, rfl, rfl, HST.out⟩
                  case round =>
                    clear HST
                    obtain ⟨b, hb, rfl, rfl, hrel⟩ := hrel
                    by_cases hbk : b < k
                    · obtain ⟨f, rfl⟩ : ∃ f, gk = f + 1 := ⟨gk - 1, by omega⟩
                      have db : decide (b < k) = true := decide_eq_true hbk
                      have b0 : (0 : Int) ≤ (b : Int) := by omega
                      have b1 : (b : Int) < 16 := by omega
                      have cb : wr.cell? ⟨lb, lo + i * 17 + b, none⟩ = some (.bool (v.1.testBit b)) := by
                        rw [hrel.out.1 b (lineF v b) (lineC_get v (by omega))]; unfold lineF; rw [if_pos (by omega)]
                      have hnz : nzB v (b + 1) = (nzB v b && !v.1.testBit b) := rfl
                      obtain ⟨T, hT⟩ : ∃ T, T = v.1.testBit b := ⟨_, rfl⟩
                      obtain ⟨U, hU⟩ : ∃ U, U = nzB v b := ⟨_, rfl⟩
                      rw [← hT] at cb hnz
                      rw [← hU] at hnz ⊢
                      have HNZ := Lib.hid hnz; have HR := Lib.hid hrel.out
                      clear hnz hrel hT hU
                      cases U <;> cases T
                      all_goals
                        go_wp2_with fail
                        go_roundg f
                        case measure => omega
                        case rel => exact ⟨b + 1, by omega, by go_num, by rw [HNZ.out]; rfl, HR.out⟩
                    · obtain rfl : k = b := by omega
                      have db : decide (k < k) = false := decide_eq_false (by omega)
                      have HR := Lib.hid hrel.out
                      clear hrel
                      have hnzi := nzB_iff (v := v) HVL.out.2
                      obtain ⟨NZ, hNZ⟩ : ∃ N, N = nzB v k := ⟨_, rfl⟩
                      rw [← hNZ] at hnzi ⊢
                      have HNQ := Lib.hid hnzi
                      clear hNZ hnzi
                      cases NZ with
                      | false =>
                        have hok : ∀ q, q < i + 1 → ¬ ((rowG A q).1 = 0 ∧ (rowG A q).2 ≠ noughts m) := fun q hq h => by
                          by_cases e : q = i
                          · rw [e, ← HV.out] at h
                            have := HNQ.out.2 h.1
                            cases this
                          · exact HOLD.out q (by omega) h
                        have HOK := Lib.hid hok
                        clear hok
                        go_upto_region 34 with fail
                        go_quiet (fail)
                        have hr2 : ∀ q, Lat W3 (wr.drewN q) ∧ OwnStrs (wr.drewN q) W3.heap.size u16 OL := fun q => ⟨HR.out.2.1.trans (Lat.drewN _ q), Own.keep HR.out.2.2 (Lat.drewN _ q)⟩
                        have HR2 := Lib.hid hr2
                        clear hr2 HR
                        go_wp2_with fail
                        go_roundg f
                        case measure => omega
                        case rel => exact ⟨i + 1, by omega, by go_num, HR2.out _, HOK.out⟩
                      | true =>
                        have cd : wr.cell? ⟨lb, lo + i * 17 + 16, none⟩ = some (.string (S v.2)) := HR.out.1 16 (lineF v 16) (lineC_get v (by omega))
                        by_cases hz : v.2 = noughts m
                        · have hok : ∀ q, q < i + 1 → ¬ ((rowG A q).1 = 0 ∧ (rowG A q).2 ≠ noughts m) := fun q hq h => by
                            by_cases e : q = i
                            · rw [e, ← HV.out] at h
                              exact h.2 hz
                            · exact HOLD.out q (by omega) h
                          have e2 : (v.2 != noughts m) = false := by rw [hz]; simp
                          have e3 : (v.2 == noughts m) = true := by rw [hz]; simp
                          have HOK := Lib.hid hok
                          clear hok hz
                          go_upto_region 34 with fail
                          have hF : wr.drew.cell? ⟨lb, lo + i * 17 + 16, none⟩ = some (.string (S v.2)) := cd
                          refine wp_region_gate (fun w' => w'.cell? ⟨lb, lo + i * 17 + 16, none⟩ = some (.string (S v.2))) (fun _ => True) 1000 (by kernel_rfl) ?_
                          refine gate_takeF (i := 0) (v := ?_) rfl (by kernel_rfl) (by kernel_rfl) (by kernel_rfl) (fun _ _ _ h => h) (by decide) ⟨hF, fun _ => trivial⟩ (Or.inl ⟨by kernel_rfl, ?_⟩) ?_
                          rotate_left
                          · intro wq hSw; go_simp; rfl
                          simp only [Act.put]
                          refine gate_takeF (i := 1) (v := ?_) rfl (by kernel_rfl) (by kernel_rfl) (by kernel_rfl) (fun _ _ _ h => h) (by decide) ⟨hF, fun _ => trivial⟩ (Or.inl ⟨by kernel_rfl, ?_⟩) ?_
                          rotate_left
                          · intro wq hSw; go_simp; rfl
                          simp only [Act.put]
                          refine gate_takeF (i := 2) (v := ?_) rfl (by kernel_rfl) (by kernel_rfl) (by kernel_rfl) (fun _ _ _ h => h) (by decide) ⟨hF, fun _ => trivial⟩ (Or.inl ⟨by kernel_rfl, ?_⟩) ?_
                          rotate_left
                          · intro wq hSw; go_simp; rfl
                          simp only [Act.put]
                          refine gate_takeF (i := 3) (v := ?_) rfl (by kernel_rfl) (by kernel_rfl) (by kernel_rfl) (fun _ _ _ h => h) (by decide) ⟨hF, fun _ => trivial⟩ (Or.inl ⟨by kernel_rfl, ?_⟩) ?_
                          rotate_left
                          · intro wq hSw; go_simp; rfl
                          simp only [Act.put]
                          refine gate_takeF (i := 4) (v := ?_) rfl (by kernel_rfl) (by kernel_rfl) (by kernel_rfl) (fun _ _ _ h => h) (by decide) ⟨hF, fun _ => trivial⟩ (Or.inl ⟨by kernel_rfl, ?_⟩) ?_
                          rotate_left
                          · intro wq hSw; go_simp; rfl
                          simp only [Act.put]
                          refine gate_takeF (i := 5) (v := ?_) rfl (by kernel_rfl) (by kernel_rfl) (by kernel_rfl) (fun _ _ _ h => h) (by decide) ⟨hF, fun _ => trivial⟩ (Or.inl ⟨by kernel_rfl, ?_⟩) ?_
                          rotate_left
                          · intro wq hSw; go_simp; rfl
                          simp only [Act.put]
                          refine gate_takeF (i := 6) (v := ?_) rfl (by kernel_rfl) (by kernel_rfl) (by kernel_rfl) (fun _ _ _ h => h) (by decide) ⟨hF, fun _ => trivial⟩ (Or.inl ⟨by kernel_rfl, ?_⟩) ?_
                          rotate_left
                          · intro wq hSw; go_simp; rfl
                          simp only [Act.put]
                          refine gate_takeF (i := 7) (v := ?_) rfl (by kernel_rfl) (by kernel_rfl) (by kernel_rfl) (fun _ _ _ h => h) (by decide) ⟨hF, fun _ => trivial⟩ (Or.inl ⟨by kernel_rfl, ?_⟩) ?_
                          rotate_left
                          · intro wq hSw; go_simp; rfl
                          simp only [Act.put]
                          refine gate_one (i := 8) (by kernel_rfl) rfl (fun K hK => ?_)
                          go_simp
                          refine (HZR.out _).mono ?_
                          rintro e w5 ⟨rfl, hb5⟩
                          have hF' : w5.cell? ⟨lb, lo + i * 17 + 16, none⟩ = some (.string (S v.2)) := hb5.cell_at hF
                          refine hK _ _ ⟨hF', fun _ => trivial⟩ ?_
                          clear hK K
                          have HR9 := Lib.hid (And.intro (HR.out.2.1.trans ((Lat.drew _).trans hb5)) (Own.keep HR.out.2.2 ((Lat.drew _).trans hb5)))
                          clear hF hb5 HR cd
                          have hF := hF'
                          clear hF'
                          refine gate_takeF (i := 9) (v := ?_) rfl (by kernel_rfl) (by kernel_rfl) (by kernel_rfl) (fun _ _ _ h => h) (by decide) ⟨hF, fun _ => trivial⟩ (Or.inl ⟨by kernel_rfl, ?_⟩) ?_
                          rotate_left
                          · intro wq hSw; go_simp; rfl
                          simp only [Act.put]
                          refine gate_takeF (i := 10) (v := ?_) rfl (by kernel_rfl) (by kernel_rfl) (by kernel_rfl) (fun _ _ _ h => h) (by decide) ⟨hF, fun _ => trivial⟩ (Or.inl ⟨by kernel_rfl, ?_⟩) ?_
                          rotate_left
                          · intro wq hSw; go_simp; rfl
                          simp only [Act.put]
                          refine gate_done (by kernel_rfl) ?_ _
                          clear hF
                          simp only [List.getElem_toArray, List.getElem_cons_succ, List.getElem_cons_zero]
                          go_simp
                          go_wp2_with fail
                          go_roundg f
                          case measure => omega
                          case rel => exact ⟨i + 1, by omega, by go_num, HR9.out, HOK.out⟩
                        · have e2 : (v.2 != noughts m) = true := by rw [bne_iff_ne]; exact hz
                          have e3 : (v.2 == noughts m) = false := beq_eq_false_iff_ne.2 hz
                          have hcl := HBAD.out ⟨HNQ.out.1 rfl, hz⟩
                          rw [HCE.out] at hcl
                          have hend : rslE k ds = 7 := by
                            unfold rslE
                            rw [if_pos (by rw [← HRDF.out, HLEN.out, ← HRL.out]; exact hcl)]
                          have HEND := Lib.hid hend
                          clear hz hcl hend
                          go_upto_region 34 with fail
                          have hF : wr.drew.cell? ⟨lb, lo + i * 17 + 16, none⟩ = some (.string (S v.2)) := cd
                          refine wp_region_gate (fun w' => w'.cell? ⟨lb, lo + i * 17 + 16, none⟩ = some (.string (S v.2))) (fun _ => True) 1000 (by kernel_rfl) ?_
                          refine gate_takeF (i := 0) (v := ?_) rfl (by kernel_rfl) (by kernel_rfl) (by kernel_rfl) (fun _ _ _ h => h) (by decide) ⟨hF, fun _ => trivial⟩ (Or.inl ⟨by kernel_rfl, ?_⟩) ?_
                          rotate_left
                          · intro wq hSw; go_simp; rfl
                          simp only [Act.put]
                          refine gate_takeF (i := 1) (v := ?_) rfl (by kernel_rfl) (by kernel_rfl) (by kernel_rfl) (fun _ _ _ h => h) (by decide) ⟨hF, fun _ => trivial⟩ (Or.inl ⟨by kernel_rfl, ?_⟩) ?_
                          rotate_left
                          · intro wq hSw; go_simp; rfl
                          simp only [Act.put]
                          refine gate_takeF (i := 2) (v := ?_) rfl (by kernel_rfl) (by kernel_rfl) (by kernel_rfl) (fun _ _ _ h => h) (by decide) ⟨hF, fun _ => trivial⟩ (Or.inl ⟨by kernel_rfl, ?_⟩) ?_
                          rotate_left
                          · intro wq hSw; go_simp; rfl
                          simp only [Act.put]
                          refine gate_takeF (i := 3) (v := ?_) rfl (by kernel_rfl) (by kernel_rfl) (by kernel_rfl) (fun _ _ _ h => h) (by decide) ⟨hF, fun _ => trivial⟩ (Or.inl ⟨by kernel_rfl, ?_⟩) ?_
                          rotate_left
                          · intro wq hSw; go_simp; rfl
                          simp only [Act.put]
                          refine gate_takeF (i := 4) (v := ?_) rfl (by kernel_rfl) (by kernel_rfl) (by kernel_rfl) (fun _ _ _ h => h) (by decide) ⟨hF, fun _ => trivial⟩ (Or.inl ⟨by kernel_rfl, ?_⟩) ?_
                          rotate_left
                          · intro wq hSw; go_simp; rfl
                          simp only [Act.put]
                          refine gate_takeF (i := 5) (v := ?_) rfl (by kernel_rfl) (by kernel_rfl) (by kernel_rfl) (fun _ _ _ h => h) (by decide) ⟨hF, fun _ => trivial⟩ (Or.inl ⟨by kernel_rfl, ?_⟩) ?_
                          rotate_left
                          · intro wq hSw; go_simp; rfl
                          simp only [Act.put]
                          refine gate_takeF (i := 6) (v := ?_) rfl (by kernel_rfl) (by kernel_rfl) (by kernel_rfl) (fun _ _ _ h => h) (by decide) ⟨hF, fun _ => trivial⟩ (Or.inl ⟨by kernel_rfl, ?_⟩) ?_
                          rotate_left
                          · intro wq hSw; go_simp; rfl
                          simp only [Act.put]
                          refine gate_takeF (i := 7) (v := ?_) rfl (by kernel_rfl) (by kernel_rfl) (by kernel_rfl) (fun _ _ _ h => h) (by decide) ⟨hF, fun _ => trivial⟩ (Or.inl ⟨by kernel_rfl, ?_⟩) ?_
                          rotate_left
                          · intro wq hSw; go_simp; rfl
                          simp only [Act.put]
                          refine gate_one (i := 8) (by kernel_rfl) rfl (fun K hK => ?_)
                          go_simp
                          refine (HZR.out _).mono ?_
                          rintro e w5 ⟨rfl, hb5⟩
                          have hF' : w5.cell? ⟨lb, lo + i * 17 + 16, none⟩ = some (.string (S v.2)) := hb5.cell_at hF
                          refine hK _ _ ⟨hF', fun _ => trivial⟩ ?_
                          clear hK K
                          have HR9 := Lib.hid (And.intro (HR.out.2.1.trans ((Lat.drew _).trans hb5)) (Own.keep HR.out.2.2 ((Lat.drew _).trans hb5)))
                          clear hF hb5 HR cd
                          have hF := hF'
                          clear hF'
                          refine gate_takeF (i := 9) (v := ?_) rfl (by kernel_rfl) (by kernel_rfl) (by kernel_rfl) (fun _ _ _ h => h) (by decide) ⟨hF, fun _ => trivial⟩ (Or.inl ⟨by kernel_rfl, ?_⟩) ?_
                          rotate_left
                          · intro wq hSw; go_simp; rfl
                          simp only [Act.put]
                          refine gate_takeF (i := 10) (v := ?_) rfl (by kernel_rfl) (by kernel_rfl) (by kernel_rfl) (fun _ _ _ h => h) (by decide) ⟨hF, fun _ => trivial⟩ (Or.inl ⟨by kernel_rfl, ?_⟩) ?_
                          rotate_left
                          · intro wq hSw; go_simp; rfl
                          simp only [Act.put]
                          refine gate_done (by kernel_rfl) ?_ _
                          clear hF
                          simp only [List.getElem_toArray, List.getElem_cons_succ, List.getElem_cons_zero]
                          go_simp
                          go_wp2_with fail
                          go_ret2
                          exact ⟨none, 0, 0, by rw [HEND.out]; rfl, by rw [rslL_bad HEND.out]; exact StrsAt.nil _, HLW.out.trans HR9.out.1⟩
                · obtain rfl : i = j := by omega
                  have di : decide (i < i) = false := decide_eq_false (by omega)
                  have hno : clashB m A = false := by
                    unfold clashB
                    rw [List.any_eq_false]
                    intro u hu hd
                    obtain ⟨q, hq, rfl⟩ := mem_rowG hu
                    exact hrel.out.2 q (by rw [← HAL.out]; exact hq) (of_decide_eq_true hd)
                  rw [HCE.out] at hno
                  have hcn := HCN.out hno
                  have hs0 : slvC k (rowsD k ds) ds.length 0 = false := by rw [← HRDF.out, HLEN.out, ← HRL.out]; exact hno
                  have hfew := HFEW.out
                  have HST := Lib.hid hrel.out.1
                  cases few with
                  | true =>
                    have hlt2 := of_decide_eq_true hfew.symm
                    rw [hcn] at hlt2
                    have hend : rslE k ds = 8 := by
                      unfold rslE
                      rw [if_neg (by rw [hs0]; decide), if_pos (by rw [← HRDF.out]; exact hlt2)]
                    have HEND := Lib.hid hend
                    clear hrel hno hcn hs0 hfew hlt2 hend
                    go_wp2_with fail
                    go_ret2
                    exact ⟨none, 0, 0, by rw [HEND.out]; rfl, by rw [rslL_bad HEND.out]; exact StrsAt.nil _, HLW.out.trans HST.out.1⟩
                  | false =>
                    have hge := of_decide_eq_false hfew.symm
                    have hle : cntA at_ k ≤ k := by rw [cntA_rnk []]; exact rnkT_le _ _
                    have hfull : cntA at_ k = k := by omega
                    have hend : rslE k ds = 0 := by
                      unfold rslE
                      rw [if_neg (by rw [hs0]; decide), if_neg (by rw [← HRDF.out, ← hcn]; exact hge)]
                    have hall := cntA_full hfull
                    have hol : OL = (List.range k).map (fun b => S (outF (tabT k R) k k b)) := by
                      rw [HOL.out]
                      exact outA_full fun b hb => by
                        obtain ⟨p, hp⟩ := hall b hb
                        exact ⟨p, hp, HOE.out hno hfull b p hb hp⟩
                    have hlens : ∀ s ∈ OL, s.size ≤ 8 := fun s hs => by
                      rw [HOL.out] at hs
                      exact outA_size (fun b p hp => by
                        have h9 := (HLNA.out.row (HCL.out.lt b p hp).2).1
                        omega) k s hs
                    obtain ⟨q9, hq9⟩ : ∃ q, OL.length = q := ⟨_, rfl⟩
                    obtain ⟨oa, oc, ho1, ho2⟩ := strs_own HST.out.2 hlens hq9
                    subst ho1
                    have hol2 := hol
                    rw [HRDF.out] at hol2
                    rw [hol2] at ho2
                    have HEND := Lib.hid hend; have HO2 := Lib.hid ho2
                    clear hrel hno hcn hs0 hfew hge hle hfull hend hall hol hlens ho2 hol2 hq9
                    go_wp2_with fail
                    go_ret2
                    exact ⟨_, _, _, by rw [HEND.out]; rfl, by unfold rslL; rw [if_pos HEND.out]; exact HO2.out, HLW.out.trans HST.out.1⟩
end Go.Proofs.YtcpookgbneoilaaDoor

namespace Go.Proofs.YtcpookgbneoilaaDoor
open Go.ChangeShapes Go.WideShapes Go.ChangeAt Go.RowKit

set_option maxHeartbeats 400000 in
theorem sameStrs_yes (a : Option Addr) (n cap : Nat) (zs : List ByteArray) (b : Option Addr) (cap2 : Nat) (w : World) (h : StrsAt w a n cap zs) (h2 : StrsAt w b n cap2 zs) :
    Calls Tryd.prog 26 #[.slice a n cap, .slice b n cap2] w fun e w' => e = .returned (.bool true) ∧ Lat w w' := by
  have hcap2 := h.row.cap
  have hle2 := h.row.le
  unfold maxLen at hcap2
  have H1 := Lib.hid h
  have H2 := Lib.hid h2
  have dn : ((n : Int) != (n : Int)) = false := by simp
  clear h h2
  go_enter Tryd.func26, Tryd.ntmps26
  go_wp2
  go_loopw [5] (fun i wr => ∃ k : Nat, k ≤ n ∧ i = .int .i64 k ∧ Hid (Lat w wr)) (fun i _ => n - (intOf i).toNat)
  case atStart => exact ⟨0, Nat.zero_le _, rfl, Lat.refl _⟩
  case round =>
    obtain ⟨k, hk, rfl, hrel⟩ := hrel
    by_cases hlt : k < n
    · obtain ⟨b1, o1, rfl, hc1⟩ := H1.out.row.at_ (by omega)
      obtain ⟨b2, o2, rfl, hc2⟩ := H2.out.row.at_ (by omega)
      have c1 := hrel.out.cell_at (hc1 k hlt)
      have c2 := hrel.out.cell_at (hc2 k hlt)
      obtain ⟨z, hz⟩ : ∃ z, z = zs.getD k ByteArray.empty := ⟨_, rfl⟩
      rw [← hz] at c1 c2
      clear hc1 hc2 hz
      go_wp2
      go_quiet (fail)
      go_wp2
      go_roundw
      case rel => exact ⟨k + 1, by omega, by go_num, Lat.trans hrel.out (Lat.drewN _ _)⟩
      case measure => simp [intOf]; omega
    · go_wp2
      go_ret
      exact ⟨rfl, hrel.out⟩
end Go.Proofs.YtcpookgbneoilaaDoor

namespace Go.Proofs.YtcpookgbneoilaaDoor
open Go.ChangeShapes Go.WideShapes Go.ChangeAt Go.RowKit

set_option maxHeartbeats 4000000 in
set_option maxRecDepth 100000 in
theorem solve_bad (k m : Int) (a : Option Addr) (n cap : Nat) (ds : List Dr) (w : World) (h : DropsAt w a n cap ds) (hE : preE k m ds ≠ 0) :
    Calls Tryd.prog 25 #[.int .i64 k, .int .i64 m, .slice a n cap] w fun e w' => e = .returned (.tuple #[.slice none 0 0, errv (preE k m ds)]) ∧ Lat w w' := by
  have hlen := h.len
  have hcm := h.rows.cap
  have hle := h.rows.le
  unfold maxLen at hcm
  by_cases h60 : 60 < n
  · have e1 : preE k m ds = 4 := by unfold preE; rw [if_pos (by omega)]
    have d1 : decide ((60 : Int) < (n : Int)) = true := decide_eq_true (by omega)
    rw [e1]
    clear h e1 h60 hlen hE
    go_enter Tryd.func25, Tryd.ntmps25
    go_wp2_with fail
    go_ret2
    exact ⟨rfl, Lat.refl w⟩
  have d1 : decide ((60 : Int) < (n : Int)) = false := decide_eq_false (by omega)
  by_cases hk : k < 1 ∨ 16 < k ∨ m < 1 ∨ 8 < m
  · have e1 : preE k m ds = 1 := by unfold preE; rw [if_neg (by omega), if_pos hk]
    rw [e1]
    clear h e1 h60 hlen hE
    by_cases hk2 : k < 1 ∨ 16 < k
    · have HK := Lib.hid hk2
      clear hk hk2
      go_enter Tryd.func25, Tryd.ntmps25
      go_wp2_with (go_at_call 27; refine (dblocks_no k _ HK.out).mono ?_; rintro e w' ⟨rfl, rfl⟩)
      go_ret2
      exact ⟨rfl, Lat.refl _⟩
    · have k1 : 1 ≤ k := by omega
      have k2 : k ≤ 16 := by omega
      have hm : m < 1 ∨ 8 < m := by omega
      have HM := Lib.hid hm
      clear hk hk2 hm
      go_enter Tryd.func25, Tryd.ntmps25
      go_wp2_with (first
        | (go_at_call 27; refine (dblocks_yes k _ k1 k2).mono ?_; rintro e w' ⟨rfl, rfl⟩)
        | (go_at_call 28; refine (size_no m _ HM.out).mono ?_; rintro e w' ⟨rfl, rfl⟩))
      go_ret2
      exact ⟨rfl, Lat.refl _⟩
  have k1 : 1 ≤ k := by omega
  have k2 : k ≤ 16 := by omega
  have m1 : 1 ≤ m := by omega
  have m2 : m ≤ 8 := by omega
  have hP : preE k m ds = fbE k m ds := by unfold preE; rw [if_neg (by omega), if_neg hk]
  rw [hP] at hE ⊢
  have H := Lib.hid h; have HLEN := Lib.hid hlen; have HE := Lib.hid hE
  obtain ⟨FB, hFB⟩ : ∃ F, F = fbE k m ds := ⟨_, rfl⟩
  rw [← hFB]
  have HFB0 := Lib.hid hFB
  clear h hP hlen hk h60 hE hFB
  go_enter Tryd.func25, Tryd.ntmps25
  go_wp2_with (first
    | (go_at_call 27; refine (dblocks_yes k _ k1 k2).mono ?_; rintro e w' ⟨rfl, rfl⟩)
    | (go_at_call 28; refine (size_yes m _ m1 m2).mono ?_; rintro e w' ⟨rfl, rfl⟩))
  go_loopg [33] n (fun f iv wx => ∃ i : Nat, i + f = n ∧ iv = .int .i64 i ∧ Hid (Lat w wx ∧ fbE k m (ds.drop i) = fbE k m ds))
  case atStart => exact ⟨0, by omega, rfl, Lat.refl w, rfl⟩
  case round =>
    obtain ⟨i, hi, rfl, hrel⟩ := hrel
    by_cases hlt : i < n
    · obtain ⟨f, rfl⟩ : ∃ f, gk = f + 1 := ⟨gk - 1, by omega⟩
      have di : decide (i < n) = true := decide_eq_true hlt
      have hil : i < ds.length := by rw [HLEN.out]; exact hlt
      obtain ⟨d, hd⟩ : ∃ d, ds[i]? = some d := ⟨ds[i], List.getElem?_eq_getElem hil⟩
      obtain ⟨b, o, rfl, hc⟩ := (H.out.keep hrel.out.1).at_ (by omega)
      obtain ⟨c0, c1⟩ := hc i d hd
      have hfb := fbE_drop (k := k) (m := m) hd
      rw [hrel.out.2, ← HFB0.out] at hfb
      have hfd := hrel.out.2
      obtain ⟨s, t⟩ := d
      have hrd := dchk_tells k m s t
      obtain ⟨x, hx⟩ : ∃ x, x = drpE k m s t := ⟨_, rfl⟩
      rw [← hx] at hrd hfb
      have i0 : (0 : Int) ≤ (i : Int) := by omega
      have i1 : (i : Int) < (n : Int) := by omega
      have HFBD := Lib.hid hfb; have HL := Lib.hid hrel.out.1
      clear hrel hc hd hfb hx hil hfd
      by_cases hx0 : x = 0
      · subst hx0
        rw [errv_zero rfl] at hrd
        have HRD := Lib.hid hrd
        have hf2 := HFBD.out
        rw [if_neg (fun e => e rfl), HFB0.out] at hf2
        have HF2 := Lib.hid hf2.symm
        clear hf2 hrd
        go_wp2_with (go_at_call 34; refine (HRD.out _).mono ?_; rintro e w5 ⟨rfl, hb5⟩)
        have HL5 := Lib.hid (Lat.trans (Lat.trans HL.out (Lat.alloc _ _)) hb5)
        clear hb5
        go_roundg f
        case measure => omega
        case rel => exact ⟨i + 1, by omega, by go_num, HL5.out, HF2.out⟩
      · rw [errv_pos hx0] at hrd
        have HRD := Lib.hid hrd
        have hf2 := HFBD.out
        rw [if_pos hx0] at hf2
        have HX0 := Lib.hid hx0
        have HF2 := Lib.hid hf2
        clear hf2 hrd hx0
        go_wp2_with (go_at_call 34; refine (HRD.out _).mono ?_; rintro e w5 ⟨rfl, hb5⟩)
        go_ret2
        exact ⟨by rw [HF2.out, errv_pos HX0.out]; rfl, Lat.trans (Lat.trans HL.out (Lat.alloc _ _)) hb5⟩
    · obtain rfl : i = n := by omega
      exfalso
      have h2 := hrel.out.2
      rw [List.drop_eq_nil_of_le (by rw [HLEN.out]; exact Nat.le_refl _)] at h2
      exact HE.out h2.symm

def slvE (k m : Int) (ds : List Dr) : Nat := if preE k m ds ≠ 0 then preE k m ds else rslE k.toNat ds
def slvS (k m : Int) (ds : List Dr) : List ByteArray := if preE k m ds ≠ 0 then [] else rslL k.toNat ds
theorem pre_ok {k m : Int} {ds : List Dr} (hE : preE k m ds = 0) : ds.length ≤ 60 ∧ 1 ≤ k ∧ k ≤ 16 ∧ 1 ≤ m ∧ m ≤ 8 ∧ ∀ d ∈ ds, drpE k m d.s d.t = 0 := by
  unfold preE at hE
  by_cases h60 : 60 < ds.length
  · rw [if_pos h60] at hE; cases hE
  rw [if_neg h60] at hE
  by_cases hk : k < 1 ∨ 16 < k ∨ m < 1 ∨ 8 < m
  · rw [if_pos hk] at hE; cases hE
  rw [if_neg hk] at hE
  exact ⟨by omega, by omega, by omega, by omega, by omega, fbE_zero hE⟩
theorem refSolve (k m : Int) (a : Option Addr) (n cap : Nat) (ds : List Dr) (w : World) (h : DropsAt w a n cap ds) :
    Calls Tryd.prog 24 #[.int .i64 k, .int .i64 m, .slice a n cap] w fun e w' => ∃ b q c, e = .returned (.tuple #[.slice b q c, .int .i64 (slvE k m ds : Nat)]) ∧ StrsAt w' b q c (slvS k m ds) ∧ Lat w w' := by
  by_cases hE : preE k m ds = 0
  · obtain ⟨_, h1, h2, h3, h4, _⟩ := pre_ok hE
    obtain ⟨q, rfl⟩ : ∃ q : Nat, k = q := ⟨k.toNat, by omega⟩
    obtain ⟨r, rfl⟩ : ∃ r : Nat, m = r := ⟨m.toNat, by omega⟩
    have := refSolve_ok q r a n cap ds w h hE
    unfold slvE slvS
    rw [if_neg (fun e => e hE), if_neg (fun e => e hE), Int.toNat_natCast]
    exact this
  · refine (refSolve_bad k m a n cap ds w h hE).mono ?_
    rintro e w' ⟨rfl, hb⟩
    unfold slvE slvS
    rw [if_pos hE, if_pos hE]
    exact ⟨none, 0, 0, rfl, StrsAt.nil _, hb⟩
theorem blk_strsK {w : World} {g k : Nat} {o : Nat → List UInt8} (h : Blk w g k (fun j => .string (S (o j)))) (hk : k ≤ 16) (ho : ∀ j, j < k → (o j).length ≤ 8) : StrsAt w (some ⟨g, 0, none⟩) k k ((List.range k).map fun j => S (o j)) :=
  ⟨by simp, ⟨Nat.le_refl _, by unfold maxLen; omega, fun _ => ⟨g, 0, rfl, fun j hj => by
    rw [Nat.zero_add, h.cell j hj, List.getD_eq_getElem?_getD, List.getElem?_map, List.getElem?_range hj]; rfl⟩⟩, fun s hs => by
    obtain ⟨j, hj, rfl⟩ := List.mem_map.1 hs
    have := ho j (List.mem_range.1 hj)
    rw [S_size]; unfold maxLen; omega⟩
theorem solve_any (k m : Int) (a : Option Addr) (n cap : Nat) (ds : List Dr) (w : World) (h : DropsAt w a n cap ds) :
    Calls Tryd.prog 25 #[.int .i64 k, .int .i64 m, .slice a n cap] w fun e w' => ∃ b q c, e = .returned (.tuple #[.slice b q c, errv (slvE k m ds)]) ∧ StrsAt w' b q c (slvS k m ds) ∧ Lat w w' := by
  by_cases hE : preE k m ds = 0
  · obtain ⟨hn, h1, h2, h3, h4, hd⟩ := pre_ok hE
    obtain ⟨q, rfl⟩ : ∃ q : Nat, k = q := ⟨k.toNat, by omega⟩
    obtain ⟨r, rfl⟩ : ∃ r : Nat, m = r := ⟨m.toNat, by omega⟩
    have hlen := h.len
    rw [hlen] at hn
    have hs := solve_valid q r a n cap ds w h hn (by omega) (by omega) (by omega) (by omega) hd
    unfold slvE slvS
    rw [if_neg (fun e => e hE), if_neg (fun e => e hE), Int.toNat_natCast]
    refine hs.mono ?_
    rintro e w' ⟨hb, hc⟩
    have hln := rowsD_ln (k := q) (m := r) (by omega) hd
    rw [← hlen] at hc
    rcases hc with ⟨hC, rfl⟩ | ⟨hC, hR, rfl⟩ | ⟨hC, hR, g, rfl, hblk⟩
    · have e7 : rslE q ds = 7 := by unfold rslE; rw [if_pos hC]
      exact ⟨none, 0, 0, by rw [e7]; rfl, by rw [rslL_bad e7]; exact StrsAt.nil _, hb⟩
    · have e8 : rslE q ds = 8 := by unfold rslE; rw [if_neg (by rw [hC]; decide), if_pos hR]
      exact ⟨none, 0, 0, by rw [e8]; rfl, by rw [rslL_bad e8]; exact StrsAt.nil _, hb⟩
    · have e0 : rslE q ds = 0 := by unfold rslE; rw [if_neg (by rw [hC]; decide), if_neg (by omega)]
      refine ⟨some ⟨g, 0, none⟩, q, q, by rw [e0]; rfl, ?_, hb⟩
      unfold rslL
      rw [if_pos e0]
      have hst := st_slv0 (by omega) hln.wf hln.lt (by rw [show (rowsD q ds).length = ds.length from List.length_map _]; exact hC)
      have hful : ∀ b, b < q → tabT q (rowsD q ds) b ≠ none := fun b hb e => by
        have := rnkT_full hR b hb
        rw [e] at this; cases this
      exact blk_strsK hblk (by omega) (fun j hj => by rw [outF_len hst.ti hful q (Nat.le_refl q) j (by omega) hj]; omega)
  · refine (solve_bad k m a n cap ds w h hE).mono ?_
    rintro e w' ⟨rfl, hb⟩
    unfold slvE slvS
    rw [if_pos hE, if_pos hE]
    exact ⟨none, 0, 0, rfl, StrsAt.nil _, hb⟩

set_option maxHeartbeats 8000000 in
set_option maxRecDepth 100000 in
theorem walk_solveTells (k m : Int) (a : Option Addr) (n cap : Nat) (zs : List Int) (a2 : Option Addr) (n2 c2 : Nat) (ds : List Dr) (w : World) (hg : Hnd w) (_ : (Lit.int .i64 k).wf = true) (_ : (Lit.int .i64 m).wf = true) (h : IntsAt w a n cap zs) (h2 : DropsAt w a2 n2 c2 ds) :
    Calls Tryd.prog 5 #[.int .i64 k, .int .i64 m, .slice a n cap, .slice a2 n2 c2] w fun e w' => e = .returned (.bool true) ∧ Lat w w' := by
  have hlen := h.len
  have hse := refSeeds k a n cap zs w h
  have hsr := fun W (hW : Lat w W) => srank_any k a n cap zs W (h.keep hW)
  have hrs := fun W (hW : Lat w W) => refSolve k m a2 n2 c2 ds W (h2.keep hW)
  have hps := fun W (hW : Lat w W) => solve_any k m a2 n2 c2 ds W (h2.keep hW)
  obtain ⟨E, hE⟩ : ∃ E, E = rdyE k zs := ⟨_, rfl⟩
  obtain ⟨RK, hRK⟩ : ∃ r, r = rankR k zs := ⟨_, rfl⟩
  obtain ⟨SE, hSE⟩ : ∃ e, e = slvE k m ds := ⟨_, rfl⟩
  obtain ⟨SS, hSS⟩ : ∃ s, s = slvS k m ds := ⟨_, rfl⟩
  rw [← hE] at hse hsr
  rw [← hRK] at hsr
  rw [← hSE, ← hSS] at hrs hps
  have hrk : E = 0 → ∀ W, Lat w W → Calls Tryd.prog 18 #[.int .i64 k, .slice a n cap] W fun e w' => e = .returned (.int .i64 (RK : Nat)) ∧ Lat W w' := fun e0 W hW => by
    obtain ⟨h60, h1, h2, hz⟩ := rdyE_zero (hE.symm.trans e0)
    obtain ⟨q, rfl⟩ : ∃ q : Nat, k = q := ⟨k.toNat, by omega⟩
    have := refRank q a n cap zs W (h.keep hW) (by omega) (by omega) hz (by omega)
    rw [hRK]
    unfold rankR
    rw [← hE, if_pos e0, Int.toNat_natCast]
    exact this
  have hr0 : E ≠ 0 → RK = 0 := fun e0 => by rw [hRK]; unfold rankR; rw [← hE, if_neg e0]
  have HG := Lib.hid hg; have HSE := Lib.hid hse; have HSR := Lib.hid hsr; have HRS := Lib.hid hrs; have HPS := Lib.hid hps; have HRK := Lib.hid hrk; have HR0 := Lib.hid hr0
  clear hg hse hsr hrs hps hrk hr0 h h2 hE hRK hSE hSS hlen
  go_enter Tryd.func5, Tryd.ntmps5
  go_wp2_with fail
  refine HSE.out.mono ?_
  rintro e w1 ⟨rfl, rfl⟩
  go_upto_if 21 with fail
  go_cut [10] (fun rv wx => rv = .int .i64 (RK : Nat) ∧ Hid (Lat w wx))
  case first =>
    by_cases e0 : E = 0
    · have dE : ((E : Int) == 0) = true := by rw [beq_iff_eq]; omega
      have HRK1 := Lib.hid (HRK.out e0 w (Lat.refl w))
      clear e0 HRK HR0
      go_wp2_with fail
      refine HRK1.out.mono ?_
      rintro e w2 ⟨rfl, hb2⟩
      go_wp2_with fail
      go_meet
      exact ⟨rfl, hb2⟩
    · have dE : ((E : Int) == 0) = false := by rw [beq_eq_false_iff_ne]; omega
      have HRZ := Lib.hid (HR0.out e0)
      clear e0 HRK HR0
      go_wp2_with fail
      go_meet
      exact ⟨by rw [HRZ.out]; rfl, Lat.refl w⟩
  case rest =>
    obtain ⟨rfl, hl⟩ := hcut
    have HL := Lib.hid hl.out
    clear hl HRK HR0 HSE
    go_wp2_with fail
    refine (HSR.out _ HL.out).mono ?_
    rintro e w2 ⟨rfl, hb2⟩
    have HL2 := Lib.hid (HL.out.trans hb2)
    clear hb2 HL HSR
    go_wp2_with fail
    refine (sameErr_any E w2 (HG.out.keep HL2.out)).mono ?_
    rintro e w3 ⟨rfl, hb3⟩
    have HL3 := Lib.hid (HL2.out.trans hb3)
    clear hb3 HL2
    go_wp2_with fail
    refine (HRS.out _ HL3.out).mono ?_
    rintro e w4 ⟨b4, q4, c4, rfl, hs4, hb4⟩
    have HL4 := Lib.hid (HL3.out.trans hb4); have HS4 := Lib.hid hs4
    clear hb4 HL3 hs4 HRS
    go_wp2_with fail
    refine (HPS.out _ HL4.out).mono ?_
    rintro e w5 ⟨b5, q5, c5, rfl, hs5, hb5⟩
    obtain rfl : q4 = q5 := by rw [← hs5.len, ← HS4.out.len]
    have HL5 := Lib.hid (HL4.out.trans hb5); have HS5 := Lib.hid hs5; have HS45 := Lib.hid (HS4.out.keep hb5)
    clear hb5 HL4 hs5 HS4 HPS
    go_wp2_with fail
    refine (sameErr_any SE w5 (HG.out.keep HL5.out)).mono ?_
    rintro e w6 ⟨rfl, hb6⟩
    have HL6 := Lib.hid (HL5.out.trans hb6); have HS6 := Lib.hid (HS5.out.keep hb6); have HS46 := Lib.hid (HS45.out.keep hb6)
    clear hb6 HL5 HS5 HS45
    go_wp2_with fail
    refine (sameStrs_yes b5 q4 c5 SS b4 c4 w6 HS6.out HS46.out).mono ?_
    rintro e w7 ⟨rfl, hb7⟩
    have HL7 := Lib.hid (HL6.out.trans hb7)
    clear hb7 HL6
    go_wp2_with fail
    go_ret
    exact ⟨rfl, HL7.out⟩
end Go.Proofs.YtcpookgbneoilaaDoor

