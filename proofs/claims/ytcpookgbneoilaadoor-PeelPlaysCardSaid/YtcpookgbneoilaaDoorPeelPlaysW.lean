import Derived.Test.YtcpookgbneoilaaDoorBase
import Derived.LaidEql
import Derived.Stop.Asserts
import Derived.RowKitTokens
import Derived.ChangeVars
import Derived.JoinedOf
import Derived.LaidLaws
import Derived.LaidHandle
import Derived.Stop.Joined
import Derived.Test.YtcpookgbneoilaaDoorDropMake
import Derived.Lib.SmallJoins
import Derived.Deep.Slices
import Derived.Deep.Fields
import Derived.ChangeSame
import Derived.Test.YtcpookgbneoilaaDoorOwnR
import Derived.Test.YtcpookgbneoilaaDoorPeelLW
import Derived.Test.YtcpookgbneoilaaDoorAppM
import Derived.Deep.DeepCutAuto
import Derived.Test.YtcpookgbneoilaaDoorDegreePlain
import Derived.Test.YtcpookgbneoilaaDoorDrop
import Derived.Test.YtcpookgbneoilaaDoorRefMix
import Derived.Test.YtcpookgbneoilaaDoorPeelL
import Derived.Test.YtcpookgbneoilaaDoorRefLine
import Derived.Test.YtcpookgbneoilaaDoorGate
import Derived.Test.YtcpookgbneoilaaDoorOwnRS
import Derived.Deep.LoopGhost
import Derived.Test.YtcpookgbneoilaaDoorOwnC
import Derived.BigQuiet
import Derived.Deep.CutRange
import Derived.Deep.CutBlock
namespace Go.Proofs.YtcpookgbneoilaaDoor
open Go.RowKit Go.Extern.Stop Go.Stop Go.Extern

def Hnd (w : World) : Prop := w.cell? ⟨0, 0, none⟩ = some (.iface 132 (.agg #[.pointer (some ⟨1, 25, none⟩)]))
theorem Hnd.keep {w w' : World} (h : Hnd w) (hb : Below w.heap.size w w') : Hnd w' := Lat.cell_at hb h

/-! Closed facts on the model's entries for internal/reflectlite: P: *api.Errno, E: api.Errno. -/
theorem valueOfP (t : Addr) (w : World) : (ReflectliteValue.unpack (.iface 97 (.pointer (some t)))).run Tryd.prog w
    = .ok (.agg #[.pointer (some ⟨1, 97, none⟩), .pointer (some ⟨w.heap.size, 0, none⟩), .int .u64 150]) (w.alloc (.cells #[.pointer (some t)] 97)) := by kernel_rfl
theorem typeP (a : Addr) (w : World) : (ReflectliteValue.methodAny (ReflectliteValue.valueError "reflectlite.Value.Type" 0) (fun t _ _ _ => ReflectliteType.toType t) #[.agg #[.pointer (some ⟨1, 97, none⟩), .pointer (some a), .int .u64 150]]).run Tryd.prog w
    = .ok (.iface 132 (.agg #[.pointer (some ⟨1, 97, none⟩)])) w := by kernel_rfl
theorem methodKind (h : Value) (w : World) : (Go.method 295 132 (.agg #[h]) "Kind").run Tryd.prog w = .ok (109, h) w := by kernel_rfl
theorem kindP (w : World) : ((ReflectliteType.abiMethod fun t => (fun a : Nat => Value.int IntKind.u8 (a : Int)) <$> Rtype.kind t) #[.pointer (some ⟨1, 97, none⟩)]).run Tryd.prog w = .ok (.int .u8 22) w := by kernel_rfl
theorem kindE (w : World) : ((ReflectliteType.abiMethod fun t => (fun a : Nat => Value.int IntKind.u8 (a : Int)) <$> Rtype.kind t) #[.pointer (some ⟨1, 62, none⟩)]).run Tryd.prog w = .ok (.int .u8 2) w := by kernel_rfl
theorem rlm (z : Sem Value) (f : TypeId → Addr → Nat → Nat → Sem Value) (v : Value) :
    ReflectliteValue.method z f #[v] = (do match ← ReflectliteValue.parts v with | none => z | some (t, a, fl) => f t a fl (fl % 32)) := rfl
theorem partsP (a : Addr) (w : World) : (ReflectliteValue.parts (.agg #[.pointer (some ⟨1, 97, none⟩), .pointer (some a), .int .u64 150])).run Tryd.prog w = .ok (some (97, a, 150)) w := by kernel_rfl
theorem isNilP (a p : Addr) (W : World) (ha : W.cell? a = some (.pointer (some p))) :
    (ReflectliteValue.method (ReflectliteValue.valueError "reflectlite.Value.IsNil" 0) ReflectliteValue.isNil #[.agg #[.pointer (some ⟨1, 97, none⟩), .pointer (some a), .int .u64 150]]).run Tryd.prog W = .ok (.bool false) W := by
  rw [rlm]
  simp only [Sem.run_bind, partsP, Result.andThen]
  simp [ReflectliteValue.isNil, loadVar, isAgg, underlying, Tryd.underlying97, ha, Result.andThen]
theorem methodElem (h : Value) (w : World) : (Go.method 295 132 (.agg #[h]) "Elem").run Tryd.prog w = .ok (119, .agg #[h]) w := by kernel_rfl
theorem methodImplements (h : Value) (w : World) : (Go.method 295 132 (.agg #[h]) "Implements").run Tryd.prog w = .ok (120, .agg #[h]) w := by kernel_rfl
theorem methodAssignableTo (h : Value) (w : World) : (Go.method 295 132 (.agg #[h]) "AssignableTo").run Tryd.prog w = .ok (117, .agg #[h]) w := by kernel_rfl
theorem elemP (w : World) : (ReflectliteType.method ReflectliteType.elem #[.agg #[.pointer (some ⟨1, 97, none⟩)]]).run Tryd.prog w = .ok (.iface 132 (.agg #[.pointer (some ⟨1, 62, none⟩)])) w := by kernel_rfl
theorem implementsE (w : World) : (ReflectliteType.relation "Implements" ReflectliteType.implements_ #[.agg #[.pointer (some ⟨1, 62, none⟩)], .iface 132 (.agg #[.pointer (some ⟨1, 25, none⟩)])]).run Tryd.prog w = .ok (.bool true) w := by kernel_rfl
theorem typeOfE (v : Value) (w : World) : (ReflectliteType.typeOf #[.iface 62 v]).run Tryd.prog w = .ok (.iface 132 (.agg #[.pointer (some ⟨1, 62, none⟩)])) w := by kernel_rfl
theorem assignableE (w : World) : (ReflectliteType.relation "AssignableTo" ReflectliteType.assignableTo #[.agg #[.pointer (some ⟨1, 62, none⟩)], .iface 132 (.agg #[.pointer (some ⟨1, 62, none⟩)])]).run Tryd.prog w = .ok (.bool true) w := by kernel_rfl
theorem valueOfE (n : Int) (w : World) : (ReflectliteValue.unpack (.iface 62 (.int .i64 n))).run Tryd.prog w
    = .ok (.agg #[.pointer (some ⟨1, 62, none⟩), .pointer (some ⟨w.heap.size, 0, none⟩), .int .u64 130]) (w.alloc (.cells #[.int .i64 n] 62)) := by kernel_rfl
theorem elemOfP (w : World) : (Rtype.elem? 97).run Tryd.prog w = .ok (some 62) w := by kernel_rfl
theorem mkE (p : Addr) (w : World) : (ReflectliteValue.mk 62 p ReflectliteValue.flagAddr).run Tryd.prog w = .ok (.agg #[.pointer (some ⟨1, 62, none⟩), .pointer (some p), .int .u64 386]) w := by kernel_rfl
theorem elemVP (a p : Addr) (W : World) (ha : W.cell? a = some (.pointer (some p))) :
    (ReflectliteValue.method (ReflectliteValue.valueError "reflectlite.Value.Elem" 0) ReflectliteValue.elem #[.agg #[.pointer (some ⟨1, 97, none⟩), .pointer (some a), .int .u64 150]]).run Tryd.prog W
      = .ok (.agg #[.pointer (some ⟨1, 62, none⟩), .pointer (some p), .int .u64 386]) W := by
  rw [rlm]
  simp only [Sem.run_bind, partsP, Result.andThen]
  simp [ReflectliteValue.elem, loadVar, isAgg, underlying, Tryd.underlying97, ha, Result.andThen, elemOfP, mkE]
theorem rls (v x : Value) : ReflectliteValue.set #[v, x] = (do
    let (some (dst, a, fl), some (src, b, _)) := (← ReflectliteValue.parts v, ← ReflectliteValue.parts x)
      | unsupported (.noEntry "extern/(internal/reflectlite.Value).Set.zeroValue")
    if fl / ReflectliteValue.flagAddr % 2 == 0 then unsupported (.noEntry "extern/(internal/reflectlite.Value).Set.unaddressable")
    let val ← loadVar src b
    if ← Rtype.directlyAssignable dst src then storeVar dst a val
    else if ← Rtype.implements dst src then
      if (← Rtype.kind src) == 20 then
        match val with
        | .nilIface => unsupported (.noEntry "extern/reflectlite: a nil value of one interface type handed on as a value of another")
        | _ => storeVar dst a val
      else storeVar dst a (.iface src val)
    else panicString ("reflectlite.Set: value of type " ++ (← Rtype.spelt src) ++ " is not assignable to type " ++ (← Rtype.spelt dst))
    pure (.tuple #[])) := rfl
theorem partsEa (a : Addr) (w : World) : (ReflectliteValue.parts (.agg #[.pointer (some ⟨1, 62, none⟩), .pointer (some a), .int .u64 386])).run Tryd.prog w = .ok (some (62, a, 386)) w := by kernel_rfl
theorem partsE (a : Addr) (w : World) : (ReflectliteValue.parts (.agg #[.pointer (some ⟨1, 62, none⟩), .pointer (some a), .int .u64 130])).run Tryd.prog w = .ok (some (62, a, 130)) w := by kernel_rfl
theorem directE (w : World) : (Rtype.directlyAssignable 62 62).run Tryd.prog w = .ok true w := by kernel_rfl
theorem setE (ta b : Addr) (n : Int) (old : Value) (W : World) (hb : W.cell? b = some (.int .i64 n)) (ht : W.cell? ta = some old) (hf : W.frozen? ta = false) :
    (ReflectliteValue.set #[.agg #[.pointer (some ⟨1, 62, none⟩), .pointer (some ta), .int .u64 386], .agg #[.pointer (some ⟨1, 62, none⟩), .pointer (some b), .int .u64 130]]).run Tryd.prog W
      = .ok (.tuple #[]) (W.setCell ta (.int .i64 n)) := by
  rw [rls]
  simp only [Sem.run_bind, partsEa, partsE, Result.andThen]
  simp [ReflectliteValue.flagAddr, loadVar, isAgg, underlying, Tryd.underlying62, hb, Result.andThen, directE, storeVar, Value.cells, storeCells, Addr.add]
  rw [run_store Tryd.prog W ta _ _ (by rfl)]
  simp [ht, hf]

set_option maxHeartbeats 4000000 in
theorem as_hit (n : Int) (t : Addr) (old : Value) (w : World) (hg : Hnd w) (ht0 : w.cell? t = some old) (hf0 : w.frozen? t = false) :
    Calls Tryd.prog 48 #[eno n, .iface 97 (.pointer (some t))] w fun ev w' => ev = .returned (.bool true) ∧ w' = ((((w.alloc (.cells #[.pointer (some t)] 97)).alloc (.cells #[.pointer (some ⟨1, 97, none⟩), .pointer (some ⟨w.heap.size, 0, none⟩), .int .u64 150] 116)).alloc (.cells #[.pointer (some ⟨1, 97, none⟩), .pointer (some ⟨w.heap.size, 0, none⟩), .int .u64 150] 116)).alloc (.cells #[.int .i64 n] 62)).setCell t (.int .i64 n) := by
  have h6 := @run_callFunc_extern Tryd.prog 66 _ (fun args => ReflectliteValue.unpack (args.getD 0 (.tuple #[]))) Tryd.func66 (by kernel_rfl) (by kernel_rfl) (by kernel_rfl) (by kernel_rfl)
  have h7 := @run_callFunc_extern Tryd.prog 67 _ (ReflectliteValue.methodAny (ReflectliteValue.valueError "reflectlite.Value.Type" 0) (fun t _ _ _ => ReflectliteType.toType t)) Tryd.func67 (by kernel_rfl) (by kernel_rfl) (by kernel_rfl) (by kernel_rfl)
  have h8 := @run_callFunc_extern Tryd.prog 68 _ (ReflectliteValue.method (ReflectliteValue.valueError "reflectlite.Value.IsNil" 0) ReflectliteValue.isNil) Tryd.func68 (by kernel_rfl) (by kernel_rfl) (by kernel_rfl) (by kernel_rfl)
  have h27 := @run_callFunc_extern Tryd.prog 109 _ (ReflectliteType.abiMethod fun t => do pure (.int .u8 (← Rtype.kind t))) Tryd.func109 (by kernel_rfl) (by kernel_rfl) (by kernel_rfl) (by kernel_rfl)
  have h37 := @run_callFunc_extern Tryd.prog 119 _ (ReflectliteType.method ReflectliteType.elem) Tryd.func119 (by kernel_rfl) (by kernel_rfl) (by kernel_rfl) (by kernel_rfl)
  have h38 := @run_callFunc_extern Tryd.prog 120 _ (ReflectliteType.relation "Implements" ReflectliteType.implements_) Tryd.func120 (by kernel_rfl) (by kernel_rfl) (by kernel_rfl) (by kernel_rfl)
  have h10 := @run_callFunc_extern Tryd.prog 74 _ ReflectliteType.typeOf Tryd.func74 (by kernel_rfl) (by kernel_rfl) (by kernel_rfl) (by kernel_rfl)
  have h35 := @run_callFunc_extern Tryd.prog 117 _ (ReflectliteType.relation "AssignableTo" ReflectliteType.assignableTo) Tryd.func117 (by kernel_rfl) (by kernel_rfl) (by kernel_rfl) (by kernel_rfl)
  have h11 := @run_callFunc_extern Tryd.prog 75 _ (ReflectliteValue.method (ReflectliteValue.valueError "reflectlite.Value.Elem" 0) ReflectliteValue.elem) Tryd.func75 (by kernel_rfl) (by kernel_rfl) (by kernel_rfl) (by kernel_rfl)
  have h12 := @run_callFunc_extern Tryd.prog 76 _ ReflectliteValue.set Tryd.func76 (by kernel_rfl) (by kernel_rfl) (by kernel_rfl) (by kernel_rfl)
  have tO := typeOfE
  have mA := methodAssignableTo
  have a25 := assignableE
  have v25 := valueOfE
  have f6 := valueOfP
  have f7 := typeP
  have mK := methodKind
  have mE := methodElem
  have mI := methodImplements
  have k27 := kindP
  have k25 := kindE
  have e27 := elemP
  have i25 := implementsE
  have n8 := isNilP ⟨w.heap.size, 0, none⟩ t ((w.alloc (.cells #[.pointer (some t)] 97)).alloc (.cells #[.pointer (some ⟨1, 97, none⟩), .pointer (some ⟨w.heap.size, 0, none⟩), .int .u64 150] 116)) (by simp)
  have hb2 : Below w.heap.size w ((w.alloc (.cells #[.pointer (some t)] 97)).alloc (.cells #[.pointer (some ⟨1, 97, none⟩), .pointer (some ⟨w.heap.size, 0, none⟩), .int .u64 150] 116)) := Lat.trans (Lat.alloc _ _) (Lat.alloc _ _)
  have hg2 : ((w.alloc (.cells #[.pointer (some t)] 97)).alloc (.cells #[.pointer (some ⟨1, 97, none⟩), .pointer (some ⟨w.heap.size, 0, none⟩), .int .u64 150] 116)).cell? ⟨0, 0, none⟩ = some (.iface 132 (.agg #[.pointer (some ⟨1, 25, none⟩)])) := Lat.cell_at hb2 hg
  have hb4 : Below w.heap.size w ((((w.alloc (.cells #[.pointer (some t)] 97)).alloc (.cells #[.pointer (some ⟨1, 97, none⟩), .pointer (some ⟨w.heap.size, 0, none⟩), .int .u64 150] 116)).alloc (.cells #[.pointer (some ⟨1, 97, none⟩), .pointer (some ⟨w.heap.size, 0, none⟩), .int .u64 150] 116)).alloc (.cells #[.int .i64 n] 62)) := Lat.trans (Lat.trans (Lat.trans (Lat.alloc _ _) (Lat.alloc _ _)) (Lat.alloc _ _)) (Lat.alloc _ _)
  have htl : t.block < w.heap.size := World.block_lt_of_cell? _ _ ht0
  have el := elemVP ⟨w.heap.size, 0, none⟩ t (((w.alloc (.cells #[.pointer (some t)] 97)).alloc (.cells #[.pointer (some ⟨1, 97, none⟩), .pointer (some ⟨w.heap.size, 0, none⟩), .int .u64 150] 116)).alloc (.cells #[.pointer (some ⟨1, 97, none⟩), .pointer (some ⟨w.heap.size, 0, none⟩), .int .u64 150] 116)) (by rw [World.cell?_alloc_lt _ _ ⟨w.heap.size, 0, none⟩ (by simp; omega)]; simp)
  have st := setE t ⟨w.heap.size + 1 + 1 + 1, 0, none⟩ n old ((((w.alloc (.cells #[.pointer (some t)] 97)).alloc (.cells #[.pointer (some ⟨1, 97, none⟩), .pointer (some ⟨w.heap.size, 0, none⟩), .int .u64 150] 116)).alloc (.cells #[.pointer (some ⟨1, 97, none⟩), .pointer (some ⟨w.heap.size, 0, none⟩), .int .u64 150] 116)).alloc (.cells #[.int .i64 n] 62))
    (by rw [World.cell?_alloc_at _ _ _ _ (by simp)]; rfl) (Lat.cell_at hb4 ht0) (by rw [hb4.frozen htl]; exact hf0)
  unfold Hnd at hg
  clear hb2 hb4
  go_enter Tryd.func48, Tryd.ntmps48
  go_wp2
  refine wp_loop_rounds 1 ?_
  rw [rounds_succ]
  go_wp2
  go_ret
  exact ⟨rfl, rfl⟩

theorem told_nil (w : World) : Calls Tryd.prog 29 #[.nilIface] w fun e w' => e = .returned (.int .i64 0) ∧ Lat w w' := by
  go_enter Tryd.func29, Tryd.ntmps29
  go_wp2
  go_ret
  exact ⟨rfl, Lat.refl _⟩
theorem told_eno (n : Int) (w : World) (hg : Hnd w) : Calls Tryd.prog 29 #[eno n] w fun e w' => e = .returned (.int .i64 n) ∧ Lat w w' := by
  have hgA : Hnd (w.alloc (.cells #[.int .i64 0] 62)) := hg.keep (Lat.alloc _ _)
  have H := Lib.hid hgA
  clear hg hgA
  go_enter Tryd.func29, Tryd.ntmps29
  go_wp2_with (go_at_call 48; refine (as_hit n ⟨w.heap.size, 0, none⟩ (.int .i64 0) _ H.out (by simp) (by simp)).mono ?_; rintro e w' ⟨rfl, rfl⟩)
  go_ret
  exact ⟨rfl, Lat.trans (Lat.trans (Lat.trans (Lat.trans (Lat.alloc _ _) (Lat.alloc _ _)) (Lat.alloc _ _)) (Lat.alloc _ _)) (Lat.alloc _ _)⟩
end Go.Proofs.YtcpookgbneoilaaDoor

namespace Go.Proofs.YtcpookgbneoilaaDoor
open Go.ChangeShapes Go.WideShapes Go.ChangeAt Go.RowKit

theorem own : ownKnob Tryd.prog.godebug = none := by kernel_rfl
theorem laidOut : laidOutB Tryd.prog = true := by kernel_rfl
theorem errType_at : Tryd.prog.globalNamed "errors.errorType" = some 0 := by kernel_rfl
theorem rtype_at : (Tryd.prog.cutTypes.find? (·.1 == "internal/reflectlite.rtype")).map (·.2) = some 132 := by kernel_rfl
theorem oneRow : ((List.range 195).filter fun t => Tryd.prog.rowNamed t [101, 114, 114, 111, 114]) = [25] := by kernel_rfl
theorem types_size : Tryd.prog.types.size = 195 := by kernel_rfl
theorem handle_of_laid {W : World} (h : laidMetH Tryd.prog [("errors.errorType", Rows.laid_errors_errorType)] W) : Hnd W := by
  have h' : laidMet Tryd.prog [] W ∧ handlesMet Tryd.prog [("errors.errorType", Rows.laid_errors_errorType)] W := h
  obtain ⟨name, u, ty, e1, e2, e3, e4, e5⟩ := h'.2 _ (List.mem_singleton.2 rfl)
  have en : name = [101, 114, 114, 111, 114] := (Option.some.inj e1).symm
  subst en
  obtain rfl := Option.some.inj (rtype_at.symm.trans e2)
  have hm : ty ∈ (List.range 195).filter fun t => Tryd.prog.rowNamed t [101, 114, 114, 111, 114] := List.mem_filter.2 ⟨List.mem_range.2 (by rw [← types_size]; exact e3), e4⟩
  rw [oneRow] at hm
  obtain rfl := List.mem_singleton.1 hm
  have hh : typeHandle Tryd.prog 25 = .pointer (some ⟨1, 25, none⟩) := by kernel_rfl
  rw [hh] at e5
  unfold Hnd
  simpa using World.var?_cell errType_at e5 0
noncomputable def laidWorld (os : Os) : World :=
  { World.holding Tryd.prog os ⟨#[], #[], []⟩ with heap := (World.holding Tryd.prog os ⟨#[], #[], []⟩).heap.modify 0 fun
      | .cells _ t frozen => .cells #[.iface 132 (.agg #[.pointer (some ⟨1, 25, none⟩)])] t frozen
      | o => o }
theorem laidWorld_met (os : Os) (args : Array Value) : laidMetH Tryd.prog [("errors.errorType", Rows.laid_errors_errorType)] ((laidWorld os).forCall (fun _ _ => 0) ⟨#[], args, []⟩).memory :=
  laidMetH_of_parts (laidMet_nil _ _) (by kernel_rfl)
end Go.Proofs.YtcpookgbneoilaaDoor

namespace Go.Proofs.YtcpookgbneoilaaDoor
open Go.ChangeShapes Go.WideShapes Go.ChangeAt Go.RowKit

theorem dchk_ok (k size seed : Int) (d : ByteArray) (w : World) (h1 : 1 ≤ k) (h2 : k ≤ 16) (h3 : 1 ≤ size) (h4 : size ≤ 8) (h5 : 1 ≤ seed) (h6 : seed ≤ 10000) (h7 : (d.size : Int) = size) :
    Calls Tryd.prog 34 #[.int .i64 k, .int .i64 size, dropV seed d] w fun e w' => e = .returned .nilIface ∧ Lat w w' := by
  have d7 : ((d.size : Int) != size) = false := by rw [bne_eq_false_iff_eq]; exact h7
  have H7 := Lib.hid h7
  clear h7
  go_enter Tryd.func34, Tryd.ntmps34
  go_wp2_with (first | (go_at_call 27; refine (dblocks_yes k _ h1 h2).mono ?_; rintro e w1 ⟨rfl, rfl⟩) | (go_at_call 28; refine (size_yes size _ h3 h4).mono ?_; rintro e w1 ⟨rfl, rfl⟩) | (go_at_call 51; refine (seed_yes seed _ h5 h6).mono ?_; rintro e w1 ⟨rfl, rfl⟩))
  go_ret
  exact ⟨rfl, Lat.alloc _ _⟩
theorem dchk_shape (k size seed : Int) (d : ByteArray) (w : World) (h1 : 1 ≤ k) (h2 : k ≤ 16) (h3 : 1 ≤ size) (h4 : size ≤ 8) (h5 : 1 ≤ seed) (h6 : seed ≤ 10000) (h7 : (d.size : Int) ≠ size) :
    Calls Tryd.prog 34 #[.int .i64 k, .int .i64 size, dropV seed d] w fun e w' => e = .returned (eno 3) ∧ Lat w w' := by
  have d7 : ((d.size : Int) != size) = true := by rw [bne_iff_ne]; exact h7
  have H7 := Lib.hid h7
  clear h7
  go_enter Tryd.func34, Tryd.ntmps34
  go_wp2_with (first | (go_at_call 27; refine (dblocks_yes k _ h1 h2).mono ?_; rintro e w1 ⟨rfl, rfl⟩) | (go_at_call 28; refine (size_yes size _ h3 h4).mono ?_; rintro e w1 ⟨rfl, rfl⟩) | (go_at_call 51; refine (seed_yes seed _ h5 h6).mono ?_; rintro e w1 ⟨rfl, rfl⟩))
  go_ret
  exact ⟨rfl, Lat.alloc _ _⟩
theorem dchk_range (k size seed : Int) (d : ByteArray) (w : World) (h : k < 1 ∨ 16 < k ∨ size < 1 ∨ 8 < size ∨ seed < 1 ∨ 10000 < seed) :
    Calls Tryd.prog 34 #[.int .i64 k, .int .i64 size, dropV seed d] w fun e w' => e = .returned (eno 1) ∧ Lat w w' := by
  by_cases hk : k < 1 ∨ 16 < k
  · have HK := Lib.hid hk
    clear hk h
    go_enter Tryd.func34, Tryd.ntmps34
    go_wp2_with (go_at_call 27; refine (dblocks_no k _ HK.out).mono ?_; rintro e w1 ⟨rfl, rfl⟩)
    go_ret
    exact ⟨rfl, Lat.alloc _ _⟩
  have k1 : 1 ≤ k := by omega
  have k2 : k ≤ 16 := by omega
  by_cases hs : size < 1 ∨ 8 < size
  · have HS := Lib.hid hs
    clear hs hk h
    go_enter Tryd.func34, Tryd.ntmps34
    go_wp2_with (first | (go_at_call 27; refine (dblocks_yes k _ k1 k2).mono ?_; rintro e w1 ⟨rfl, rfl⟩) | (go_at_call 28; refine (size_no size _ HS.out).mono ?_; rintro e w1 ⟨rfl, rfl⟩))
    go_ret
    exact ⟨rfl, Lat.alloc _ _⟩
  have s1 : 1 ≤ size := by omega
  have s2 : size ≤ 8 := by omega
  have hz : seed < 1 ∨ 10000 < seed := by omega
  have HZ := Lib.hid hz
  clear hs hk h hz
  go_enter Tryd.func34, Tryd.ntmps34
  go_wp2_with (first | (go_at_call 27; refine (dblocks_yes k _ k1 k2).mono ?_; rintro e w1 ⟨rfl, rfl⟩) | (go_at_call 28; refine (size_yes size _ s1 s2).mono ?_; rintro e w1 ⟨rfl, rfl⟩) | (go_at_call 51; refine (seed_no seed _ HZ.out).mono ?_; rintro e w1 ⟨rfl, rfl⟩))
  go_ret
  exact ⟨rfl, Lat.alloc _ _⟩

theorem setZ_rises (k seed : Nat) : (setZ k seed).Pairwise (· < ·) := by
  unfold setZ
  split
  · exact List.pairwise_singleton _ _
  · have hn : (drawn k seed).Nodup := dgo_nodup k _ _ _ [] List.nodup_nil
    have hn2 : ((drawn k seed).map Int.ofNat).Nodup := List.Pairwise.map _ (fun a b h e => h (Int.ofNat.inj e)) hn
    have hn3 : (((drawn k seed).map Int.ofNat).mergeSort (fun x y => decide (x ≤ y))).Nodup := (List.mergeSort_perm _ _).nodup_iff.2 hn2
    have hs := List.pairwise_mergeSort (le := fun x y : Int => decide (x ≤ y)) (fun a b c h1 h2 => by simp only [decide_eq_true_eq] at *; omega) (fun a b => by simp only [Bool.or_eq_true, decide_eq_true_eq]; omega) ((drawn k seed).map Int.ofNat)
    exact (hs.and hn3).imp (fun {a b} h => by have := h.1; have := h.2; simp only [decide_eq_true_eq] at *; omega)
theorem setZ_next (k seed i : Nat) (h : i + 1 < (setZ k seed).length) : (setZ k seed).getD i 0 < (setZ k seed).getD (i + 1) 0 := by
  have := List.pairwise_iff_getElem.1 (setZ_rises k seed) i (i + 1) (by omega) h (by omega)
  rw [List.getD_eq_getElem?_getD, List.getD_eq_getElem?_getD, List.getElem?_eq_getElem (by omega), List.getElem?_eq_getElem h]
  exact this
def overAll (aa bb : List ByteArray) (k : Nat) : List ByteArray := (List.range k).map fun j => S (xorL (bl aa j) (bl bb j))
theorem overAll_length (aa bb : List ByteArray) (k : Nat) : (overAll aa bb k).length = k := by simp [overAll]
theorem overAll_succ (aa bb : List ByteArray) (k : Nat) : overAll aa bb (k + 1) = overAll aa bb k ++ [S (xorL (bl aa k) (bl bb k))] := by unfold overAll; rw [List.range_succ, List.map_append]; rfl
theorem overAll_getD (aa bb : List ByteArray) (k j : Nat) (h : j < k) : (overAll aa bb k).getD j ByteArray.empty = S (xorL (bl aa j) (bl bb j)) := by
  rw [List.getD_eq_getElem?_getD, List.getElem?_eq_getElem (by rw [overAll_length]; exact h)]
  simp [overAll]
theorem overAll_bl (aa bb : List ByteArray) (k j : Nat) (h : j < k) : bl (overAll aa bb k) j = xorL (bl aa j) (bl bb j) := by
  unfold bl at *; rw [overAll_getD aa bb k j h]; rfl
theorem overAll_ok (aa bb : List ByteArray) (ha : ChkOk aa) (hb : ChkOk bb) (hl : aa.length = bb.length) (h0 : szAt aa 0 = szAt bb 0) : ChkOk (overAll aa bb aa.length) ∧ szAt (overAll aa bb aa.length) 0 = szAt aa 0 := by
  have hs : ∀ j, j < aa.length → szAt (overAll aa bb aa.length) j = szAt aa 0 := by
    intro j hj
    have e1 := ha.all j hj
    have e2 := hb.all j (by omega)
    rw [← bl_length, overAll_bl _ _ _ _ hj, xorL_length _ _ (by rw [bl_length, bl_length]; omega), bl_length, e1]
  have hp := ha.pos
  have h00 := hs 0 (by omega)
  refine ⟨⟨by rw [overAll_length]; exact hp, by rw [overAll_length]; exact ha.most, by rw [h00]; exact ha.one, by rw [h00]; exact ha.eight, fun j hj => ?_⟩, h00⟩
  rw [overAll_length] at hj
  rw [h00]; exact hs j hj
theorem xorL_swap (A B a b : List UInt8) : xorL (xorL A B) (xorL a b) = xorL (xorL A a) (xorL B b) := by
  rw [xorL_assoc, ← xorL_assoc B a b, xorL_comm B a, xorL_assoc a B b, ← xorL_assoc]
theorem sumTo_over (aa bb : List ByteArray) (k m : Nat) (zs : List Int) (hz : ∀ z ∈ zs, 0 ≤ z ∧ z < k) : ∀ j, j ≤ zs.length → sumTo (overAll aa bb k) m zs j = xorL (sumTo aa m zs j) (sumTo bb m zs j)
  | 0, _ => by
    show noughts m = xorL (noughts m) (noughts m)
    rw [xorL_self]; simp [noughts]
  | j + 1, hj => by
    have ih := sumTo_over aa bb k m zs hz j (by omega)
    have hm := hz _ (getD_mem zs j (by omega))
    show xorL (sumTo (overAll aa bb k) m zs j) (bl (overAll aa bb k) (zs.getD j 0).toNat) = xorL (xorL (sumTo aa m zs j) (bl aa (zs.getD j 0).toNat)) (xorL (sumTo bb m zs j) (bl bb (zs.getD j 0).toNat))
    rw [ih, overAll_bl _ _ _ _ (by omega), xorL_swap]
end Go.Proofs.YtcpookgbneoilaaDoor

namespace Go.Proofs.YtcpookgbneoilaaDoor
open Go.ChangeShapes Go.WideShapes Go.ChangeAt Go.RowKit

def dsetE (k seed : Int) : Nat := if k < 1 ∨ 16 < k ∨ seed < 1 ∨ 10000 < seed then 1 else 0
def dsetR (k seed : Int) : List Int := if k < 1 ∨ 16 < k ∨ seed < 1 ∨ 10000 < seed then [] else setZ k.toNat seed.toNat
def dmkE (ss : List ByteArray) (seed : Int) : Nat := if chk ss ≠ 0 then chk ss else if seed < 1 ∨ 10000 < seed then 1 else 0
def dmkD (ss : List ByteArray) (seed : Int) : ByteArray := if dmkE ss seed = 0 then S (sumTo ss (szAt ss 0) (setZ ss.length seed.toNat) (setZ ss.length seed.toNat).length) else .empty
def dmkS (ss : List ByteArray) (seed : Int) : Int := if dmkE ss seed = 0 then seed else 0
theorem dmkE_zero {ss : List ByteArray} {seed : Int} (h : dmkE ss seed = 0) : chk ss = 0 ∧ 1 ≤ seed ∧ seed ≤ 10000 := by
  unfold dmkE at h
  split at h
  · omega
  · split at h
    · omega
    · omega
def drpE (k size seed : Int) (d : ByteArray) : Nat := if k < 1 ∨ 16 < k ∨ size < 1 ∨ 8 < size ∨ seed < 1 ∨ 10000 < seed then 1 else if (d.size : Int) ≠ size then 3 else 0
theorem drpE_zero {k size seed : Int} {d : ByteArray} (h : drpE k size seed d = 0) : 1 ≤ k ∧ k ≤ 16 ∧ 1 ≤ size ∧ size ≤ 8 ∧ 1 ≤ seed ∧ seed ≤ 10000 ∧ (d.size : Int) = size := by
  unfold drpE at h
  split at h
  · omega
  · split at h <;> omega
theorem dchk_tells (k size seed : Int) (d : ByteArray) (w : World) :
    Calls Tryd.prog 34 #[.int .i64 k, .int .i64 size, dropV seed d] w fun e w' => e = .returned (errv (drpE k size seed d)) ∧ Lat w w' := by
  by_cases h1 : k < 1 ∨ 16 < k ∨ size < 1 ∨ 8 < size ∨ seed < 1 ∨ 10000 < seed
  · have e1 : drpE k size seed d = 1 := if_pos h1
    rw [e1]
    exact dchk_range k size seed d w h1
  · by_cases h2 : (d.size : Int) = size
    · have e1 : drpE k size seed d = 0 := by unfold drpE; rw [if_neg h1, if_neg (fun h => h h2)]
      rw [e1]
      exact dchk_ok k size seed d w (by omega) (by omega) (by omega) (by omega) (by omega) (by omega) h2
    · have e1 : drpE k size seed d = 3 := by unfold drpE; rw [if_neg h1, if_pos h2]
      rw [e1]
      exact dchk_shape k size seed d w (by omega) (by omega) (by omega) (by omega) (by omega) (by omega) h2

theorem six_ways (k size seed : Int) (P : Prop)
    (p1 : k < 1 → P) (p2 : 1 ≤ k → 16 < k → P) (p3 : 1 ≤ k → k ≤ 16 → size < 1 → P) (p4 : 1 ≤ k → k ≤ 16 → 1 ≤ size → 8 < size → P) (p5 : 1 ≤ k → k ≤ 16 → 1 ≤ size → size ≤ 8 → seed < 1 → P)
    (p6 : 1 ≤ k → k ≤ 16 → 1 ≤ size → size ≤ 8 → 1 ≤ seed → 10000 < seed → P) (p7 : 1 ≤ k → k ≤ 16 → 1 ≤ size → size ≤ 8 → 1 ≤ seed → seed ≤ 10000 → P) : P := by
  by_cases h1 : k < 1
  · exact p1 h1
  by_cases h2 : 16 < k
  · exact p2 (by omega) h2
  by_cases h3 : size < 1
  · exact p3 (by omega) (by omega) h3
  by_cases h4 : 8 < size
  · exact p4 (by omega) (by omega) (by omega) h4
  by_cases h5 : seed < 1
  · exact p5 (by omega) (by omega) (by omega) (by omega) h5
  by_cases h6 : 10000 < seed
  · exact p6 (by omega) (by omega) (by omega) (by omega) (by omega) h6
  exact p7 (by omega) (by omega) (by omega) (by omega) (by omega) (by omega)

set_option maxHeartbeats 1000000 in
set_option maxRecDepth 100000 in
theorem refDrop (k size seed : Int) (d : ByteArray) (w : World) :
    Calls Tryd.prog 8 #[.int .i64 k, .int .i64 size, dropV seed d] w fun e w' => e = .returned (.int .i64 (drpE k size seed d)) ∧ Lat w w' := by
  refine six_ways k size seed _ ?_ ?_ ?_ ?_ ?_ ?_ ?_
  rotate_right
  focus
    intro k1 k2 s1 s2 z1 z2
    by_cases hd : (d.size : Int) = size
    · have hE : drpE k size seed d = 0 := by unfold drpE; rw [if_neg (by omega), if_neg (fun h => h hd)]
      have d1 : ((d.size : Int) != size) = false := by rw [bne_eq_false_iff_eq]; exact hd
      have HE := Lib.hid hE
      clear hE hd
      go_enter Tryd.func8, Tryd.ntmps8
      go_wp2
      go_ret
      exact ⟨by rw [HE.out]; rfl, Lat.alloc _ _⟩
    · have hE : drpE k size seed d = 3 := by unfold drpE; rw [if_neg (by omega), if_pos hd]
      have d1 : ((d.size : Int) != size) = true := by rw [bne_iff_ne]; exact hd
      have HE := Lib.hid hE
      clear hE hd
      go_enter Tryd.func8, Tryd.ntmps8
      go_wp2
      go_ret
      exact ⟨by rw [HE.out]; rfl, Lat.alloc _ _⟩
  all_goals
    intros
    have hE : drpE k size seed d = 1 := if_pos (by omega)
    have HE := Lib.hid hE
    clear hE
    go_enter Tryd.func8, Tryd.ntmps8
    go_wp2
    go_ret
    exact ⟨by rw [HE.out]; rfl, Lat.alloc _ _⟩
end Go.Proofs.YtcpookgbneoilaaDoor

namespace Go.Proofs.YtcpookgbneoilaaDoor
open Go.ChangeShapes Go.WideShapes Go.ChangeAt Go.RowKit Go.Joins Go.Deep

def I64 (z : Int) : Prop := -9223372036854775808 ≤ z ∧ z ≤ 9223372036854775807
theorem wf_I64 {n : Int} (h : (Lit.int .i64 n).wf = true) : I64 n := by simpa [I64, Lit.wf, IntKind.min, IntKind.max, IntKind.signed, IntKind.bits] using h
set_option maxRecDepth 100000
section
variable {H : Type} {enc : TypeId × Value → H} {P : Program} {w : World} {base : Nat} {spare : Nat → Bool} {held : Bool}
theorem open_intCell {t : TypeId} {fuel : Nat} {v : Value} {x : DataW H × List MemPlace} (ht : P.underlying t = some (.int .i64)) (h : DataW.trod enc P w base spare held fuel t [v] = some x) : ∃ z, v = .int .i64 z ∧ I64 z := by
  obtain ⟨z, hz, _, hw⟩ := DataW.trod_int ht h
  simp at hz
  exact ⟨z, hz, wf_I64 hw⟩
theorem open_IntsCell {t e : TypeId} {fuel : Nat} {v : Value} {x : DataW H × List MemPlace} (ht : P.underlying t = some (.slice e)) (he : P.underlying e = some (.int .i64)) (hc : P.cellsOf e = 1) (h : DataW.trod enc P w base spare held fuel t [v] = some x) :
    ∃ a n cap zs, v = .slice a n cap ∧ IntsAt w a n cap zs := by
  rcases open_ints ht he hc h with ⟨hcs, _⟩ | ⟨y, l, c, zs, hcs, _⟩
  · simp at hcs; subst hcs
    exact ⟨none, 0, 0, [], rfl, IntsAt.nil w⟩
  · simp at hcs; subst hcs
    obtain ⟨zs', h'⟩ := open_IntsAt (w := w) (a := some y) (n := l) (cap := c) (d := x.1) (ps := x.2) ht he hc ⟨fuel, h⟩
    exact ⟨_, _, _, zs', rfl, h'⟩
theorem open_slice_fields {t e : TypeId} {fs : Array Field} {fuel : Nat} {cs : List Value} {x : DataW H × List MemPlace} (ht : P.underlying t = some (.slice e)) (he : P.underlying e = some (.struct fs))
    (hone : oneCellFields P fs = true) (hC : P.cellsOf e = fs.size) (h : DataW.trod enc P w base spare held fuel t cs = some x) :
    (cs = [.slice none 0 0]) ∨
    ∃ (a : Addr) (len cap m : Nat), cs = [.slice (some a) len cap] ∧ len ≤ cap ∧ cap ≤ maxLen ∧ len ≤ m ∧
      ∀ i, i < m → ∃ n : Nat, ∀ (j : Nat) (f : Field), fs[j]? = some f → ∃ (v : Value) (y : DataW H × List MemPlace), w.cell? (a.add (i * fs.size + j)) = some v ∧ DataW.trod enc P w base spare held n f.type [v] = some y := by
  rcases open_slice ht h with h0 | ⟨a, len, cap, m, n, D, Pl, hcs, hb, hl, hm, hmm, hx, hi⟩
  · exact .inl h0.1
  · refine .inr ⟨a, len, cap, m, hcs, hl, hm, by rw [hmm]; split <;> omega, fun i him => ?_⟩
    obtain ⟨cs', hc, ht'⟩ := hi i him
    rw [hC] at hc
    obtain ⟨ys, n', hn', hy, hlen, hyl, hf⟩ := DataW.trod_struct he ht'
    obtain ⟨_, hcl, hat⟩ := World.cells?_some hc
    refine ⟨n', fun j f hj => ?_⟩
    obtain ⟨ho, hk⟩ := hone_of hone j f hj
    have hjl : j < fs.size := (Array.getElem?_eq_some_iff.1 hj).1
    have hcell := hat j hjl
    have hv : cs'[j]? = some (cs'[j]'(by omega)) := List.getElem?_eq_getElem (by omega)
    have h1 := hf j f hj
    rw [ho, hk] at h1
    have hone' : (cs'.drop j).take 1 = [cs'[j]'(by omega)] := by
      rw [List.drop_eq_getElem_cons (by omega)]
      rfl
    rw [hone'] at h1
    have hys : ys[j]? = some (ys[j]'(by omega)) := List.getElem?_eq_getElem (by omega)
    refine ⟨_, _, ?_, h1.trans hys⟩
    rw [← Go.Deep.add_add, hcell, hv]
end
end Go.Proofs.YtcpookgbneoilaaDoor

namespace Go.Proofs.YtcpookgbneoilaaDoor
open Go.ChangeShapes Go.WideShapes Go.ChangeAt Go.RowKit Go.Joins Go.Deep

set_option maxRecDepth 100000
structure Dr where
  s : Int
  t : ByteArray
instance : Inhabited Dr := ⟨⟨0, .empty⟩⟩
def Dr.row (d : Dr) : List Value := [.int .i64 d.s, .string d.t]
abbrev Dr.v (d : Dr) : Value := .agg #[.int .i64 d.s, .string d.t]
structure DropAt (s : Int) (t : ByteArray) : Prop where
  s : I64 s
  t : t.size ≤ maxLen
structure DropsAt (w : World) (a : Option Addr) (n cap : Nat) (ds : List Dr) : Prop where
  rows : RowsAt w 2 a n cap (ds.map Dr.row)
  wf : ∀ d ∈ ds, DropAt d.s d.t
theorem DropsAt.len {w : World} {a : Option Addr} {n cap : Nat} {ds : List Dr} (h : DropsAt w a n cap ds) : ds.length = n := by have := h.rows.len; rwa [List.length_map] at this
theorem DropsAt.keep {w w' : World} {a : Option Addr} {n cap : Nat} {ds : List Dr} (h : DropsAt w a n cap ds) (hb : Lat w w') : DropsAt w' a n cap ds := ⟨h.rows.keep hb, h.wf⟩
theorem DropsAt.nil (w : World) : DropsAt w none 0 0 [] := ⟨RowsAt.nil w 2, by simp⟩
theorem DropsAt.at_ {w : World} {a : Option Addr} {n cap : Nat} {ds : List Dr} (h : DropsAt w a n cap ds) (hn : n ≠ 0) : ∃ b off, a = some ⟨b, off, none⟩ ∧ ∀ j d, ds[j]? = some d → w.cell? ⟨b, off + j * 2, none⟩ = some (.int .i64 d.s) ∧ w.cell? ⟨b, off + j * 2 + 1, none⟩ = some (.string d.t) := by
  obtain ⟨b, o, ha, hc⟩ := h.rows.at_ hn
  refine ⟨b, o, ha, fun j d hd => ?_⟩
  have hr : (ds.map Dr.row)[j]? = some d.row := by rw [List.getElem?_map, hd]; rfl
  obtain ⟨_, hc2⟩ := hc j _ hr
  exact ⟨by simpa using hc2 0 _ rfl, by rw [Nat.add_assoc]; exact hc2 1 _ rfl⟩
section
variable {H : Type} {enc : TypeId × Value → H} {P : Program} {w : World} {base : Nat} {spare : Nat → Bool} {held : Bool}
theorem open_strCell {t : TypeId} {fuel : Nat} {v : Value} {x : DataW H × List MemPlace} (ht : P.underlying t = some .string) (h : DataW.trod enc P w base spare held fuel t [v] = some x) : ∃ s, v = .string s ∧ s.size ≤ maxLen := by
  obtain ⟨s, hs, _, hl⟩ := DataW.trod_string ht h
  simp at hs
  exact ⟨s, hs, hl⟩
theorem open_Drop {r : Reach} {b0 : Nat} {v : Value} {d : DataW H} {p : List MemPlace} (hv : Value.okWide Tryd.prog w r b0 37 v) (h : DataW.Trod enc Tryd.prog w base spare held 37 v d p) :
    ∃ (s : Int) (t : ByteArray), v = .agg #[.int .i64 s, .string t] ∧ DropAt s t := by
  obtain ⟨v0, v1, y0, y1, m, rfl, _, _, h0, h1⟩ := open_agg2 Tryd.underlying37 (by kernel_rfl) (by kernel_rfl) hv h
  obtain ⟨z0, rfl, w0⟩ := open_intCell Tryd.underlying3 h0
  obtain ⟨z1, rfl, w1⟩ := open_strCell Tryd.underlying9 h1
  exact ⟨z0, z1, rfl, w0, w1⟩
theorem open_DropsAt {d : DataW H} {ps : List MemPlace} {a : Option Addr} {n cap : Nat}
    (h : DataW.Trod enc Tryd.prog w base spare held 22 (.slice a n cap) d ps) : ∃ l, DropsAt w a n cap l := by
  obtain ⟨fuel, hf⟩ := h
  rcases open_slice_fields Tryd.underlying22 Tryd.underlying37 (by kernel_rfl) (by kernel_rfl) hf with hcs | ⟨x, l, c, m, hcs, hl, hm, hlm, hi⟩
  · simp [Value.cells] at hcs
    obtain ⟨rfl, rfl, rfl⟩ := hcs
    exact ⟨[], DropsAt.nil w⟩
  · simp [Value.cells] at hcs
    obtain ⟨rfl, rfl, rfl⟩ := hcs
    have hb : ∀ i, i < n → ∃ p : Dr, (w.cell? (x.add (i * 2 + 0)) = some (.int .i64 p.s) ∧ w.cell? (x.add (i * 2 + 1)) = some (.string p.t)) ∧ DropAt p.s p.t := fun i hin => by
      obtain ⟨q, hf⟩ := hi i (by omega)
      obtain ⟨v0, y0, c0, t0⟩ := hf 0 _ rfl
      obtain ⟨v1, y1, c1, t1⟩ := hf 1 _ rfl
      obtain ⟨z0, rfl, w0⟩ := open_intCell Tryd.underlying3 t0
      obtain ⟨z1, rfl, w1⟩ := open_strCell Tryd.underlying9 t1
      exact ⟨⟨z0, z1⟩, ⟨c0, c1⟩, w0, w1⟩
    obtain ⟨B, hB⟩ := Go.Deep.choose_lt hb
    refine ⟨(List.range n).map B, ⟨by simp, hl, hm, fun hn => ?_⟩, fun p hp => ?_⟩
    · have h0 := (hB 0 (by omega)).1.1
      have hs : x = ⟨x.block, x.off, none⟩ := by
        have := World.cell?_spot h0
        cases x with | mk b o s => cases s <;> simp_all [Addr.add]
      refine ⟨x.block, x.off, by rw [← hs], fun j r hr => ?_⟩
      rw [List.getElem?_map, List.getElem?_map] at hr
      have hj : j < n := by
        rcases Nat.lt_or_ge j n with h | h
        · exact h
        · rw [List.getElem?_eq_none (by simpa using h)] at hr; cases hr
      rw [List.getElem?_range hj] at hr
      simp at hr
      subst hr
      obtain ⟨c0, c1⟩ := (hB j hj).1
      rw [hs, Addr.add_lit] at c0 c1
      refine ⟨rfl, fun i u hu => ?_⟩
      match i, hu with
      | 0, hu => simp [Dr.row] at hu; subst hu; exact c0
      | 1, hu => simp [Dr.row] at hu; subst hu; exact c1
    · obtain ⟨i, hi, rfl⟩ := List.mem_map.1 hp
      exact (hB i (List.mem_range.1 hi)).2
end
end Go.Proofs.YtcpookgbneoilaaDoor

namespace Go.Proofs.YtcpookgbneoilaaDoor

theorem xorL_noughts_l (a : List UInt8) (m : Nat) (h : a.length = m) : xorL (noughts m) a = a := by rw [xorL_comm, ← h, xorL_noughts]
theorem setZ_unit {k i : Nat} (h : i < k) : setZ k (i + 1) = [(i : Int)] := by unfold setZ; rw [if_pos (by omega)]; rfl
theorem bl_lens {ss : List ByteArray} (h : ChkOk ss) : ∀ j, j < ss.length → (bl ss j).length = szAt ss 0 := fun j hj => by rw [bl_length]; exact h.all j hj
theorem made_unit {ss : List ByteArray} (h : chk ss = 0) {i : Nat} (hi : i < ss.length) : dmkE ss ((i : Int) + 1) = 0 ∧ dmkS ss ((i : Int) + 1) = (i : Int) + 1 ∧ dmkD ss ((i : Int) + 1) = S (bl ss i) := by
  have ho := chk_ok h
  have hm := ho.most
  have e0 : dmkE ss ((i : Int) + 1) = 0 := by unfold dmkE; rw [if_neg (by omega), if_neg (by omega)]
  refine ⟨e0, by unfold dmkS; rw [if_pos e0], ?_⟩
  unfold dmkD
  rw [if_pos e0, show ((i : Int) + 1).toNat = i + 1 by omega, setZ_unit hi]
  show S (xorL (noughts (szAt ss 0)) (bl ss ([(i : Int)].getD 0 0).toNat)) = S (bl ss i)
  have e1 : ([(i : Int)].getD 0 0).toNat = i := by simp
  rw [e1, xorL_noughts_l _ _ (bl_lens ho i hi)]
theorem drpE_ok {k m : Nat} {s : Int} {t : ByteArray} (h1 : 1 ≤ k) (h2 : k ≤ 16) (h3 : 1 ≤ m) (h4 : m ≤ 8) (h5 : 1 ≤ s) (h6 : s ≤ 10000) (h7 : t.size = m) : drpE k m s t = 0 := by
  unfold drpE; rw [if_neg (by omega), if_neg (by omega)]
theorem made_sum {ss : List ByteArray} {seed : Int} (h : dmkE ss seed = 0) : chk ss = 0 ∧ 1 ≤ seed ∧ seed ≤ 10000 ∧ dmkS ss seed = seed ∧ dmkD ss seed = S (sumTo ss (szAt ss 0) (setZ ss.length seed.toNat) (setZ ss.length seed.toNat).length) ∧ (dmkD ss seed).size = szAt ss 0 := by
  obtain ⟨hc, h1, h2⟩ := dmkE_zero h
  have ho := chk_ok hc
  have hp := ho.pos
  have e : dmkD ss seed = S (sumTo ss (szAt ss 0) (setZ ss.length seed.toNat) (setZ ss.length seed.toNat).length) := by unfold dmkD; rw [if_pos h]
  refine ⟨hc, h1, h2, by unfold dmkS; rw [if_pos h], e, ?_⟩
  rw [e]
  show (sumTo _ _ _ _).length = _
  refine sumTo_length ss _ _ _ fun j hj => ho.all _ ?_
  have := setZ_lt ss.length seed.toNat (by omega) (by omega) _ (getD_mem _ j hj)
  omega
end Go.Proofs.YtcpookgbneoilaaDoor

namespace Go.Proofs.YtcpookgbneoilaaDoor

def Ext (K K' : Kn) : Prop := ∀ z b, K z = some b → K' z = some b
theorem xorL_swap3 (d b c : Bts) : xorL (xorL d b) c = xorL (xorL d c) b := by rw [xorL_assoc, xorL_assoc, xorL_comm b c]
theorem ovK_swap (K K' : Kn) (d : Bts) (y z : Int) : ovK K (ovK K' d z) y = ovK K' (ovK K d y) z := by
  unfold ovK
  cases K y <;> cases K' z <;> first | rfl | exact xorL_swap3 _ _ _
theorem fold_swap (K K' : Kn) (z : Int) : ∀ (l : List Int) (d : Bts), l.foldl (ovK K) (ovK K' d z) = ovK K' (l.foldl (ovK K) d) z
  | [], _ => rfl
  | y :: l, d => by
    rw [List.foldl_cons, List.foldl_cons, ovK_swap]
    exact fold_swap K K' z l _
theorem fold_twice {K K' : Kn} (h : Ext K K') : ∀ (l : List Int) (d : Bts), (l.filter (unkn K)).foldl (ovK K') (l.foldl (ovK K) d) = l.foldl (ovK K') d
  | [], _ => rfl
  | z :: l, d => by
    rw [List.foldl_cons, List.foldl_cons]
    cases hz : K z with
    | some b =>
      have hu : unkn K z = false := by unfold unkn; rw [hz]; rfl
      have h1 : ovK K d z = xorL d b := by unfold ovK; rw [hz]
      have h2 : ovK K' d z = xorL d b := by unfold ovK; rw [h z b hz]
      rw [List.filter_cons_of_neg (by rw [hu]; decide), h1, h2]
      exact fold_twice h l _
    | none =>
      have hu : unkn K z = true := by unfold unkn; rw [hz]; rfl
      have h1 : ovK K d z = d := by unfold ovK; rw [hz]
      rw [List.filter_cons_of_pos hu, List.foldl_cons, h1, fold_swap, fold_swap, fold_twice h l]
theorem unkn_ext {K K' : Kn} (h : Ext K K') (z : Int) (hz : unkn K' z = true) : unkn K z = true := by
  unfold unkn at *
  cases hk : K z with
  | none => rfl
  | some b => rw [h z b hk] at hz; cases hz
theorem filter_twice {K K' : Kn} (h : Ext K K') (l : List Int) : (l.filter (unkn K)).filter (unkn K') = l.filter (unkn K') := by
  rw [List.filter_filter]
  refine List.filter_congr fun z _ => ?_
  cases hz : unkn K' z with
  | false => rfl
  | true => rw [unkn_ext h z hz]; rfl
theorem wout_twice {K K' : Kn} (h : Ext K K') (x : Wt) : wout K' (wout K x) = wout K' x := by
  unfold wout
  rw [fold_twice h, filter_twice h]
theorem some1_ext {K K' : Kn} (h : Ext K K') (x : Wt) (hx : some1 (wout K' x) = true) : some1 (wout K x) = true := by
  unfold some1 wout at *
  have h1 := of_decide_eq_true hx
  refine decide_eq_true ?_
  obtain ⟨z, hz⟩ := List.length_pos_iff_exists_mem.1 h1
  obtain ⟨hm, hu⟩ := List.mem_filter.1 hz
  exact List.length_pos_iff_exists_mem.2 ⟨z, List.mem_filter.2 ⟨hm, unkn_ext h z hu⟩⟩
theorem leftW_cons (K : Kn) (x : Wt) (L : List Wt) : leftW K (x :: L) = if some1 (wout K x) = true then wout K x :: leftW K L else leftW K L := by
  unfold leftW
  rw [List.map_cons, List.filter_cons]
theorem leftW_append (K : Kn) (L M : List Wt) : leftW K (L ++ M) = leftW K L ++ leftW K M := by
  unfold leftW
  rw [List.map_append, List.filter_append]
theorem leftW_twice {K K' : Kn} (h : Ext K K') : ∀ L : List Wt, leftW K' (leftW K L) = leftW K' L
  | [] => rfl
  | x :: L => by
    rw [leftW_cons K, leftW_cons K']
    by_cases h1 : some1 (wout K x) = true
    · rw [if_pos h1, leftW_cons, wout_twice h, leftW_twice h L]
    · rw [if_neg h1, if_neg (fun e => h1 (some1_ext h x e)), leftW_twice h L]
theorem Ext.refl (K : Kn) : Ext K K := fun _ _ h => h
theorem Ext.trans {K K' K'' : Kn} (h : Ext K K') (k : Ext K' K'') : Ext K K'' := fun z b e => k z b (h z b e)
theorem Ext.upd {K : Kn} {z : Int} (h : K z = none) (b : Bts) : Ext K (updK K z b) := fun y c e => by
  unfold updK
  rw [if_neg (fun e2 => by rw [e2, h] at e; cases e)]; exact e

theorem filter_one {α : Type} {p q : α → Bool} : ∀ {l : List α} {a : α}, l.Nodup → a ∈ l → q a = true → p a = false → (∀ x, x ≠ a → p x = q x) → (l.filter p).length + 1 = (l.filter q).length
  | [], a, _, h, _, _, _ => by cases h
  | x :: r, a, hn, h, hq, hp, hs => by
    obtain ⟨hx, hr⟩ := List.nodup_cons.1 hn
    rw [List.filter_cons, List.filter_cons]
    by_cases e : x = a
    · subst e
      have hc : r.filter p = r.filter q := List.filter_congr fun y hy => hs y fun e => hx (e ▸ hy)
      rw [hq, hp, hc]; simp
    · have ih := filter_one hr ((List.mem_cons.1 h).resolve_left fun e2 => e e2.symm) hq hp hs
      rw [hs x e]
      cases q x <;> simp <;> omega
theorem unkC_upd1 {k : Nat} {K : Kn} {z : Int} (b : Bts) (hz : 0 ≤ z ∧ z < (k : Int)) (hn : K z = none) : unkC (updK K z b) k + 1 = unkC K k := by
  unfold unkC
  refine filter_one (a := z.toNat) List.nodup_range (List.mem_range.2 (by omega)) ?_ ?_ fun x hx => ?_
  · unfold unkn; rw [Int.toNat_of_nonneg hz.1, hn]; rfl
  · unfold unkn updK; rw [Int.toNat_of_nonneg hz.1, if_pos rfl]; rfl
  · unfold unkn updK
    rw [if_neg (fun e => hx (by omega))]
inductive ClP (Ds : List Wt) : Int → Prop where
  | step (x : Wt) (z : Int) : x ∈ Ds → z ∈ x.1 → (∀ y ∈ x.1, y ≠ z → ClP Ds y) → ClP Ds z
theorem ClP.mono {Ds Es : List Wt} (h : ∀ x ∈ Ds, x ∈ Es) {z : Int} (hz : ClP Ds z) : ClP Es z := by
  induction hz with
  | step x z hx hm _ ih => exact .step x z (h x hx) hm ih
def ovB (B : Int → Bts) (d : Bts) (z : Int) : Bts := xorL d (B z)
theorem ovB_swap (B : Int → Bts) (z : Int) : ∀ (l : List Int) (d : Bts), l.foldl (ovB B) (ovB B d z) = ovB B (l.foldl (ovB B) d) z
  | [], _ => rfl
  | y :: l, d => by
    rw [List.foldl_cons, List.foldl_cons, show ovB B (ovB B d z) y = ovB B (ovB B d y) z from xorL_swap3 _ _ _]
    exact ovB_swap B z l _
theorem ovB_len {B : Int → Bts} {m : Nat} : ∀ (l : List Int) (d : Bts), (∀ z ∈ l, (B z).length = m) → d.length = m → (l.foldl (ovB B) d).length = m
  | [], _, _, h => h
  | z :: l, d, hB, h => ovB_len l _ (fun y hy => hB y (List.mem_cons_of_mem _ hy)) (by unfold ovB; rw [xorL_length _ _ (by rw [h, hB z (List.mem_cons_self ..)])]; exact h)
theorem fold_right {K : Kn} {B : Int → Bts} {m : Nat} (hK : ∀ z b, K z = some b → b = B z) : ∀ (l : List Int) (d : Bts), (∀ z ∈ l, (B z).length = m) → d.length = m → l.foldl (ovK K) (l.foldl (ovB B) d) = (l.filter (unkn K)).foldl (ovB B) d
  | [], _, _, _ => rfl
  | z :: l, d, hB, hd => by
    have hBz := hB z (List.mem_cons_self ..)
    have hBl : ∀ y ∈ l, (B y).length = m := fun y hy => hB y (List.mem_cons_of_mem _ hy)
    rw [List.foldl_cons, List.foldl_cons]
    cases hz : K z with
    | some b =>
      have hu : unkn K z = false := by unfold unkn; rw [hz]; rfl
      have h1 : ∀ e, ovK K e z = xorL e (B z) := fun e => by unfold ovK; rw [hz]; show xorL e b = _; rw [hK z b hz]
      rw [List.filter_cons_of_neg (by rw [hu]; decide), h1, ovB_swap]
      show l.foldl (ovK K) (xorL (xorL (l.foldl (ovB B) d) (B z)) (B z)) = _
      rw [xorL_back _ _ (by rw [ovB_len l d hBl hd, hBz])]
      exact fold_right hK l d hBl hd
    | none =>
      have hu : unkn K z = true := by unfold unkn; rw [hz]; rfl
      have h1 : ∀ e, ovK K e z = e := fun e => by unfold ovK; rw [hz]
      rw [List.filter_cons_of_pos hu, List.foldl_cons, h1]
      exact fold_right hK l _ hBl (by unfold ovB; rw [xorL_length _ _ (by rw [hd, hBz])]; exact hd)

structure DOk (k m : Nat) (B : Int → Bts) (Ds : List Wt) : Prop where
  of : ∀ x ∈ Ds, ∀ z ∈ x.1, 0 ≤ z ∧ z < (k : Int)
  len : ∀ z : Int, 0 ≤ z → z < (k : Int) → (B z).length = m
  dif : ∀ x ∈ Ds, x.1.Nodup
  eq : ∀ x ∈ Ds, x.2 = x.1.foldl (ovB B) (noughts m)
structure PI (k m : Nat) (B : Int → Bts) (Ds : List Wt) (K : Kn) (L : List Wt) : Prop where
  left : leftW K L = leftW K Ds
  just : ∀ z, K z ≠ none → ClP Ds z
  val : ∀ z b, K z = some b → 0 ≤ z ∧ z < (k : Int) ∧ b = B z
theorem learn_law {k m : Nat} {B : Int → Bts} {Ds : List Wt} (hD : DOk k m B Ds) : ∀ (f : Nat) (K : Kn) (L : List Wt) (out : List Int), PI k m B Ds K L → unkC K k < f →
    PI k m B Ds (learnF f K L out).1 (learnF f K L out).2.1 ∧ (learnF f K L out).2.1 = leftW (learnF f K L out).1 Ds ∧ (∀ x ∈ (learnF f K L out).2.1, x.1.length ≠ 1) ∧ Ext K (learnF f K L out).1 ∧ (learnF f K L out).2.2.length + unkC (learnF f K L out).1 k = out.length + unkC K k
  | 0, _, _, _, _, h => absurd h (Nat.not_lt_zero _)
  | f + 1, K, L, out, h, hf => by
    cases hq : (leftW K L).find? one1 with
    | none =>
      have e : learnF (f + 1) K L out = (K, leftW K L, out) := by rw [learnF, hq]
      rw [e]
      refine ⟨⟨by show leftW K (leftW K L) = _; rw [leftW_twice (Ext.refl K)]; exact h.left, h.just, h.val⟩, h.left, fun x hx hl => ?_, Ext.refl K, rfl⟩
      have := List.find?_eq_none.1 hq x hx
      exact this (decide_eq_true hl)
    | some x =>
      have e : learnF (f + 1) K L out = learnF f (updK K (x.1.headD 0) x.2) (leftW K L) (out ++ [x.1.headD 0]) := by rw [learnF, hq]
      obtain ⟨hxm, z, hz, hKz⟩ := leftW_one hq
      rw [e, hz]
      simp only [List.headD_cons]
      rw [h.left] at hxm
      obtain ⟨y, hy, rfl⟩ := List.mem_map.1 (List.mem_filter.1 hxm).1
      have hzf : z ∈ y.1.filter (unkn K) := by
        have : (wout K y).1 = y.1.filter (unkn K) := rfl
        rw [← this, hz]; exact List.mem_singleton.2 rfl
      have hzy := (List.mem_filter.1 hzf).1
      have hzr := hD.of y hy z hzy
      have hval : (wout K y).2 = B z := by
        show y.1.foldl (ovK K) y.2 = B z
        rw [hD.eq y hy, fold_right (m := m) (fun z b e => (h.val z b e).2.2) y.1 _ (fun z hz => hD.len z (hD.of y hy z hz).1 (hD.of y hy z hz).2) (by simp [noughts])]
        have : y.1.filter (unkn K) = [z] := hz
        rw [this]
        exact xorL_noughts_l _ _ (hD.len z hzr.1 hzr.2)
      have hex := Ext.upd hKz (wout K y).2
      have hun := unkC_upd (k := k) (K := K) (wout K y).2 hzr hKz
      have hun1 : unkC (updK K z (wout K y).2) k + 1 = unkC K k := unkC_upd1 (k := k) (K := K) (wout K y).2 hzr hKz
      have hpi : PI k m B Ds (updK K z (wout K y).2) (leftW K L) := by
        refine ⟨by rw [leftW_twice hex, ← leftW_twice hex L, h.left, leftW_twice hex], fun q hq2 => ?_, fun q b hb => ?_⟩
        · by_cases e2 : q = z
          · subst e2
            refine .step y q hy hzy fun u hu hne => h.just u fun hKu => hne ?_
            have : u ∈ y.1.filter (unkn K) := List.mem_filter.2 ⟨hu, by unfold unkn; rw [hKu]; rfl⟩
            have h2 : y.1.filter (unkn K) = [q] := hz
            rw [h2] at this
            exact List.mem_singleton.1 this
          · refine h.just q fun hKq => hq2 ?_
            unfold updK
            rw [if_neg e2]; exact hKq
        · unfold updK at hb
          by_cases e2 : q = z
          · rw [if_pos e2] at hb
            cases hb
            subst e2
            exact ⟨hzr.1, hzr.2, hval⟩
          · rw [if_neg e2] at hb
            exact h.val q b hb
      obtain ⟨r1, r2, r3, r4, r5⟩ := learn_law hD f _ _ (out ++ [z]) hpi (by omega)
      exact ⟨r1, r2, r3, hex.trans r4, by rw [r5, List.length_append, List.length_singleton]; omega⟩
end Go.Proofs.YtcpookgbneoilaaDoor

namespace Go.Proofs.YtcpookgbneoilaaDoor
open Go.ChangeShapes Go.WideShapes Go.ChangeAt Go.RowKit

def putL (zs : List Int) (v : Int) : List Int := zs.takeWhile (fun x => decide (x < v)) ++ v :: zs.dropWhile (fun x => decide (x < v))
theorem tw_split (v : Int) : ∀ (zs : List Int) (k : Nat), k ≤ zs.length → (∀ j, j < k → zs.getD j 0 < v) → (k = zs.length ∨ ¬ zs.getD k 0 < v) →
    zs.take k = zs.takeWhile (fun x => decide (x < v)) ∧ zs.drop k = zs.dropWhile (fun x => decide (x < v))
  | [], k, hk, _, _ => by simp
  | z :: zs, 0, _, _, h => by
    have hz : ¬ z < v := by
      rcases h with h | h
      · simp at h
      · simpa using h
    simp [hz]
  | z :: zs, k + 1, hk, h1, h2 => by
    have hz : z < v := by simpa using h1 0 (by omega)
    have ih := tw_split v zs k (by simpa using hk) (fun j hj => by simpa using h1 (j + 1) (by omega)) (by simpa using h2)
    simp [hz, ih.1, ih.2]
theorem putL_length (zs : List Int) (v : Int) : (putL zs v).length = zs.length + 1 := by
  have h := congrArg List.length (List.takeWhile_append_dropWhile (p := fun x : Int => decide (x < v)) (l := zs))
  rw [List.length_append] at h
  unfold putL
  rw [List.length_append, List.length_cons]; omega
theorem putL_perm (zs : List Int) (v : Int) : (putL zs v).Perm (v :: zs) := by
  unfold putL
  refine List.perm_middle.trans ?_
  rw [List.takeWhile_append_dropWhile]
theorem mem_putL (zs : List Int) (v x : Int) : x ∈ putL zs v ↔ x = v ∨ x ∈ zs := by
  rw [(putL_perm zs v).mem_iff, List.mem_cons]
theorem dropWhile_ge (v : Int) : ∀ (zs : List Int), zs.Pairwise (· ≤ ·) → ∀ x ∈ zs.dropWhile (fun x => decide (x < v)), v ≤ x
  | [], _, x, hx => by simp at hx
  | z :: zs, h, x, hx => by
    rw [List.pairwise_cons] at h
    by_cases hz : z < v
    · rw [List.dropWhile_cons, if_pos (by simpa using hz)] at hx
      exact dropWhile_ge v zs h.2 x hx
    · rw [List.dropWhile_cons, if_neg (by simpa using hz)] at hx
      rcases List.mem_cons.1 hx with e | e
      · omega
      · have := h.1 x e; omega
theorem takeWhile_lt (v : Int) : ∀ (zs : List Int), ∀ x ∈ zs.takeWhile (fun x => decide (x < v)), x < v
  | [], x, hx => by simp at hx
  | z :: zs, x, hx => by
    by_cases hz : z < v
    · rw [List.takeWhile_cons, if_pos (by simpa using hz)] at hx
      rcases List.mem_cons.1 hx with e | e
      · omega
      · exact takeWhile_lt v zs x e
    · rw [List.takeWhile_cons, if_neg (by simpa using hz)] at hx; simp at hx
theorem putL_sorted (zs : List Int) (v : Int) (h : zs.Pairwise (· ≤ ·)) : (putL zs v).Pairwise (· ≤ ·) := by
  have hsp := List.takeWhile_append_dropWhile (p := fun x : Int => decide (x < v)) (l := zs)
  rw [← hsp, List.pairwise_append] at h
  obtain ⟨h1, h2, _⟩ := h
  have hg := dropWhile_ge v zs (by rw [← hsp, List.pairwise_append]; exact ⟨h1, h2, ‹_›⟩)
  unfold putL
  rw [List.pairwise_append, List.pairwise_cons]
  refine ⟨h1, ⟨fun x hx => hg x hx, h2⟩, fun a ha b hb => ?_⟩
  have := takeWhile_lt v zs a ha
  rcases List.mem_cons.1 hb with e | e
  · omega
  · have := hg b e; omega
abbrev srt (zs : List Int) : List Int := zs.mergeSort (fun x y => decide (x ≤ y))
theorem srt_sorted (zs : List Int) : (srt zs).Pairwise (· ≤ ·) :=
  (List.pairwise_mergeSort (le := fun x y : Int => decide (x ≤ y)) (fun a b c h1 h2 => by simp only [decide_eq_true_eq] at *; omega) (fun a b => by simp only [Bool.or_eq_true, decide_eq_true_eq]; omega) zs).imp (fun {a b} h => by simpa using h)
theorem sorted_eq {a b : List Int} (ha : a.Pairwise (· ≤ ·)) (hb : b.Pairwise (· ≤ ·)) (h : a.Perm b) : a = b :=
  List.Perm.eq_of_pairwise (le := (· ≤ ·)) (fun _ _ _ _ h1 h2 => Int.le_antisymm h1 h2) ha hb h
theorem putL_srt (zs : List Int) (v : Int) : putL (srt zs) v = srt (zs ++ [v]) := by
  refine sorted_eq (putL_sorted _ _ (srt_sorted _)) (srt_sorted _) ?_
  refine (putL_perm _ _).trans ?_
  refine ((List.mergeSort_perm zs _).cons v).trans ?_
  refine List.Perm.trans ?_ (List.mergeSort_perm (zs ++ [v]) _).symm
  exact (List.perm_append_singleton v zs).symm

theorem IntsAt.from_ {w : World} {a : Option Addr} {n cap : Nat} {zs : List Int} (h : IntsAt w a n cap zs) (k : Nat) (hk : k ≤ n) : IntsAt w (if cap = k then a else a.map (·.add k)) (n - k) (cap - k) (zs.drop k) := by
  have hl := h.len
  have hle := h.row.le
  refine ⟨by rw [List.length_drop, hl], ⟨by omega, by have := h.row.cap; unfold maxLen at this ⊢; omega, fun hne => ?_⟩, fun z hz => h.wf z (List.mem_of_mem_drop hz)⟩
  obtain ⟨b, o, rfl, hc⟩ := h.row.at_ (by omega)
  rw [if_neg (by omega)]
  refine ⟨b, o + k, by rw [Option.map_some, Addr.add_lit], fun j hj => ?_⟩
  have := hc (k + j) (by omega)
  rw [Nat.add_assoc, this]
  congr 2
  rw [List.getD_eq_getElem?_getD, List.getD_eq_getElem?_getD, List.getElem?_drop]

set_option maxHeartbeats 1000000 in
set_option maxRecDepth 100000 in
theorem refPut (a : Option Addr) (n cap : Nat) (zs : List Int) (v : Int) (w : World) (h : IntsAt w a n cap zs) (hn : n ≤ 1000000) :
    Calls Tryd.prog 33 #[.slice a n cap, .int .i64 v] w fun e w' => ∃ u, e = .returned u ∧ OwnInts w' w.heap.size u (putL zs v) ∧ Lat w w' := by
  have hcap2 := h.row.cap
  have hle2 := h.row.le
  unfold maxLen at hcap2
  have hl := h.len
  have H := Lib.hid h
  have HL := Lib.hid hl
  clear h hl
  go_enter Tryd.func33, Tryd.ntmps33
  go_wp2
  go_loopw [5, 6] (fun u i wr => ∃ k : Nat, k ≤ n ∧ i = .int .i64 k ∧ Hid (OwnInts wr w.heap.size u (zs.take k) ∧ Lat w wr ∧ ∀ j, j < k → zs.getD j 0 < v)) (fun _ i _ => n - (intOf i).toNat)
  case atStart => exact ⟨0, Nat.zero_le _, rfl, by rw [List.take_zero]; exact Own.nil _ _ _, Lat.refl _, fun j hj => by omega⟩
  case round =>
    obtain ⟨k, hk, rfl, hrel⟩ := hrel
    have hsp : (k = n ∨ ¬ zs.getD k 0 < v) ∨ (k < n ∧ zs.getD k 0 < v) := by
      by_cases h1 : k < n
      · by_cases h2 : zs.getD k 0 < v
        · exact .inr ⟨h1, h2⟩
        · exact .inl (.inr h2)
      · exact .inl (.inl (by omega))
    have HA := Lib.hid (H.out.keep hrel.out.2.1)
    rcases hsp with hend | ⟨hlt, hz⟩
    · have hw := tw_split v zs k (by rw [HL.out]; exact hk) hrel.out.2.2 (by rw [HL.out]; exact hend)
      have hfin : putL zs v = (zs.take k ++ [v]) ++ zs.drop k := by
        unfold putL; rw [hw.1, hw.2, List.append_assoc]; rfl
      have HF := Lib.hid hfin
      have hlen : (zs.take k).length < 1000000000000 := by rw [List.length_take]; omega
      have hlen2 : (zs.take k ++ [v]).length + (n - k) < 1000000000000 := by rw [List.length_append, List.length_take, List.length_singleton]; omega
      have HLN := Lib.hid hlen
      have HLN2 := Lib.hid hlen2
      have hc : (decide (k < n) = false ∧ n ≤ k) ∨ (decide ((k : Int) < (n : Int)) = true ∧ ∃ b o, a = some ⟨b, o, none⟩ ∧ wr.cell? ⟨b, o + k, none⟩ = some (.int .i64 (zs.getD k 0)) ∧ decide (zs.getD k 0 < v) = false ∧ k < n) := by
        by_cases h1 : k < n
        · right
          obtain ⟨b, o, ha, hc⟩ := HA.out.row.at_ (by omega)
          exact ⟨decide_eq_true (by omega), b, o, ha, hc k h1, decide_eq_false (by rcases hend with h2 | h2; omega; exact h2), h1⟩
        · exact .inl ⟨decide_eq_false (by omega), by omega⟩
      clear hend hw hfin hlen hlen2
      rcases hc with ⟨dk, hge⟩ | ⟨dk, b, o, rfl, ck, dz, hlt⟩
      rotate_left
      focus
        obtain ⟨z, hz⟩ : ∃ z, z = zs.getD k 0 := ⟨_, rfl⟩
        rw [← hz] at ck dz
        clear hz
      rotate_left
      focus
        have i1 : (0 : Int) ≤ (k : Int) := by omega
        have i2 : (k : Int) ≤ (n : Int) := by omega
        go_upto_region 7 with (at_builtin; refine app_int wr w _ rfl (.tmp 28) (.tmp 30) rfl _ _ v rfl hrel.out.1 rfl HLN.out rfl hrel.out.2.1 ?_; intro v' w2 hown' hb' _)
        have hat := (H.out.keep hb').from_ k hk
        obtain ⟨A2, hA2⟩ : ∃ A2, A2 = (if cap = k then a else a.map (·.add k)) := ⟨_, rfl⟩
        rw [← hA2, show n - k = 0 from by omega] at hat
        have hrun : ∀ W : World, (Instr.slice 32 (.slice a n cap) (some (.int .i64 k)) none none).run Tryd.prog W = .ok (.slice A2 0 (cap - k)) W := fun W => by
          rw [hA2, ← show n - k = 0 from by omega]; simp [go_sem, i1, i2]
        have HAT := Lib.hid hat
        have hl3 : (zs.take k ++ [v]).length + 0 < 1000000000000 := by have := HLN2.out; omega
        have HLN3 := Lib.hid hl3
        clear hl3
        clear hA2 hat
        go_wp2_with (at_builtin; refine app_ints _ w _ rfl (.tmp 32) (.tmp 35) rfl _ _ (zs.drop k) rfl hown' _ 0 _ rfl HAT.out HLN3.out rfl hb' ?_; intro v'' w3 hown'' hb'' _)
        go_ret
        exact ⟨_, rfl, by rw [HF.out]; exact hown'', hb''⟩
      focus
        have i1 : (0 : Int) ≤ (k : Int) := by omega
        have i2 : (k : Int) ≤ (n : Int) := by omega
        go_upto_region 7 with (at_builtin; refine app_int wr w _ rfl (.tmp 28) (.tmp 30) rfl _ _ v rfl hrel.out.1 rfl HLN.out rfl hrel.out.2.1 ?_; intro v' w2 hown' hb' _)
        have hat := (H.out.keep hb').from_ k hk
        rw [if_neg (by omega), Option.map_some, Addr.add_lit] at hat
        have HAT := Lib.hid hat
        clear hat
        go_wp2_with (at_builtin; refine app_ints _ w _ rfl (.tmp 32) (.tmp 35) rfl _ _ (zs.drop k) rfl hown' _ (n - k) _ rfl HAT.out HLN2.out rfl hb' ?_; intro v'' w3 hown'' hb'' _)
        go_ret
        exact ⟨_, rfl, by rw [HF.out]; exact hown'', hb''⟩
    · obtain ⟨b, o, rfl, hc⟩ := HA.out.row.at_ (by omega)
      have ck := hc k hlt
      have hst : zs.take (k + 1) = zs.take k ++ [zs.getD k 0] := by
        have hkz : k < zs.length := by rw [HL.out]; exact hlt
        rw [List.take_succ_eq_append_getElem hkz, List.getD_eq_getElem?_getD, List.getElem?_eq_getElem hkz]; rfl
      have hall : ∀ j, j < k + 1 → zs.getD j 0 < v := fun j hj => by
        by_cases e : j = k
        · subst e; exact hz
        · exact hrel.out.2.2 j (by omega)
      have HALL := Lib.hid hall
      have HST := Lib.hid hst
      have hlen : (zs.take k).length < 1000000000000 := by rw [List.length_take]; omega
      have HLN := Lib.hid hlen
      obtain ⟨z, hze⟩ : ∃ z, z = zs.getD k 0 := ⟨_, rfl⟩
      rw [← hze] at ck hz
      have HZE := Lib.hid hze
      have dk : decide ((k : Int) < (n : Int)) = true := decide_eq_true (by omega)
      have dz : decide (z < v) = true := decide_eq_true hz
      clear hc hst hall hlen hze
      go_wp2_with (at_builtin; refine app_int wr w _ rfl _ _ rfl _ _ z rfl hrel.out.1 rfl HLN.out rfl hrel.out.2.1 ?_; intro v' w2 hown' hb' _)
      go_roundw
      case rel => exact ⟨k + 1, by omega, by go_num, by rw [HST.out, ← HZE.out]; exact hown', hb', HALL.out⟩
      case measure => simp [intOf]; omega
end Go.Proofs.YtcpookgbneoilaaDoor

namespace Go.Proofs.YtcpookgbneoilaaDoor
open Go.ChangeShapes Go.WideShapes Go.ChangeAt Go.RowKit

theorem degF_top (k n : Nat) (h0 : ¬ n * k < 1000) (h2 : 2 ≤ k) (h3 : ∀ x, 2 ≤ x → x < k → ¬ dgc k n x) : degF k n = k := by
  unfold degF; rw [if_neg h0]; exact degFrom_eq k n (k - 2) 2 k h2 (by omega) h3 (.inr (by omega))

set_option maxHeartbeats 400000 in
set_option maxRecDepth 100000 in
theorem refDegree (k n : Nat) (w : World) (hk : 1 ≤ k) (hk2 : k ≤ 16) (hn : n ≤ 999) :
    Calls Tryd.prog 50 #[.int .i64 k, .int .i64 n] w fun e w' => e = .returned (.int .i64 (degF k n)) ∧ w = w' := by
  have hp : n * k ≤ 999 * 16 := Nat.mul_le_mul hn hk2
  have hp' : (n : Int) * (k : Int) ≤ 15984 := by rw [← Int.natCast_mul]; omega
  have hp0 : 0 ≤ (n : Int) * (k : Int) := by rw [← Int.natCast_mul]; omega
  by_cases h1 : n * k < 1000
  · have e1 : degF k n = 1 := by unfold degF; rw [if_pos h1]
    have E := Lib.hid e1; clear e1
    have h1' : (n : Int) * (k : Int) < 1000 := by rw [← Int.natCast_mul]; omega
    clear hp h1
    go_enter Tryd.func50, Tryd.ntmps50
    go_wp2
    go_ret
    exact ⟨by rw [E.out]; rfl, rfl⟩
  · have h1' : 1000 ≤ (n : Int) * (k : Int) := by rw [← Int.natCast_mul]; omega
    have h1b : decide ((n : Int) * (k : Int) < 1000) = false := decide_eq_false (by omega)
    have HN := Lib.hid h1
    have hk3 : 2 ≤ k := by
      rcases Nat.lt_or_ge k 2 with h2 | h2
      · have : k = 1 := by omega
        subst this; omega
      · exact h2
    clear hp h1
    go_enter Tryd.func50, Tryd.ntmps50
    go_wp2
    go_loop [5] (fun d => ∃ j : Nat, 2 ≤ j ∧ j ≤ k ∧ d = .int .i64 j ∧ Hid (∀ x, 2 ≤ x → x < j → ¬ dgc k n x)) (fun d => k - (intOf d).toNat)
    case atStart => exact ⟨2, Nat.le_refl _, hk3, rfl, fun x h1 h2 => by omega⟩
    case round =>
      obtain ⟨j, hj, hjk, rfl, hrel⟩ := hrel
      by_cases hlt : j < k
      · obtain ⟨A, hA⟩ : ∃ A, A = n * k * j := ⟨_, rfl⟩
        obtain ⟨B, hB⟩ : ∃ B, B = k * (j - 1) := ⟨_, rfl⟩
        have a1 : A ≤ 999 * 16 * 16 := by rw [hA]; exact Nat.mul_le_mul (Nat.mul_le_mul hn hk2) (by omega)
        have b1 : B ≤ 16 * 16 := by rw [hB]; exact Nat.mul_le_mul hk2 (by omega)
        have eA : (n : Int) * (k : Int) * (j : Int) = (A : Int) := by rw [hA]; simp
        have eB : (k : Int) * ((j : Int) - 1) = (B : Int) := by rw [hB, show ((j : Int) - 1) = ((j - 1 : Nat) : Int) from by omega]; simp
        have bA : 0 ≤ (n : Int) * (k : Int) * (j : Int) ∧ (n : Int) * (k : Int) * (j : Int) ≤ 255744 := by rw [eA]; omega
        have bB : 0 ≤ (k : Int) * ((j : Int) - 1) ∧ (k : Int) * ((j : Int) - 1) ≤ 256 := by rw [eB]; omega
        have hdg : dgc k n j ↔ (n : Int) * (k : Int) * (j : Int) < 1000 * ((j : Int) + (k : Int) * ((j : Int) - 1)) := by
          unfold dgc; rw [eA, eB, ← hA, ← hB]; omega
        have HD := Lib.hid hdg
        clear eA eB hdg hA hB a1 b1
        by_cases hc : (n : Int) * (k : Int) * (j : Int) < 1000 * ((j : Int) + (k : Int) * ((j : Int) - 1))
        · have he : degF k n = j := degF_eq k n j HN.out hj hjk hrel.out (HD.out.2 hc)
          have E := Lib.hid he; clear he
          go_wp2
          go_ret
          exact ⟨congrArg (fun x : Nat => Ending.returned (.int .i64 (x : Int))) E.out.symm, rfl⟩
        · have hc' : 1000 * ((j : Int) + (k : Int) * ((j : Int) - 1)) ≤ (n : Int) * (k : Int) * (j : Int) := by omega
          have HC := Lib.hid hc
          clear hc
          go_wp2
          go_round
          case rel => exact ⟨j + 1, by omega, by omega, by go_num, fun x h1 h2 => by
            by_cases hx : x = j
            · subst hx; intro h; exact HC.out (HD.out.1 h)
            · exact hrel.out x h1 (by omega)⟩
          case measure => simp [intOf]; omega
      · obtain rfl : j = k := by omega
        have he : degF j n = j := degF_top j n HN.out hk3 hrel.out
        have E := Lib.hid he; clear he
        go_wp2
        go_ret
        exact ⟨congrArg (fun x : Nat => Ending.returned (.int .i64 (x : Int))) E.out.symm, rfl⟩
end Go.Proofs.YtcpookgbneoilaaDoor

namespace Go.Proofs.YtcpookgbneoilaaDoor
open Go.ChangeShapes Go.WideShapes Go.ChangeAt Go.RowKit

theorem refNext (n : Nat) (w : World) (h1 : n ≤ 2147483647) :
    Calls Tryd.prog 49 #[.int .i64 n] w fun e w' => e = .returned (.int .i64 (nxtN n)) ∧ w = w' := by
  go_enter Tryd.func49, Tryd.ntmps49
  go_wp2
  go_ret
  exact ⟨by rw [← nxt_cast]; rfl, rfl⟩

set_option maxHeartbeats 1000000 in
set_option maxRecDepth 100000 in
theorem refSet (k seed : Nat) (w : World) (h1 : 1 ≤ k) (h2 : k ≤ 16) (h3 : 1 ≤ seed) (h4 : seed ≤ 10000) :
    Calls Tryd.prog 31 #[.int .i64 k, .int .i64 seed] w fun e w' => ∃ a cap, e = .returned (.slice a (setZ k seed).length cap) ∧ IntsAt w' a (setZ k seed).length cap (setZ k seed) ∧ Lat w w' := by
  by_cases hle : seed ≤ k
  · have d1 : decide (seed ≤ k) = true := decide_eq_true hle
    have e1 : setZ k seed = [((seed - 1 : Nat) : Int)] := by unfold setZ; rw [if_pos hle]
    have e2 : (seed : Int) - 1 = ((seed - 1 : Nat) : Int) := by omega
    have hat := ints_new w [(seed : Int) - 1] 3 (by simp) (by intro z hz; rw [List.mem_singleton] at hz; subst hz; omega)
    rw [e1, ← e2]
    have HT := Lib.hid hat
    clear hat e1 e2
    go_enter Tryd.func31, Tryd.ntmps31
    go_wp2
    go_ret
    exact ⟨_, _, rfl, HT.out, Lat.alloc _ _⟩
  · have d1 : decide (seed ≤ k) = false := decide_eq_false hle
    have hl := drawn_length k seed h1 h2 (by omega) h4
    obtain ⟨d, hd⟩ : ∃ d, d = degF k (nxtN seed % 1000) := ⟨_, rfl⟩
    have hdb := degF_bd k (nxtN seed % 1000) h1 (by omega)
    rw [← hd] at hl hdb
    have hdr : dgo k d 150 (nxtN seed) [] = drawn k seed := by rw [hd]; rfl
    have hset : setZ k seed = srt ((drawn k seed).map Int.ofNat) := by unfold setZ; rw [if_neg hle]
    have hsl : (setZ k seed).length = d := by rw [hset, List.length_mergeSort, List.length_map, hl]
    rw [hsl]
    have HD := Lib.hid hd; have HL := Lib.hid hl; have HDR := Lib.hid hdr; have HS := Lib.hid hset; have HSL := Lib.hid hsl
    have hs3 := nxtN_lt seed
    clear hd hl hdr hset hle hsl
    go_enter Tryd.func31, Tryd.ntmps31
    go_wp2_with (first | (go_at_call 49; refine (refNext seed _ (by omega)).mono ?_; rintro e w' ⟨rfl, rfl⟩) | (go_at_call 50; refine (refDegree k (nxtN seed % 1000) _ h1 h2 (by omega)).mono ?_; rw [← HD.out]; rintro e w' ⟨rfl, rfl⟩))
    have hd0 : 1 ≤ d := hdb.1
    have hd16 : d ≤ 16 := by omega
    clear hdb
    go_loopg [5, 7] 150 (fun f nv v wr => ∃ (nn : Nat) (L : List Nat) (a : Option Addr) (ln cap : Nat), nv = .int .i64 nn ∧ nn < 2147483647 ∧ v = .slice a ln cap ∧ Hid (ln = L.length ∧ IntsAt wr a ln cap (srt (L.map Int.ofNat)) ∧ Lat w wr ∧ dgo k d f nn L = drawn k seed ∧ L.length ≤ d ∧ ∀ i ∈ L, i < k))
    case atStart => exact ⟨nxtN seed, [], none, 0, 0, rfl, hs3, rfl, rfl, by rw [List.map_nil, srt, List.mergeSort_nil]; exact IntsAt.nil _, Lat.refl _, HDR.out, Nat.zero_le _, by simp⟩
    case round =>
      obtain ⟨nn, L, a, ln, cap, rfl, hnn, rfl, hrel⟩ := hrel
      obtain ⟨hln2, hat, hb, hdg, hLd, hLk⟩ := hrel.out
      have hlb : ln ≤ 16 := by omega
      have HDG := Lib.hid hdg; have HLN := Lib.hid hln2; have HLK := Lib.hid hLk; have HA := Lib.hid hat; have HB := Lib.hid hb
      have hnext := nxtN_lt nn
      by_cases hlt : ln < d
      · have hgk : ∃ g, gk = g + 1 := by
          rcases Nat.eq_zero_or_pos gk with h0 | h0
          · subst h0
            exfalso
            have e : L = drawn k seed := hdg
            have := HL.out
            rw [← e] at this
            omega
          · exact ⟨gk - 1, by omega⟩
        obtain ⟨g, hg⟩ := hgk
        have hstep : dgo k d g (nxtN nn) (if nxtN nn % k ∈ L then L else L ++ [nxtN nn % k]) = drawn k seed := by
          rw [hg] at hdg
          rw [← hdg]
          have hL : L.length < d := by omega
          exact (if_pos hL).symm
        have HST := Lib.hid hstep
        have HG := Lib.hid hg
        have hkz : ((k : Int) == 0) = false := by simp; omega
        clear hdg hLd hLk hat hb hln2 hstep hg hrel
        by_cases hmem : nxtN nn % k ∈ L
        · have hm2 : ((nxtN nn : Nat) : Int) % (k : Int) ∈ srt (L.map Int.ofNat) := by rw [List.mem_mergeSort]; exact (mem_ofNat _ L).2 hmem
          have HM := Lib.hid hm2
          have HM1 := Lib.hid hmem
          clear hm2 hmem
          go_wp2_with (first | (go_at_call 49; refine (refNext nn _ (by omega)).mono ?_; rintro e w' ⟨rfl, rfl⟩) | (go_at_call 9; refine (refIn_yes a ln cap (srt (L.map Int.ofNat)) _ _ HA.out HM.out).mono ?_; rintro e w' ⟨rfl, rfl⟩))
          go_roundg g
          case measure => rw [HG.out]; omega
          case rel => exact ⟨nxtN nn, L, a, ln, cap, rfl, hnext, rfl, HLN.out, HA.out, HB.out, by have := HST.out; rw [if_pos HM1.out] at this; exact this, by rw [← HLN.out]; omega, HLK.out⟩
        · have hm2 : ((nxtN nn : Nat) : Int) % (k : Int) ∉ srt (L.map Int.ofNat) := fun h => hmem ((mem_ofNat _ L).1 (by rw [List.mem_mergeSort] at h; exact h))
          have HM := Lib.hid hm2
          have HM1 := Lib.hid hmem
          have hput : putL (srt (L.map Int.ofNat)) ((nxtN nn % k : Nat) : Int) = srt ((L ++ [nxtN nn % k]).map Int.ofNat) := by
            rw [putL_srt, List.map_append]; rfl
          have hpl : (putL (srt (L.map Int.ofNat)) ((nxtN nn % k : Nat) : Int)).length = ln + 1 := by
            rw [putL_length, List.length_mergeSort, List.length_map, HLN.out]
          have hwf : ∀ z ∈ putL (srt (L.map Int.ofNat)) ((nxtN nn % k : Nat) : Int), -9223372036854775808 ≤ z ∧ z ≤ 9223372036854775807 := fun z hz => by
            rw [mem_putL] at hz
            rcases hz with hz | hz
            · subst hz
              have : nxtN nn % k < k := Nat.mod_lt _ (by omega)
              omega
            · exact HA.out.wf z hz
          have HP := Lib.hid hput
          have HPL := Lib.hid hpl
          have HWF := Lib.hid hwf
          have hln1 : ln ≤ 1000000 := by omega
          clear hm2 hmem hput hpl hwf
          go_wp2_with (first | (go_at_call 49; refine (refNext nn _ (by omega)).mono ?_; rintro e w' ⟨rfl, rfl⟩) | (go_at_call 9; refine (refIn_no a ln cap (srt (L.map Int.ofNat)) _ _ HA.out HM.out).mono ?_; rintro e w' ⟨rfl, rfl⟩) | (go_at_call 33; refine (refPut a ln cap (srt (L.map Int.ofNat)) ((nxtN nn % k : Nat) : Int) _ HA.out hln1).mono ?_; rintro e w' ⟨u, rfl, hown', hb'⟩))
          obtain ⟨a2, cap2, hu, hat2⟩ := OwnInts.slice hown' HWF.out
          rw [HPL.out] at hu hat2
          subst hu
          go_roundg g
          case measure => rw [HG.out]; omega
          case rel =>
            refine ⟨nxtN nn, L ++ [nxtN nn % k], a2, ln + 1, cap2, rfl, hnext, rfl, by rw [List.length_append, List.length_singleton, HLN.out], by rw [← HP.out]; exact hat2, Lat.trans HB.out hb', by have := HST.out; rw [if_neg HM1.out] at this; exact this, by rw [List.length_append, List.length_singleton, ← HLN.out]; omega, fun i hi => ?_⟩
            rcases List.mem_append.1 hi with hi | hi
            · exact HLK.out i hi
            · rw [List.mem_singleton] at hi; subst hi; exact Nat.mod_lt _ (by omega)
      · have hLd' : L = drawn k seed := by
          rw [dgo_done _ _ _ _ _ (by omega)] at hdg; exact hdg
        have hlnd : ln = d := by omega
        have hfin : srt (L.map Int.ofNat) = setZ k seed := by rw [HS.out, hLd']
        have HF := Lib.hid hfin; have HND := Lib.hid hlnd
        clear hdg hLd hLk hat hb hln2 hrel hLd' hlnd hfin
        go_wp2_with fail
        go_ret
        have h := HA.out
        rw [HF.out] at h
        obtain rfl := HND.out
        exact ⟨a, cap, rfl, h, HB.out⟩
end Go.Proofs.YtcpookgbneoilaaDoor

namespace Go.Proofs.YtcpookgbneoilaaDoor
open Go.ChangeShapes Go.WideShapes Go.ChangeAt Go.RowKit

def plF (k : Nat) (K : Kn) (lv tv : Value) (j : Nat) : Value := if j = 0 then .int .i64 k else if j < 17 then .bool (K ((j : Int) - 1)).isSome else if j < 33 then .string (S ((K ((j : Int) - 17)).getD [])) else if j = 33 then lv else tv
structure RPeelIn (G : Nat → Prop) (p k m : Nat) (K : Kn) (T : List Int) (ds : List Dr) (lv tv : Value) (w : World) : Prop where
  lt : ∀ i, G i → i < w.heap.size
  gp : G p
  blk : Blk w p 35 (plF k K lv tv)
  drops : OwnR w 0 37 2 lv (ds.map Dr.row)
  taken : OwnInts w 0 tv T
  own1 : ∀ i, lv.ownBlock = some i → G i ∧ i ≠ p
  own2 : ∀ i, tv.ownBlock = some i → G i ∧ i ≠ p
  kn : ∀ z b, K z = some b → 0 ≤ z ∧ z < (k : Int) ∧ b.length = m
  ok : ∀ d ∈ ds, 1 ≤ d.s ∧ d.s ≤ 10000 ∧ d.t.size = m
theorem RPeelIn.keep {G : Nat → Prop} {p k m : Nat} {K : Kn} {T : List Int} {ds : List Dr} {lv tv : Value} {w w' : World} (h : RPeelIn G p k m K T ds lv tv w) (hb : Lat w w') : RPeelIn G p k m K T ds lv tv w' :=
  ⟨fun i hi => Nat.lt_of_lt_of_le (h.lt i hi) hb.size, h.gp, h.blk.keep hb, h.drops.keep hb, Own.keep h.taken hb, h.own1, h.own2, h.kn, h.ok⟩
def ukn (K : Kn) (zs : List Int) (j : Nat) : List Int := (zs.take j).filter (unkn K)
theorem ukn_succ (K : Kn) {zs : List Int} {j : Nat} (h : j < zs.length) : ukn K zs (j + 1) = if unkn K (zs.getD j 0) = true then ukn K zs j ++ [zs.getD j 0] else ukn K zs j := by
  unfold ukn
  rw [List.take_succ_eq_append_getElem h, List.filter_append, List.getD_eq_getElem?_getD, List.getElem?_eq_getElem h]
  show _ ++ [zs[j]].filter _ = _
  cases e : unkn K zs[j] <;> simp [e]
theorem ukn_len (K : Kn) (zs : List Int) (j : Nat) : (ukn K zs j).length ≤ j := by
  unfold ukn
  refine Nat.le_trans (List.length_filter_le _ _) ?_
  rw [List.length_take]; omega

set_option maxHeartbeats 8000000 in
set_option maxRecDepth 100000 in
theorem refLeft (G : Nat → Prop) (p k m : Nat) (K : Kn) (T : List Int) (ds : List Dr) (lv tv : Value) (z : Nat) (t : Bts) (w : World) (h : RPeelIn G p k m K T ds lv tv w) (h1 : 1 ≤ k) (h2 : k ≤ 16) (hz1 : 1 ≤ z) (hz2 : z ≤ 10000) :
    Calls Tryd.prog 30 #[.pointer (some ⟨p, 0, none⟩), .agg #[.int .i64 z, .string (S t)]] w fun e w' => ∃ v, e = .returned v ∧ OwnInts w' w.heap.size v ((setZ k z).filter (unkn K)) ∧ Lat w w' := by
  have c0 : w.cell? ⟨p, 0, none⟩ = some (.int .i64 k) := h.blk.cell 0 (by decide)
  have hpl := h.blk.lt
  have hkn : ∀ W, Lat w W → ∀ q, q < 16 → W.cell? ⟨p, 1 + q, none⟩ = some (.bool (!unkn K (q : Int))) := fun W hW q hq => by
    rw [(h.blk.keep hW).cell (1 + q) (by omega)]
    unfold plF unkn
    rw [if_neg (by omega), if_pos (by omega), show ((1 + q : Nat) : Int) - 1 = (q : Int) by omega]
    cases K (q : Int) <;> rfl
  have hset := fun W => refSet k z W h1 h2 hz1 hz2
  have hs16 := setZ_lt k z h1 hz1
  have hsl := setZ_length k z h1 h2 hz2
  obtain ⟨ZS, hZS⟩ : ∃ ZS, ZS = setZ k z := ⟨_, rfl⟩
  rw [← hZS] at hset hs16 hsl ⊢
  obtain ⟨n, hn⟩ : ∃ n, n = ZS.length := ⟨_, rfl⟩
  rw [← hn] at hset hsl
  have HKN := Lib.hid hkn; have HSET := Lib.hid hset; have HS16 := Lib.hid hs16; have HSL := Lib.hid hsl; have HN := Lib.hid hn
  have hpne : p ≠ w.heap.size := by omega
  clear h hkn hset hs16 hsl hZS hn
  go_enter Tryd.func30, Tryd.ntmps30
  have c0 : (w.alloc (.cells #[.int .i64 z, .string (S t)] 37)).cell? ⟨p, 0, none⟩ = some (.int .i64 k) := (Lat.alloc _ _).cell_at c0
  go_upto_region 2 with fail
  have hF : (w.alloc (.cells #[.int .i64 z, .string (S t)] 37)).drew.cell? ⟨p, 0, none⟩ = some (.int .i64 k) ∧ (w.alloc (.cells #[.int .i64 z, .string (S t)] 37)).drew.cell? ⟨w.heap.size, 0, none⟩ = some (.int .i64 z) := ⟨c0, by simp⟩
  refine wp_region_gate (fun w' => w'.cell? ⟨p, 0, none⟩ = some (.int .i64 k) ∧ w'.cell? ⟨w.heap.size, 0, none⟩ = some (.int .i64 z)) (fun _ => True) 1000 (by kernel_rfl) ?_
  refine gate_takeF (i := 0) (v := ?_) rfl (by kernel_rfl) (by kernel_rfl) (by kernel_rfl) (fun _ _ _ h => h) (by decide) ⟨hF, fun _ => trivial⟩ (Or.inl ⟨by kernel_rfl, ?_⟩) ?_
  rotate_left
  · intro wq hSw; obtain ⟨s0, s1⟩ := hSw; go_simp; rfl
  simp only [Act.put]
  refine gate_takeF (i := 1) (v := ?_) rfl (by kernel_rfl) (by kernel_rfl) (by kernel_rfl) (fun _ _ _ h => h) (by decide) ⟨hF, fun _ => trivial⟩ (Or.inl ⟨by kernel_rfl, ?_⟩) ?_
  rotate_left
  · intro wq hSw; obtain ⟨s0, s1⟩ := hSw; go_simp; rfl
  simp only [Act.put]
  refine gate_takeF (i := 2) (v := ?_) rfl (by kernel_rfl) (by kernel_rfl) (by kernel_rfl) (fun _ _ _ h => h) (by decide) ⟨hF, fun _ => trivial⟩ (Or.inl ⟨by kernel_rfl, ?_⟩) ?_
  rotate_left
  · intro wq hSw; obtain ⟨s0, s1⟩ := hSw; go_simp; rfl
  simp only [Act.put]
  refine gate_takeF (i := 3) (v := ?_) rfl (by kernel_rfl) (by kernel_rfl) (by kernel_rfl) (fun _ _ _ h => h) (by decide) ⟨hF, fun _ => trivial⟩ (Or.inl ⟨by kernel_rfl, ?_⟩) ?_
  rotate_left
  · intro wq hSw; obtain ⟨s0, s1⟩ := hSw; go_simp; rfl
  simp only [Act.put]
  refine gate_takeF (i := 4) (v := ?_) rfl (by kernel_rfl) (by kernel_rfl) (by kernel_rfl) (fun _ _ _ h => h) (by decide) ⟨hF, fun _ => trivial⟩ (Or.inl ⟨by kernel_rfl, ?_⟩) ?_
  rotate_left
  · intro wq hSw; obtain ⟨s0, s1⟩ := hSw; go_simp; rfl
  simp only [Act.put]
  refine gate_takeF (i := 5) (v := ?_) rfl (by kernel_rfl) (by kernel_rfl) (by kernel_rfl) (fun _ _ _ h => h) (by decide) ⟨hF, fun _ => trivial⟩ (Or.inl ⟨by kernel_rfl, ?_⟩) ?_
  rotate_left
  · intro wq hSw; obtain ⟨s0, s1⟩ := hSw; go_simp; rfl
  simp only [Act.put]
  refine gate_one (i := 6) (by kernel_rfl) rfl (fun KK hK => ?_)
  go_simp
  refine (HSET.out _).mono ?_
  rintro e w2 ⟨sa, sc, rfl, hsi, hb2⟩
  have hF' : w2.cell? ⟨p, 0, none⟩ = some (.int .i64 k) ∧ w2.cell? ⟨w.heap.size, 0, none⟩ = some (.int .i64 z) := ⟨hb2.cell_at hF.1, hb2.cell_at hF.2⟩
  refine hK _ _ ⟨hF', fun _ => trivial⟩ ?_
  have HL2 := Lib.hid (((Lat.alloc w (.cells #[.int .i64 z, .string (S t)] 37)).trans (Lat.drew _)).trans hb2); have HSI := Lib.hid hsi
  clear hK KK hF hb2 hsi c0
  have hF := hF'
  clear hF'
  refine gate_takeF (i := 7) (v := ?_) rfl (by kernel_rfl) (by kernel_rfl) (by kernel_rfl) (fun _ _ _ h => h) (by decide) ⟨hF, fun _ => trivial⟩ (Or.inl ⟨by kernel_rfl, ?_⟩) ?_
  rotate_left
  · intro wq hSw; obtain ⟨s0, s1⟩ := hSw; go_simp; rfl
  simp only [Act.put]
  refine gate_done (by kernel_rfl) ?_ _
  clear hF
  simp only [List.getElem_toArray, List.getElem_cons_succ, List.getElem_cons_zero]
  go_simp
  go_wp2_with fail
  go_loopg [5, 7] n (fun f ov iv wx => ∃ j : Nat, j + f = n ∧ iv = .int .i64 j ∧ Hid (OwnInts wx w2.heap.size ov (ukn K ZS j) ∧ Lat w2 wx))
  case atStart => exact ⟨0, by omega, rfl, Own.nil _ _ _, Lat.refl w2⟩
  case round =>
    obtain ⟨j, hj, rfl, hrel⟩ := hrel
    by_cases hlt : j < n
    · obtain ⟨f, rfl⟩ : ∃ f, gk = f + 1 := ⟨gk - 1, by omega⟩
      have dj : decide (j < n) = true := decide_eq_true hlt
      have hjl : j < ZS.length := by rw [← HN.out]; exact hlt
      have hzj := HS16.out _ (getD_mem ZS j hjl)
      have hus := ukn_succ K hjl
      have hul := ukn_len K ZS j
      obtain ⟨b, o, rfl, hc⟩ := (HSI.out.keep hrel.out.2).row.at_ (by omega)
      have cz := hc j hlt
      obtain ⟨q, hq⟩ : ∃ q : Nat, ZS.getD j 0 = (q : Int) := ⟨(ZS.getD j 0).toNat, by omega⟩
      rw [hq] at cz hus hzj
      have q0 : (0 : Int) ≤ (q : Int) := by omega
      have q1 : (q : Int) < 16 := by omega
      have cb := HKN.out wr (HL2.out.trans hrel.out.2) q (by omega)
      obtain ⟨U, hU⟩ : ∃ U, U = unkn K (q : Int) := ⟨_, rfl⟩
      rw [← hU] at cb hus
      have i0 : (0 : Int) ≤ (j : Int) := by omega
      have hn16 : n ≤ 16 := by have := HSL.out.2; omega
      have i1 : (j : Int) < (n : Int) := by omega
      have HUS := Lib.hid hus; have HUL := Lib.hid hul; have HREL := Lib.hid hrel.out
      clear hrel hc hus hul hjl hzj hq hU
      cases U with
      | true =>
        rw [Bool.not_true] at cb
        have hus2 := HUS.out
        rw [if_pos rfl] at hus2
        have HU2 := Lib.hid hus2
        have hr2 : ∀ d, OwnInts (wr.drewN d) w2.heap.size u5 (ukn K ZS j) ∧ Lat w2 (wr.drewN d) := fun d => ⟨Own.keep HREL.out.1 (Lat.drewN _ d), HREL.out.2.trans (Lat.drewN _ d)⟩
        have HR2 := Lib.hid hr2
        clear hus2 HUS hr2 HREL
        go_upto_region 6 with fail
        go_quiet (fail)
        go_wp2_with (at_builtin; refine app_intL (wr.drewN nq) w2.heap.size rfl (.tmp 31) (.tmp 36) rfl u5 (ukn K ZS j) (q : Int) rfl (HR2.out nq).1 rfl (by have := HUL.out; omega) (HR2.out nq).2.size ?_; intro v3 w3 hown3 hfr3 hloc3)
        have hl3 := hfr3.lat_of (HR2.out nq).2 (fun k hk => (Own.lt (HR2.out nq).1 k hk).1)
        rw [← HU2.out] at hown3
        have HO3 := Lib.hid hown3; have HL3 := Lib.hid hl3
        clear hown3 hfr3 hloc3 hl3
        try go_wp2_with fail
        go_roundg f
        case measure => omega
        case rel => exact ⟨j + 1, by omega, by go_num, HO3.out, HL3.out⟩
      | false =>
        rw [Bool.not_false] at cb
        have hus2 := HUS.out
        rw [if_neg (fun e => Bool.noConfusion e)] at hus2
        have HU2 := Lib.hid hus2
        have hr2 : ∀ d, OwnInts (wr.drewN d) w2.heap.size u5 (ukn K ZS j) ∧ Lat w2 (wr.drewN d) := fun d => ⟨Own.keep HREL.out.1 (Lat.drewN _ d), HREL.out.2.trans (Lat.drewN _ d)⟩
        have HR2 := Lib.hid hr2
        clear hus2 HUS hr2 HREL
        go_upto_region 6 with fail
        go_quiet (fail)
        go_wp2_with fail
        go_roundg f
        case measure => omega
        case rel => exact ⟨j + 1, by omega, by go_num, by rw [HU2.out]; exact HR2.out _⟩
    · obtain rfl : j = n := by omega
      have dj : decide (j < j) = false := decide_eq_false (by omega)
      have ho := hrel.out.1
      have hu : ukn K ZS j = ZS.filter (unkn K) := by unfold ukn; rw [List.take_of_length_le (by rw [← HN.out]; exact Nat.le_refl _)]
      rw [hu] at ho
      have HO := Lib.hid (Own.mono ho HL2.out.size); have HL := Lib.hid (HL2.out.trans hrel.out.2)
      clear hrel ho hu
      go_wp2_with fail
      go_ret
      exact ⟨_, rfl, HO.out, HL.out⟩
end Go.Proofs.YtcpookgbneoilaaDoor

namespace Go.Proofs.YtcpookgbneoilaaDoor
open Go.ChangeShapes Go.WideShapes Go.ChangeAt Go.RowKit

theorem OwnInts.frP {w w' : World} {B : Nat} {v : Value} {zs : List Int} {H : Nat → Prop} (h : OwnInts w B v zs) (hf : Fr H w w') (hn : ∀ g, v.ownBlock = some g → ¬ H g) : OwnInts w' B v zs := by
  obtain ⟨h1, h2⟩ := h
  refine ⟨h1, ?_⟩
  rcases h2 with h2 | ⟨g, cap, cur, rfl, hg, hh, rest⟩
  · exact .inl h2
  · exact .inr ⟨g, cap, cur, rfl, hg, by rw [hf.block g (Array.getElem?_eq_some_iff.1 hh).1 (hn g rfl)]; exact hh, rest⟩
theorem apartD {w : World} {B C : Nat} {v u : Value} {xs : List (List Value)} {zs : List Int} (h : OwnR w B 37 2 v xs) (k : OwnInts w C u zs) : ∀ g, v.ownBlock = some g → u.ownBlock ≠ some g := fun g hg hu => by
  rcases h.2.2 with ⟨rfl, _⟩ | ⟨g1, c1, cur1, rfl, _, hh1, _⟩
  · cases hg
  · rcases k.2 with ⟨rfl, _⟩ | ⟨g2, c2, cur2, rfl, _, hh2, _⟩
    · cases hu
    · cases hg; cases hu
      rw [hh1] at hh2
      injection hh2 with e
      injection e with _ e2 _
      exact absurd e2 (by decide)
theorem blk_frm {w w' : World} {g n : Nat} {F : Nat → Value} {H : Nat → Prop} (h : Blk w g n F) (hf : Fr H w w') (hn : ¬ H g) : Blk w' g n F :=
  ⟨Nat.lt_of_lt_of_le h.lt hf.size, fun j hj => hf.cell_at (h.cell j hj) hn, fun j hj => hf.free_at (p := ⟨g, j, none⟩) h.lt (h.free j hj) hn⟩
theorem plF_lv (k : Nat) (K : Kn) (lv tv lv' : Value) (j : Nat) : (if j = 33 then lv' else plF k K lv tv j) = plF k K lv' tv j := by
  unfold plF
  by_cases e : j = 33
  · rw [if_pos e, if_neg (by omega), if_neg (by omega), if_neg (by omega), if_pos e]
  · rw [if_neg e, if_neg e, if_neg e]
theorem plF_tv (k : Nat) (K : Kn) (lv tv tv' : Value) (j : Nat) (hj : j < 35) : (if j = 34 then tv' else plF k K lv tv j) = plF k K lv tv' j := by
  unfold plF
  by_cases e : j = 34
  · rw [if_pos e, if_neg (by omega), if_neg (by omega), if_neg (by omega), if_neg (by omega)]
  · rw [if_neg e]
    by_cases e2 : j = 33
    · rw [if_pos e2, if_pos e2]
    · have h1 : j < 33 := by omega
      rw [if_neg e2, if_neg e2, if_pos h1, if_pos h1]
def GN (G : Nat → Prop) (w0 w : World) (i : Nat) : Prop := i < w.heap.size ∧ (G i ∨ w0.heap.size ≤ i)
section
variable {G : Nat → Prop} {p k m : Nat} {K : Kn} {T : List Int} {ds : List Dr} {lv tv : Value} {w w9 : World}
theorem RPeelIn.pushD (h : RPeelIn G p k m K T ds lv tv w) {w0 : World} (h0 : w0.heap.size ≤ w.heap.size) {lv' : Value} {ds' : List Dr} (hown : OwnR w9 0 37 2 lv' (ds'.map Dr.row)) (hf : Fr (fun i => lv.ownBlock = some i) w w9) (hl : ∀ i, lv'.ownBlock = some i → lv.ownBlock = some i ∨ w.heap.size ≤ i) (hok : ∀ d ∈ ds', 1 ≤ d.s ∧ d.s ≤ 10000 ∧ d.t.size = m) :
    RPeelIn (GN G w0 (w9.setCell ⟨p, 33, none⟩ lv')) p k m K T ds' lv' tv (w9.setCell ⟨p, 33, none⟩ lv') := by
  have hsz : (w9.setCell ⟨p, 33, none⟩ lv').heap.size = w9.heap.size := by simp [World.setCell]
  have hpn : lv.ownBlock ≠ some p := fun e => (h.own1 p e).2 rfl
  have hblk := blk_frm h.blk hf (fun e => hpn e)
  have hnp : ∀ i, lv'.ownBlock = some i → i ≠ p := fun i hi e => by
    rcases hl i hi with h1 | h1
    · exact (h.own1 i h1).2 e
    · have := h.blk.lt; omega
  refine ⟨fun i hi => hi.1, ⟨by rw [hsz]; exact hblk.lt, .inl h.gp⟩, (hblk.set (by omega) lv').congr fun j _ => plF_lv k K lv tv lv' j, OwnR.fr hown (Fr.set (S := fun i => i = p) w9 ⟨p, 33, none⟩ lv' rfl) (fun i hi e => hnp i hi e), ?_, fun i hi => ⟨⟨by rw [hsz]; exact (OwnR.lt hown i hi).2, ?_⟩, hnp i hi⟩, fun i hi => ⟨⟨?_, .inl (h.own2 i hi).1⟩, (h.own2 i hi).2⟩, h.kn, hok⟩
  · exact (OwnInts.frP h.taken hf (fun g hg e => apartD h.drops h.taken g e hg)).frP (Fr.set (S := fun i => i = p) w9 ⟨p, 33, none⟩ lv' rfl) (fun g hg e => (h.own2 g hg).2 e)
  · rcases hl i hi with h1 | h1
    · exact .inl (h.own1 i h1).1
    · exact .inr (by omega)
  · rw [hsz]; exact Nat.lt_of_lt_of_le (h.lt i (h.own2 i hi).1) hf.size
theorem RPeelIn.pushT (h : RPeelIn G p k m K T ds lv tv w) {w0 : World} (h0 : w0.heap.size ≤ w.heap.size) {tv' : Value} {T' : List Int} (hown : OwnInts w9 0 tv' T') (hf : Fr (fun i => tv.ownBlock = some i) w w9) (hl : ∀ i, tv'.ownBlock = some i → tv.ownBlock = some i ∨ w.heap.size ≤ i) :
    RPeelIn (GN G w0 (w9.setCell ⟨p, 34, none⟩ tv')) p k m K T' ds lv tv' (w9.setCell ⟨p, 34, none⟩ tv') := by
  have hsz : (w9.setCell ⟨p, 34, none⟩ tv').heap.size = w9.heap.size := by simp [World.setCell]
  have hpn : tv.ownBlock ≠ some p := fun e => (h.own2 p e).2 rfl
  have hblk := blk_frm h.blk hf (fun e => hpn e)
  have hnp : ∀ i, tv'.ownBlock = some i → i ≠ p := fun i hi e => by
    rcases hl i hi with h1 | h1
    · exact (h.own2 i h1).2 e
    · have := h.blk.lt; omega
  refine ⟨fun i hi => hi.1, ⟨by rw [hsz]; exact hblk.lt, .inl h.gp⟩, (hblk.set (by omega) tv').congr fun j hj => plF_tv k K lv tv tv' j hj, ?_, hown.frP (Fr.set (S := fun i => i = p) w9 ⟨p, 34, none⟩ tv' rfl) (fun i hi e => hnp i hi e), fun i hi => ⟨⟨?_, .inl (h.own1 i hi).1⟩, (h.own1 i hi).2⟩, fun i hi => ⟨⟨by rw [hsz]; exact (Own.lt hown i hi).2, ?_⟩, hnp i hi⟩, h.kn, h.ok⟩
  · exact OwnR.fr (OwnR.fr h.drops hf (fun g hg e => apartD h.drops h.taken g hg e)) (Fr.set (S := fun i => i = p) w9 ⟨p, 34, none⟩ tv' rfl) (fun g hg e => (h.own1 g hg).2 e)
  · rw [hsz]; exact Nat.lt_of_lt_of_le (h.lt i (h.own1 i hi).1) hf.size
  · rcases hl i hi with h1 | h1
    · exact .inl (h.own2 i h1).1
    · exact .inr (by omega)
theorem RPeelIn.setD (h : RPeelIn G p k m K T ds lv tv w) {w0 : World} {lv' : Value} {ds' : List Dr} {B : Nat} (hown : OwnR w B 37 2 lv' (ds'.map Dr.row)) (hB : w0.heap.size ≤ B) (hpB : p < B) (hok : ∀ d ∈ ds', 1 ≤ d.s ∧ d.s ≤ 10000 ∧ d.t.size = m) :
    RPeelIn (GN G w0 (w.setCell ⟨p, 33, none⟩ lv')) p k m K T ds' lv' tv (w.setCell ⟨p, 33, none⟩ lv') := by
  have hsz : (w.setCell ⟨p, 33, none⟩ lv').heap.size = w.heap.size := by simp [World.setCell]
  have hlt := OwnR.lt hown
  refine ⟨fun i hi => hi.1, ⟨by rw [hsz]; exact h.blk.lt, .inl h.gp⟩, (h.blk.set (by omega) lv').congr fun j _ => plF_lv k K lv tv lv' j, OwnR.fr (OwnR.base hown (Nat.zero_le B)) (Fr.set (S := fun i => i = p) w ⟨p, 33, none⟩ lv' rfl) (fun i hi e => by have := (hlt i hi).1; omega), ?_, fun i hi => ⟨⟨by rw [hsz]; exact (hlt i hi).2, .inr (by have := (hlt i hi).1; omega)⟩, by have := (hlt i hi).1; omega⟩, fun i hi => ⟨⟨by rw [hsz]; exact h.lt i (h.own2 i hi).1, .inl (h.own2 i hi).1⟩, (h.own2 i hi).2⟩, h.kn, hok⟩
  exact OwnInts.frP h.taken (Fr.set (S := fun i => i = p) w ⟨p, 33, none⟩ lv' rfl) (fun g hg e => (h.own2 g hg).2 e)
theorem RPeelIn.learn (h : RPeelIn G p k m K T ds lv tv w) {z : Nat} (hz : z < k) (hk : k ≤ 16) {b : Bts} (hb : b.length = m) :
    RPeelIn G p k m (updK K (z : Int) b) T ds lv tv ((w.setCell ⟨p, 1 + z, none⟩ (.bool true)).setCell ⟨p, 17 + z, none⟩ (.string (S b))) := by
  have hf : Fr (fun i => i = p) w ((w.setCell ⟨p, 1 + z, none⟩ (.bool true)).setCell ⟨p, 17 + z, none⟩ (.string (S b))) := (Fr.set (S := fun i => i = p) w ⟨p, 1 + z, none⟩ (.bool true) rfl).then_set ⟨p, 17 + z, none⟩ (.string (S b)) (.inl rfl)
  refine ⟨fun i hi => Nat.lt_of_lt_of_le (h.lt i hi) hf.size, h.gp, ((h.blk.set (by omega) _).set (by omega) _).congr fun j hj => ?_, OwnR.fr h.drops hf (fun g hg e => (h.own1 g hg).2 e), OwnInts.frP h.taken hf (fun g hg e => (h.own2 g hg).2 e), h.own1, h.own2, fun y c hy => ?_, h.ok⟩
  · unfold plF updK
    by_cases e1 : j = 17 + z
    · rw [if_pos e1, if_neg (by omega), if_neg (by omega), if_pos (by omega), if_pos (by omega)]; rfl
    · rw [if_neg e1]
      by_cases e2 : j = 1 + z
      · rw [if_pos e2, if_neg (by omega), if_pos (by omega), if_pos (by omega)]; rfl
      · rw [if_neg e2]
        by_cases e3 : j = 0
        · rw [if_pos e3, if_pos e3]
        · rw [if_neg e3, if_neg e3]
          by_cases e4 : j < 17
          · rw [if_pos e4, if_pos e4, if_neg (by omega)]
          · rw [if_neg e4, if_neg e4]
            by_cases e5 : j < 33
            · rw [if_pos e5, if_pos e5, if_neg (by omega)]
            · rw [if_neg e5, if_neg e5]
  · unfold updK at hy
    split at hy
    · rename_i e; cases hy; subst e; exact ⟨by omega, by omega, hb⟩
    · exact h.kn y c hy
end
end Go.Proofs.YtcpookgbneoilaaDoor

namespace Go.Proofs.YtcpookgbneoilaaDoor

def wtD (k : Nat) (d : Dr) : Wt := (setZ k d.s.toNat, d.t.data.toList)
def woD (k : Nat) (K : Kn) (d : Dr) : Wt := wout K (wtD k d)
def lftR (k : Nat) (K : Kn) (L : List Dr) : List Dr := L.filter fun d => some1 (woD k K d)
def rtk (k : Nat) : Nat → Kn → List Dr → List Int → Kn × List Dr × List Int
  | 0, K, L, out => (K, lftR k K L, out)
  | f + 1, K, L, out => match (lftR k K L).find? (fun d => one1 (woD k K d)) with
    | none => (K, lftR k K L, out)
    | some d => rtk k f (updK K ((woD k K d).1.headD 0) (woD k K d).2) (lftR k K L) (putL out ((woD k K d).1.headD 0))
theorem lft_map {k : Nat} {K : Kn} {Lp : List Wt} {Lr : List Dr} (h : Lp.map (wout K) = Lr.map (woD k K)) : leftW K Lp = (lftR k K Lr).map (woD k K) := by
  unfold leftW lftR
  rw [h, List.filter_map]; rfl
theorem rtk_learn {k : Nat} : ∀ (f : Nat) (K : Kn) (Lp : List Wt) (Lr : List Dr) (o : List Int), Lp.map (wout K) = Lr.map (woD k K) →
    (rtk k f K Lr (srt o)).1 = (learnF f K Lp o).1 ∧ (learnF f K Lp o).2.1 = (rtk k f K Lr (srt o)).2.1.map (woD k (learnF f K Lp o).1) ∧ (rtk k f K Lr (srt o)).2.2 = srt (learnF f K Lp o).2.2
  | 0, K, Lp, Lr, o, h => ⟨rfl, lft_map h, rfl⟩
  | f + 1, K, Lp, Lr, o, h => by
    have hm := lft_map h
    have hf : (leftW K Lp).find? one1 = ((lftR k K Lr).find? (fun d => one1 (woD k K d))).map (woD k K) := by rw [hm, List.find?_map]; rfl
    cases hq : (lftR k K Lr).find? (fun d => one1 (woD k K d)) with
    | none =>
      have e : rtk k (f + 1) K Lr (srt o) = (K, lftR k K Lr, srt o) := by rw [rtk, hq]
      have e2 : learnF (f + 1) K Lp o = (K, leftW K Lp, o) := by rw [learnF, hf, hq]; rfl
      rw [e, e2]
      exact ⟨rfl, hm, rfl⟩
    | some d =>
      rw [hq] at hf
      have hf2 : (leftW K Lp).find? one1 = some (woD k K d) := hf
      obtain ⟨_, z, hz, hn⟩ := leftW_one hf2
      have e : rtk k (f + 1) K Lr (srt o) = rtk k f (updK K z (woD k K d).2) (lftR k K Lr) (srt (o ++ [z])) := by rw [rtk, hq, ← putL_srt]; simp only [hz]; rfl
      have e2 : learnF (f + 1) K Lp o = learnF f (updK K z (woD k K d).2) (leftW K Lp) (o ++ [z]) := by rw [learnF, hf2]; simp only [hz]; rfl
      have hx : Ext K (updK K z (woD k K d).2) := fun y b hy => by
        unfold updK
        rw [if_neg (fun e => by rw [e, hn] at hy; cases hy)]; exact hy
      have hnext : (leftW K Lp).map (wout (updK K z (woD k K d).2)) = (lftR k K Lr).map (woD k (updK K z (woD k K d).2)) := by
        rw [hm, List.map_map]
        exact List.map_congr_left fun a _ => wout_twice hx _
      rw [e, e2]
      exact rtk_learn f _ _ _ _ hnext
def rtkK (k : Nat) (K : Kn) (L : List Dr) : Kn := (rtk k (k + 1) K L []).1
def rtkL (k : Nat) (K : Kn) (L : List Dr) : List Dr := (rtk k (k + 1) K L []).2.1
def rtkO (k : Nat) (K : Kn) (L : List Dr) : List Int := (rtk k (k + 1) K L []).2.2
theorem rtk_same {k : Nat} {K : Kn} {Lp : List Wt} {Lr : List Dr} (h : Lp.map (wout K) = Lr.map (woD k K)) :
    rtkK k K Lr = lrnK k K Lp ∧ lrnL k K Lp = (rtkL k K Lr).map (woD k (rtkK k K Lr)) ∧ rtkO k K Lr = lrnO k K Lp := by
  have h0 : srt [] = [] := List.mergeSort_nil
  obtain ⟨h1, h2, h3⟩ := rtk_learn (k + 1) K Lp Lr [] h
  rw [h0] at h1 h2 h3
  refine ⟨h1, ?_, h3⟩
  unfold rtkL rtkK
  rw [h1]; exact h2
def Both (k : Nat) (K : Kn) (Lp : List Wt) (Lr : List Dr) : Prop := Lp = Lr.map (woD k K)
theorem Both.add {k : Nat} {K : Kn} {Lp : List Wt} {Lr : List Dr} (h : Both k K Lp Lr) (d : Dr) : (Lp ++ [wtD k d]).map (wout K) = (Lr ++ [d]).map (woD k K) := by
  rw [List.map_append, List.map_append, h, List.map_map]
  congr 1
  exact List.map_congr_left fun a _ => wout_twice (fun _ _ e => e) _
theorem Both.take {k : Nat} {K : Kn} {Lp : List Wt} {Lr : List Dr} (h : Both k K Lp Lr) (d : Dr) :
    rtkK k K (Lr ++ [d]) = lrnK k K (Lp ++ [wtD k d]) ∧ rtkO k K (Lr ++ [d]) = lrnO k K (Lp ++ [wtD k d]) ∧ Both k (lrnK k K (Lp ++ [wtD k d])) (lrnL k K (Lp ++ [wtD k d])) (rtkL k K (Lr ++ [d])) := by
  obtain ⟨h1, h2, h3⟩ := rtk_same (h.add d)
  exact ⟨h1, h3, by unfold Both; rw [← h1]; exact h2⟩
end Go.Proofs.YtcpookgbneoilaaDoor

namespace Go.Proofs.YtcpookgbneoilaaDoor
open Go.ChangeShapes Go.WideShapes Go.ChangeAt Go.RowKit

theorem info_DropR : (Tryd.prog.info? 37).map (fun i => (i.zero, i.size, i.bytes)) = some (some (.agg #[.int .i64 0, .string { data := #[] }]), 2, 24) := by kernel_rfl
theorem step_intL (wr : World) (B : Nat) {ops : Array Oper} {o : Oper} {a : Act} {K : Act → World → Prop} {Q : Exit → Act → World → Prop} {E : Prop}
    (hg : o.guard = none) (s x : Operand) (ho : o.op = .call { callee := .builtin .append, args := #[s, x], argTypes := #[32, 32] })
    (v : Value) (zs : List Int) (z : Int) (hs : a.eval s = v) (hown : OwnInts wr B v zs) (hx : a.eval x = .slice (some ⟨wr.heap.size, 0, none⟩) 1 1)
    (hn : zs.length < 1000000) (hB : B ≤ wr.heap.size)
    (h : ∀ v' w', OwnInts w' B v' (zs ++ [z]) → Fr (fun j => v.ownBlock = some j) wr w' → (∀ i, v'.ownBlock = some i → v.ownBlock = some i ∨ wr.heap.size ≤ i) → K (a.put o.dst v') w') :
    if Region.wanted o (yielded ops a.tmps) = true then Oper.wp Tryd.prog o a (wr.alloc (.cells #[.int .i64 z] 3)) K Q else E := by
  have hw : Region.wanted o (yielded ops a.tmps) = true := by simp [Region.wanted, hg]
  rw [if_pos hw]
  have hal : OwnInts (wr.alloc (.cells #[.int .i64 z] 3)) B v zs := Own.alloc hown _
  have hrow1 : RowAt (wr.alloc (.cells #[.int .i64 z] 3)) (some ⟨wr.heap.size, 0, none⟩) 1 1 (fun j => [Value.int .i64 z].getD j undef) := by
    refine ⟨Nat.le_refl _, by unfold maxLen; omega, fun _ => ⟨wr.heap.size, 0, rfl, fun j hj => ?_⟩⟩
    obtain rfl : j = 0 := by omega
    simp
  obtain ⟨v', w', hrun, h2, h3, h4⟩ := run_app_many (P := Tryd.prog) (wr.alloc (.cells #[.int .i64 z] 3)) B 32 o.type 3 (.int .i64 0) 8 Tryd.underlying32 info_int rfl (by decide) v _ hal (some ⟨wr.heap.size, 0, none⟩) 1 1 [.int .i64 z] rfl
    hrow1 (fun u hu => by rw [List.mem_singleton.1 hu]; rfl) (by rw [List.length_map]; omega) (by simp; omega)
  unfold Oper.wp execOp
  simp only [ho, resolve, invoke, builtin, Sem.run_bind, Sem.run_pure, Result.andThen_ok, List.map_toArray, List.map_cons, List.map_nil, hs, hx, hrun]
  refine h v' w' (by simpa [OwnInts] using h2) ⟨h3.os, h3.tape, h3.output, ?_, fun k hk hne => ?_⟩ (fun i hi => ?_)
  · have := h3.size; simp at this; omega
  · rw [h3.block k (by simp; omega) (fun e => hne e.symm)]; exact heap_alloc_old wr _ hk
  · rcases h4 with h | h
    · exact .inl (by rw [← h]; exact hi)
    · rw [h] at hi
      injection hi with hi
      exact .inr (by rw [← hi]; simp)
theorem S_data' (s : ByteArray) : S s.data.toList = s := rfl
theorem ints_as {w : World} {B q : Nat} {v : Value} {zs : List Int} (h : OwnInts w B v zs) (hn : q = zs.length) : ∃ a cap, v = .slice a q cap := by
  obtain ⟨a, cap, e, -⟩ := Own.slice h
  rw [List.length_map, ← hn] at e
  exact ⟨a, cap, e⟩
structure TK (G3 : Nat → Prop) (wb : World) (p k m : Nat) (T : List Int) (tv : Value) (R : Kn × List Dr × List Int) (f : Nat) (b : Bool) (K : Kn) (L : List Dr) (out : List Int) (lv ov : Value) (w : World) : Prop where
  run : if b = true then unkC K k < f ∧ rtk k f K L out = R else (K, L, out) = R
  own : OwnInts w wb.heap.size ov out
  len : out.length + unkC K k ≤ k
  rng : ∀ z ∈ out, 0 ≤ z ∧ z < (k : Int)
  fr : Fr G3 wb w
  inn : ∃ G1, RPeelIn G1 p k m K T L lv tv w
  lvg : ∀ i, lv.ownBlock = some i → G3 i ∨ wb.heap.size ≤ i
  most : L.length ≤ 1000
theorem RPeelIn.only {G : Nat → Prop} {p k m : Nat} {K : Kn} {T : List Int} {ds : List Dr} {lv tv : Value} {w : World} (h : RPeelIn G p k m K T ds lv tv w) : RPeelIn (fun i => i = p ∨ lv.ownBlock = some i ∨ tv.ownBlock = some i) p k m K T ds lv tv w :=
  ⟨fun i hi => by
    rcases hi with rfl | hi | hi
    · exact h.blk.lt
    · exact h.lt i (h.own1 i hi).1
    · exact h.lt i (h.own2 i hi).1, .inl rfl, h.blk, h.drops, h.taken, fun i hi => ⟨.inr (.inl hi), (h.own1 i hi).2⟩, fun i hi => ⟨.inr (.inr hi), (h.own2 i hi).2⟩, h.kn, h.ok⟩
def lft1 (k : Nat) (K : Kn) (L : List Dr) (j : Nat) : List Dr := (L.take j).filter fun d => some1 (woD k K d)
theorem lft1_succ (k : Nat) (K : Kn) {L : List Dr} {j : Nat} {d : Dr} (h : L[j]? = some d) : lft1 k K L (j + 1) = if some1 (woD k K d) = true then lft1 k K L j ++ [d] else lft1 k K L j := by
  unfold lft1
  rw [List.take_add_one, h, List.filter_append]
  cases hs : some1 (woD k K d) <;> simp [hs]
theorem lft1_len (k : Nat) (K : Kn) (L : List Dr) (j : Nat) : (lft1 k K L j).length ≤ j := by
  unfold lft1
  refine Nat.le_trans (List.length_filter_le _ _) ?_
  rw [List.length_take]; omega
theorem lft1_all (k : Nat) (K : Kn) (L : List Dr) : lft1 k K L L.length = lftR k K L := by
  unfold lft1 lftR
  rw [List.take_length]
theorem drew_set (w : World) (a : Addr) (v : Value) : (w.setCell a v).drew = w.drew.setCell a v := rfl
theorem learn_two {G1 : Nat → Prop} {p k m : Nat} {K : Kn} {T : List Int} {L : List Dr} {lv tv : Value} {w : World} (h : RPeelIn G1 p k m K T L lv tv w) {z : Nat} (hz : z < k) (hk : k ≤ 16) {b : Bts} (hb : b.length = m) {yb yo : Nat} {v : Value} (cy : w.cell? ⟨yb, yo, none⟩ = some v) (hy : yb ≠ p) :
    ∃ W8 W9 u1 u2, W8 = w.drew.setCell ⟨p, 1 + z, none⟩ (.bool true) ∧ W9 = W8.drew.setCell ⟨p, 17 + z, none⟩ (.string (S b)) ∧ w.drew.cell? ⟨p, 1 + z, none⟩ = some u1 ∧ w.drew.frozen? ⟨p, 1 + z, none⟩ = false ∧ W8.drew.cell? ⟨p, 17 + z, none⟩ = some u2 ∧ W8.drew.frozen? ⟨p, 17 + z, none⟩ = false ∧
      W8.cell? ⟨yb, yo, none⟩ = some v ∧ W9.cell? ⟨yb, yo, none⟩ = some v ∧ Fr (fun i => i = p) w W9 ∧ RPeelIn G1 p k m (updK K (z : Int) b) T L lv tv W9 := by
  obtain ⟨W8, hW8⟩ : ∃ W8, W8 = w.drew.setCell ⟨p, 1 + z, none⟩ (.bool true) := ⟨_, rfl⟩
  obtain ⟨W9, hW9⟩ : ∃ W9, W9 = W8.drew.setCell ⟨p, 17 + z, none⟩ (.string (S b)) := ⟨_, rfl⟩
  have hd := h.keep (Lat.drew w)
  have hf8 : Fr (fun i => i = p) w W8 := by rw [hW8]; exact (Fr.lat (Lat.refl w)).drew.then_set ⟨p, 1 + z, none⟩ _ (.inl rfl)
  have hf9 : Fr (fun i => i = p) w W9 := by rw [hW9]; exact hf8.drew.then_set ⟨p, 17 + z, none⟩ _ (.inl rfl)
  have hb8 := hd.blk.set (k := 1 + z) (by omega) (.bool true)
  have h9 := (hd.keep (Lat.drew w.drew)).learn (z := z) hz hk hb
  rw [← hW8] at hb8
  have hb8' := hb8.keep (Lat.drew W8)
  refine ⟨W8, W9, _, _, hW8, hW9, hd.blk.cell (1 + z) (by omega), hd.blk.free (1 + z) (by omega), hb8'.cell (17 + z) (by omega), hb8'.free (17 + z) (by omega), hf8.cell_at cy hy, hf9.cell_at cy hy, hf9, ?_⟩
  rw [hW9, hW8, drew_set]
  exact h9
theorem rtk_hit {k f : Nat} {K : Kn} {L LL : List Dr} {out : List Int} {R : Kn × List Dr × List Int} {d : Dr} {z : Int} {b : Bts} (hr : rtk k (f + 1) K L out = R) (hl : LL = lftR k K L) (hf : LL.find? (fun d => one1 (woD k K d)) = some d) (hz : (woD k K d).1 = [z]) (hb : (woD k K d).2 = b) :
    rtk k f (updK K z b) LL (putL out z) = R := by
  rw [← hr, rtk, ← hl, hf]
  simp only [hz, hb]
  rfl
end Go.Proofs.YtcpookgbneoilaaDoor

namespace Go.Proofs.YtcpookgbneoilaaDoor
open Go.ChangeShapes Go.WideShapes Go.ChangeAt Go.RowKit

set_option maxHeartbeats 8000000 in
set_option maxRecDepth 100000 in
theorem refTake (G : Nat → Prop) (p k m : Nat) (K : Kn) (T : List Int) (ds : List Dr) (lv tv : Value) (s : Int) (t : ByteArray) (w : World) (h : RPeelIn G p k m K T ds lv tv w) (h1 : 1 ≤ k) (h2 : k ≤ 16) (hm : m ≤ 8) (hs1 : 1 ≤ s) (hs2 : s ≤ 10000) (ht : t.size = m) (hd : ds.length < 1000) (hT : T.length < 1000) :
    Calls Tryd.prog 10 #[.pointer (some ⟨p, 0, none⟩), .agg #[.int .i64 s, .string t]] w fun e w' => ∃ v, e = .returned v ∧ OwnInts w' w.heap.size v (rtkO k K (ds ++ [⟨s, t⟩])) ∧ Fr G w w' ∧ ∃ G' lv' tv', (∀ i, G' i → (G i ∨ w.heap.size ≤ i) ∧ v.ownBlock ≠ some i) ∧ RPeelIn G' p k m (rtkK k K (ds ++ [⟨s, t⟩])) (T ++ [s]) (rtkL k K (ds ++ [⟨s, t⟩])) lv' tv' w' := by
  have hpl := h.blk.lt
  have hGp := h.gp
  obtain ⟨W, hW⟩ : ∃ W, W = w.alloc (.cells #[.int .i64 s, .string t] 37) := ⟨_, rfl⟩
  have hWl : Lat w W := by rw [hW]; exact Lat.alloc _ _
  have hF : W.drew.cell? ⟨w.heap.size, 0, none⟩ = some (.int .i64 s) ∧ W.drew.cell? ⟨w.heap.size, 1, none⟩ = some (.string t) := by rw [hW]; exact ⟨by simp, by simp⟩
  have hIn : RPeelIn G p k m K T ds lv tv W.drew := h.keep (hWl.trans (Lat.drew W))
  have hG : W.drew.cell? ⟨p, 33, none⟩ = some lv := hIn.blk.cell 33 (by decide)
  have hsz : W.drew.heap.size = w.heap.size + 1 := by rw [hW]; simp
  have hfr0 : Fr G w W.drew := (Fr.lat hWl).drew
  have HF := Lib.hid hF; have HG := Lib.hid hG; have HSZ := Lib.hid hsz; have HIN := Lib.hid hIn; have HFR := Lib.hid hfr0; have HT := Lib.hid hT; have HD := Lib.hid hd; have HLT := Lib.hid h.lt; have HS := Lib.hid (And.intro hs1 hs2); have HTS := Lib.hid ht
  have hwp : w.heap.size ≠ p := by omega
  clear hF hG hsz hIn hWl hfr0 hT hd hs1 hs2 ht h
  go_enter Tryd.func10, Tryd.ntmps10
  go_upto_region 1 with fail
  rw [← hW]
  clear hW
  refine wp_region_gate (fun w' => w'.cell? ⟨w.heap.size, 0, none⟩ = some (.int .i64 s) ∧ w'.cell? ⟨w.heap.size, 1, none⟩ = some (.string t)) (fun w' => w'.cell? ⟨p, 33, none⟩ = some lv) 7 (by kernel_rfl) ?_
  have hF := HF.out
  have hG := HG.out
  have hIn := HIN.out
  have hfr0 := HFR.out
  generalize W.drew = W6 at *
  refine gate_takeF (i := 0) (v := ?_) rfl (by kernel_rfl) (by kernel_rfl) (by kernel_rfl) (fun _ _ _ h => h) (by decide) ⟨hF, fun _ => hG⟩ (Or.inl ⟨by kernel_rfl, ?_⟩) ?_
  rotate_left
  · intro wq hSw; obtain ⟨s0, s1⟩ := hSw; go_simp; rfl
  simp only [Act.put]
  refine gate_takeF (i := 1) (v := ?_) rfl (by kernel_rfl) (by kernel_rfl) (by kernel_rfl) (fun _ _ _ h => h) (by decide) ⟨hF, fun _ => hG⟩ (Or.inl ⟨by kernel_rfl, ?_⟩) ?_
  rotate_left
  · intro wq hSw; obtain ⟨s0, s1⟩ := hSw; go_simp; rfl
  simp only [Act.put]
  refine gate_takeF (i := 2) (v := ?_) rfl (by kernel_rfl) (by kernel_rfl) (by kernel_rfl) (fun _ _ _ h => h) (by decide) ⟨hF, fun _ => hG⟩ (Or.inl ⟨by kernel_rfl, ?_⟩) ?_
  rotate_left
  · intro wq hSw; obtain ⟨s0, s1⟩ := hSw; go_simp; rfl
  simp only [Act.put]
  refine gate_takeF (i := 3) (v := ?_) rfl (by kernel_rfl) (by kernel_rfl) (by kernel_rfl) (fun _ _ _ h => h) (by decide) ⟨hF, fun _ => hG⟩ (Or.inl ⟨by kernel_rfl, ?_⟩) ?_
  rotate_left
  · intro wq hSw; obtain ⟨s0, s1⟩ := hSw; go_simp; rfl
  simp only [Act.put]
  refine gate_takeG (i := 4) (v := ?_) rfl (by kernel_rfl) (by kernel_rfl) (by kernel_rfl) (fun _ _ _ h => h) (by decide) (by kernel_rfl) (by kernel_rfl) ⟨hF, fun _ => hG⟩ (Or.inl ⟨by kernel_rfl, ?_⟩) ?_
  rotate_left
  · intro wq hSw; obtain ⟨⟨s0, s1⟩, s2⟩ := hSw; go_simp; rfl
  simp only [Act.put]
  refine gate_takeF (i := 5) (v := ?_) rfl (by kernel_rfl) (by kernel_rfl) (by kernel_rfl) (fun _ _ _ h => h) (by decide) ⟨hF, fun _ => hG⟩ (Or.inl ⟨by kernel_rfl, ?_⟩) ?_
  rotate_left
  · intro wq hSw; obtain ⟨s0, s1⟩ := hSw; go_simp; rfl
  simp only [Act.put]
  refine gate_one (i := 6) (by kernel_rfl) rfl (fun KK hK => ?_)
  go_simp
  refine hK _ _ ⟨⟨(Lat.alloc _ _).cell_at hF.1, (Lat.alloc _ _).cell_at hF.2⟩, fun _ => (Lat.alloc _ _).cell_at hG⟩ ?_
  clear hK KK
  refine gate_one (i := 7) (by kernel_rfl) rfl (fun KK hK => ?_)
  refine appR_step W6 0 rfl (.tmp 19) (.tmp 21) 22 rfl 37 _ 2 24 Tryd.underlying22 info_DropR rfl (by decide) (by decide) lv _ _ rfl hIn.drops rfl rfl (fun u hu => by simp at hu; rcases hu with rfl | rfl <;> rfl) (by rw [List.length_map]; have := HD.out; omega) (Nat.zero_le _) ?_
  intro g' cap' w7 hown7 hb7 hs7
  obtain ⟨N, hN⟩ : ∃ N, N = (ds.map Dr.row).length + 1 := ⟨_, rfl⟩
  rw [← hN] at hown7 hs7 ⊢
  clear hN
  have hfa : Fr (fun i => lv.ownBlock = some i) W6 w7 := Fr.app hs7 ⟨hb7.os, hb7.tape, hb7.output⟩
  have hF7 : w7.cell? ⟨w.heap.size, 0, none⟩ = some (.int .i64 s) ∧ w7.cell? ⟨w.heap.size, 1, none⟩ = some (.string t) := by
    have hb : ¬ lv.ownBlock = some w.heap.size := fun e => by
      have := HLT.out _ (hIn.own1 _ e).1
      omega
    exact ⟨hfa.cell_at hF.1 hb, hfa.cell_at hF.2 hb⟩
  have hb7p : ¬ lv.ownBlock = some p := fun e => (hIn.own1 _ e).2 rfl
  have hcp : w7.cell? ⟨p, 33, none⟩ = some lv := hfa.cell_at hG hb7p
  have hfp : w7.frozen? ⟨p, 33, none⟩ = false := hfa.free_at (p := ⟨p, 33, none⟩) hIn.blk.lt (hIn.blk.free 33 (by decide)) hb7p
  have hown8 : OwnR w7 0 37 2 (.slice (some ⟨g', 0, none⟩) N cap') ((ds ++ [(⟨s, t⟩ : Dr)]).map Dr.row) := by rw [List.map_append]; exact hown7
  have hIn2 := hIn.pushD (w0 := w) (by have := HSZ.out; omega) hown8 hfa (fun i hi => by
    rcases hs7.loc with h | ⟨g, h, hge⟩
    · exact .inl (by rw [← h]; exact hi)
    · rw [h] at hi; injection hi with hi; exact .inr (by rw [← hi]; exact hge)) (fun d hd => by
    rcases List.mem_append.1 hd with hd | hd
    · exact hIn.ok d hd
    · rw [List.mem_singleton] at hd; subst hd; exact ⟨HS.out.1, HS.out.2, HTS.out⟩)
  have hfr2 : Fr G w (w7.setCell ⟨p, 33, none⟩ (.slice (some ⟨g', 0, none⟩) N cap')) := (hfr0.trans hfa (fun i _ e => (hIn.own1 i e).1)).then_set ⟨p, 33, none⟩ _ (.inl hGp)
  have HIN2 := Lib.hid hIn2; have HFR2 := Lib.hid hfr2
  refine hK _ _ (FG.past (by kernel_rfl) hF7) ?_
  clear hK KK hF hG hIn hfr0 hown7 hown8 hb7 hs7 hfa hIn2 hfr2
  refine gate_takeF (i := 8) (v := ?_) rfl (by kernel_rfl) (by kernel_rfl) (by kernel_rfl) (fun _ _ _ h => h) (by decide) (FG.past (by kernel_rfl) hF7) (Or.inl ⟨by kernel_rfl, ?_⟩) ?_
  rotate_left
  · intro wq hSw; go_simp; rfl
  simp only [Act.put]
  refine gate_takeF (i := 9) (v := ?_) rfl (by kernel_rfl) (by kernel_rfl) (by kernel_rfl) (fun _ _ _ h => h) (by decide) (FG.past (by kernel_rfl) hF7) (Or.inl ⟨by kernel_rfl, ?_⟩) ?_
  rotate_left
  · intro wq hSw; go_simp; rfl
  simp only [Act.put]
  have hF8 : ∀ x : Value, (w7.setCell ⟨p, 33, none⟩ x).cell? ⟨w.heap.size, 0, none⟩ = some (.int .i64 s) ∧ (w7.setCell ⟨p, 33, none⟩ x).cell? ⟨w.heap.size, 1, none⟩ = some (.string t) := fun x =>
    ⟨by rw [World.cell?_setCell_other _ _ _ _ (by intro e; injection e with e1 _ _; exact hwp e1.symm)]; exact hF7.1, by rw [World.cell?_setCell_other _ _ _ _ (by intro e; injection e with e1 _ _; exact hwp e1.symm)]; exact hF7.2⟩
  have HF8 := Lib.hid hF8
  refine gate_one (i := 10) (by kernel_rfl) rfl (fun KK hK => ?_)
  clear hF8 hF7
  go_simp
  refine hK _ _ (FG.past (by kernel_rfl) (HF8.out _)) ?_
  clear hK KK
  refine gate_done (by kernel_rfl) ?_ _
  go_upto_region 2 with fail
  obtain ⟨lv2, hlv2⟩ : ∃ x, x = Value.slice (some ⟨g', 0, none⟩) N cap' := ⟨_, rfl⟩
  rw [← hlv2] at HIN2 HFR2 ⊢
  have hF0 := (HF8.out lv2).1
  obtain ⟨W2, hW2⟩ : ∃ W2, W2 = w7.setCell ⟨p, 33, none⟩ lv2 := ⟨_, rfl⟩
  rw [← hW2] at hF0 HIN2 HFR2 ⊢
  clear HF8 hW2 hlv2 hcp hfp hb7p w7
  refine wp_region_gate (fun w' => w'.cell? ⟨w.heap.size, 0, none⟩ = some (.int .i64 s)) (fun w' => w'.cell? ⟨p, 34, none⟩ = some tv) 8 (by kernel_rfl) ?_
  have hF : W2.drew.cell? ⟨w.heap.size, 0, none⟩ = some (.int .i64 s) := hF0
  have hIn : RPeelIn (GN G w W2) p k m K T (ds ++ [⟨s, t⟩]) lv2 tv W2.drew := HIN2.out.keep (Lat.drew W2)
  have hG : W2.drew.cell? ⟨p, 34, none⟩ = some tv := hIn.blk.cell 34 (by decide)
  have hfr0 : Fr G w W2.drew := HFR2.out.drew
  have hGG : ∀ i, GN G w W2 i → G i ∨ w.heap.size ≤ i := fun i hi => hi.2
  have hwx : ¬ tv.ownBlock = some w.heap.size := fun e => by
    rcases (HIN.out.own2 _ e).1 with h
    have := HLT.out _ h
    omega
  have HG0 := Lib.hid hGG; have HWX := Lib.hid hwx
  generalize GN G w W2 = G2 at *
  clear hF0 HIN2 HFR2 hGG hwx
  generalize W2.drew = W6 at *
  refine gate_takeF (i := 0) (v := ?_) rfl (by kernel_rfl) (by kernel_rfl) (by kernel_rfl) (fun _ _ _ h => h) (by decide) ⟨hF, fun _ => hG⟩ (Or.inl ⟨by kernel_rfl, ?_⟩) ?_
  rotate_left
  · intro wq hSw; go_simp; rfl
  simp only [Act.put]
  refine gate_takeF (i := 1) (v := ?_) rfl (by kernel_rfl) (by kernel_rfl) (by kernel_rfl) (fun _ _ _ h => h) (by decide) ⟨hF, fun _ => hG⟩ (Or.inl ⟨by kernel_rfl, ?_⟩) ?_
  rotate_left
  · intro wq hSw; go_simp; rfl
  simp only [Act.put]
  refine gate_takeF (i := 2) (v := ?_) rfl (by kernel_rfl) (by kernel_rfl) (by kernel_rfl) (fun _ _ _ h => h) (by decide) ⟨hF, fun _ => hG⟩ (Or.inl ⟨by kernel_rfl, ?_⟩) ?_
  rotate_left
  · intro wq hSw; go_simp; rfl
  simp only [Act.put]
  refine gate_takeF (i := 3) (v := ?_) rfl (by kernel_rfl) (by kernel_rfl) (by kernel_rfl) (fun _ _ _ h => h) (by decide) ⟨hF, fun _ => hG⟩ (Or.inl ⟨by kernel_rfl, ?_⟩) ?_
  rotate_left
  · intro wq hSw; go_simp; rfl
  simp only [Act.put]
  refine gate_takeG (i := 4) (v := ?_) rfl (by kernel_rfl) (by kernel_rfl) (by kernel_rfl) (fun _ _ _ h => h) (by decide) (by kernel_rfl) (by kernel_rfl) ⟨hF, fun _ => hG⟩ (Or.inl ⟨by kernel_rfl, ?_⟩) ?_
  rotate_left
  · intro wq hSw; obtain ⟨s0, s2⟩ := hSw; go_simp; rfl
  simp only [Act.put]
  refine gate_takeF (i := 5) (v := ?_) rfl (by kernel_rfl) (by kernel_rfl) (by kernel_rfl) (fun _ _ _ h => h) (by decide) ⟨hF, fun _ => hG⟩ (Or.inl ⟨by kernel_rfl, ?_⟩) ?_
  rotate_left
  · intro wq hSw; go_simp; rfl
  simp only [Act.put]
  refine gate_takeF (i := 6) (v := ?_) rfl (by kernel_rfl) (by kernel_rfl) (by kernel_rfl) (fun _ _ _ h => h) (by decide) ⟨hF, fun _ => hG⟩ (Or.inl ⟨by kernel_rfl, ?_⟩) ?_
  rotate_left
  · intro wq s0; go_simp; rfl
  simp only [Act.put]
  refine gate_one (i := 7) (by kernel_rfl) rfl (fun KK hK => ?_)
  go_simp
  refine hK _ _ ⟨(Lat.alloc _ _).cell_at hF, fun _ => (Lat.alloc _ _).cell_at hG⟩ ?_
  clear hK KK
  refine gate_one (i := 8) (by kernel_rfl) rfl (fun KK hK => ?_)
  refine step_intL W6 0 rfl (.tmp 29) (.tmp 32) rfl tv T s rfl hIn.taken rfl (by have := HT.out; omega) (Nat.zero_le _) ?_
  intro tv2 w7 hown7 hfa hloc7
  obtain ⟨ta, tc, htv, -⟩ := Own.slice hown7
  obtain ⟨N, hN⟩ : ∃ N, N = ((T ++ [s]).map (Value.int .i64)).length := ⟨_, rfl⟩
  rw [← hN] at htv
  clear hN
  subst htv
  have hF7 : w7.cell? ⟨w.heap.size, 0, none⟩ = some (.int .i64 s) := hfa.cell_at hF HWX.out
  have hb7p : ¬ tv.ownBlock = some p := fun e => (hIn.own2 _ e).2 rfl
  have hcp : w7.cell? ⟨p, 34, none⟩ = some tv := hfa.cell_at hG hb7p
  have hfp : w7.frozen? ⟨p, 34, none⟩ = false := hfa.free_at (p := ⟨p, 34, none⟩) hIn.blk.lt (hIn.blk.free 34 (by decide)) hb7p
  have hw6 : w.heap.size ≤ W6.heap.size := hfr0.size
  have hIn2 := hIn.pushT (w0 := w) hw6 hown7 hfa hloc7
  have hfr2 : Fr G w (w7.setCell ⟨p, 34, none⟩ (.slice ta N tc)) := (hfr0.trans hfa (fun i hi e => by
    rcases HG0.out i (hIn.own2 i e).1 with h | h
    · exact h
    · omega)).then_set ⟨p, 34, none⟩ _ (.inl hGp)
  have HIN2 := Lib.hid hIn2; have HFR2 := Lib.hid hfr2
  refine hK _ _ (FG.past (by kernel_rfl) hF7) ?_
  clear hK KK hF hG hIn hfr0 hown7 hfa hIn2 hfr2 hloc7 hw6
  refine gate_takeF (i := 9) (v := ?_) rfl (by kernel_rfl) (by kernel_rfl) (by kernel_rfl) (fun _ _ _ h => h) (by decide) (FG.past (by kernel_rfl) hF7) (Or.inl ⟨by kernel_rfl, ?_⟩) ?_
  rotate_left
  · intro wq hSw; go_simp; rfl
  simp only [Act.put]
  refine gate_takeF (i := 10) (v := ?_) rfl (by kernel_rfl) (by kernel_rfl) (by kernel_rfl) (fun _ _ _ h => h) (by decide) (FG.past (by kernel_rfl) hF7) (Or.inl ⟨by kernel_rfl, ?_⟩) ?_
  rotate_left
  · intro wq hSw; go_simp; rfl
  simp only [Act.put]
  have hF8 : ∀ x : Value, (w7.setCell ⟨p, 34, none⟩ x).cell? ⟨w.heap.size, 0, none⟩ = some (.int .i64 s) := fun x => by
    rw [World.cell?_setCell_other _ _ _ _ (by intro e; injection e with e1 _ _; exact hwp e1.symm)]; exact hF7
  have HF8 := Lib.hid hF8
  refine gate_one (i := 11) (by kernel_rfl) rfl (fun KK hK => ?_)
  clear hF8 hF7
  go_simp
  refine hK _ _ (FG.past (by kernel_rfl) (HF8.out _)) ?_
  clear hK KK
  refine gate_done (by kernel_rfl) ?_ _
  obtain ⟨tv2, htv2⟩ : ∃ x, x = Value.slice ta N tc := ⟨_, rfl⟩
  rw [← htv2] at HIN2 HFR2 ⊢
  obtain ⟨wb, hwb⟩ : ∃ wb, wb = w7.setCell ⟨p, 34, none⟩ tv2 := ⟨_, rfl⟩
  rw [← hwb] at HIN2 HFR2 ⊢
  clear HF8 hwb htv2 hcp hfp hb7p w7
  have hG3 : ∀ i, GN G2 w wb i → G i ∨ w.heap.size ≤ i := fun i hi => by
    rcases hi.2 with h | h
    · exact HG0.out i h
    · exact .inr h
  have HG3 := Lib.hid hG3
  generalize GN G2 w wb = G3 at *
  clear HF HG HSZ HIN HFR hG3 HG0 HWX
  obtain ⟨L0, hL0⟩ : ∃ L0, L0 = ds ++ [(⟨s, t⟩ : Dr)] := ⟨_, rfl⟩
  have hL0l : L0.length ≤ 1000 := by rw [hL0, List.length_append, List.length_singleton]; have := HD.out; omega
  rw [← hL0] at HIN2
  obtain ⟨R, hR⟩ : ∃ R, R = rtk k (k + 1) K L0 [] := ⟨_, rfl⟩
  have hu := unkC_le K k
  have hst : TK G3 wb p k m (T ++ [s]) tv2 R (k + 1) true K L0 [] lv2 (.slice none 0 0) wb :=
    ⟨by rw [if_pos rfl]; exact ⟨by omega, hR.symm⟩, Own.nil _ _ _, by simp; exact hu, fun z hz => absurd hz (List.not_mem_nil), Fr.refl _ _, ⟨G3, HIN2.out⟩, fun i hi => .inl (HIN2.out.own1 i hi).1, hL0l⟩
  have hpb : p < wb.heap.size := HIN2.out.blk.lt
  have htvb : ∀ i, tv2.ownBlock = some i → G3 i ∧ i < wb.heap.size := fun i hi => ⟨(HIN2.out.own2 i hi).1, HIN2.out.lt i (HIN2.out.own2 i hi).1⟩
  have hGp3 : G3 p := HIN2.out.gp
  have HST := Lib.hid hst; have HTV := Lib.hid htvb; have HR := Lib.hid hR; have HGP3 := Lib.hid hGp3; have HPB := Lib.hid hpb; have HL0 := Lib.hid hL0
  clear hu hst htvb hR hGp3 hL0 hL0l HIN2 hpb
  go_wp2_with fail
  go_loopg [5, 6] (k + 1) (fun f ov av wr => ∃ (b : Bool) (K1 : Kn) (L1 : List Dr) (out : List Int) (lv1 : Value), av = .bool b ∧ Hid (TK G3 wb p k m (T ++ [s]) tv2 R f b K1 L1 out lv1 ov wr))
  case atStart => exact ⟨true, K, L0, [], lv2, rfl, HST.out⟩
  case round =>
    obtain ⟨b, K1, L1, out, lv1, rfl, hrel⟩ := hrel
    cases b with
    | false =>
      obtain ⟨hrun, hown, hol, hrng, hfr, ⟨G1, hp⟩, hlg, hmost⟩ := hrel.out
      rw [if_neg (fun e => Bool.noConfusion e)] at hrun
      have e1 : rtkK k K (ds ++ [⟨s, t⟩]) = K1 := by unfold rtkK; rw [← HL0.out, ← HR.out, ← hrun]
      have e2 : rtkL k K (ds ++ [⟨s, t⟩]) = L1 := by unfold rtkL; rw [← HL0.out, ← HR.out, ← hrun]
      have e3 : rtkO k K (ds ++ [⟨s, t⟩]) = out := by unfold rtkO; rw [← HL0.out, ← HR.out, ← hrun]
      have hol2 := Own.lt hown
      have hfin : ∃ v, Ending.returned u5 = Ending.returned v ∧ OwnInts wr w.heap.size v (rtkO k K (ds ++ [⟨s, t⟩])) ∧ Fr G w wr ∧ ∃ G' lv' tv', (∀ i, G' i → (G i ∨ w.heap.size ≤ i) ∧ v.ownBlock ≠ some i) ∧ RPeelIn G' p k m (rtkK k K (ds ++ [⟨s, t⟩])) (T ++ [s]) (rtkL k K (ds ++ [⟨s, t⟩])) lv' tv' wr := by
        rw [e1, e2, e3]
        have hws := HFR2.out.size
        refine ⟨_, rfl, Own.mono hown hws, HFR2.out.trans hfr (fun i hi h3 => (HG3.out i h3).resolve_right (by omega)), _, lv1, tv2, fun i hi => ?_, hp.only⟩
        rcases hi with rfl | hi | hi
        · exact ⟨.inl hGp, fun e => by have := (hol2 _ e).1; have := HPB.out; omega⟩
        · refine ⟨?_, fun e => apartD hp.drops hown i hi e⟩
          rcases hlg i hi with h | h
          · exact HG3.out i h
          · exact .inr (by omega)
        · exact ⟨HG3.out i (HTV.out i hi).1, fun e => by have := (hol2 _ e).1; have := (HTV.out i hi).2; omega⟩
      have HFIN := Lib.hid hfin
      clear hrel hrun hown hol hrng hfr hp hlg hmost e1 e2 e3 hol2 hfin
      go_wp2_with fail
      go_ret
      exact HFIN.out
    | true =>
      obtain ⟨hrun, hown, hol, hrng, hfr, ⟨G1, hp⟩, hlg, hmost⟩ := hrel.out
      rw [if_pos rfl] at hrun
      obtain ⟨hu, hrun⟩ := hrun
      obtain ⟨f, rfl⟩ : ∃ f, gk = f + 1 := ⟨gk - 1, by omega⟩
      obtain ⟨n, hn⟩ : ∃ n, n = L1.length := ⟨_, rfl⟩
      rw [← hn] at hmost
      obtain ⟨a, cap, rfl, hat⟩ := OwnR.slice hp.drops (show (L1.map Dr.row).length = n by rw [List.length_map, hn])
      have hcap := hat.cap
      have hcle := hat.le
      unfold maxLen at hcap
      have c33 : ∀ W, Lat wr W → W.cell? ⟨p, 33, none⟩ = some (.slice a n cap) := fun W hW => hW.cell_at (hp.blk.cell 33 (by decide))
      have hleft : ∀ x ∈ L1, ∀ W, Lat wr W → Calls Tryd.prog 30 #[.pointer (some ⟨p, 0, none⟩), .agg #[.int .i64 x.s, .string x.t]] W fun e w' => ∃ v, e = .returned v ∧ OwnInts w' W.heap.size v (woD k K1 x).1 ∧ Lat W w' := fun x hx W hW => by
        have ho := hp.ok x hx
        have e : x.s = ((x.s.toNat : Nat) : Int) := by omega
        have := refLeft G1 p k m K1 (T ++ [s]) L1 (.slice a n cap) tv2 x.s.toNat x.t.data.toList W (hp.keep hW) h1 h2 (by omega) (by omega)
        rw [S_data', ← e] at this
        exact this
      have HRUN := Lib.hid hrun; have HUU := Lib.hid hu; have HOW := Lib.hid hown; have HOL := Lib.hid hol; have HRNG := Lib.hid hrng; have HFR3 := Lib.hid hfr; have HP := Lib.hid hp; have HLG := Lib.hid hlg; have HN := Lib.hid hn; have HAT := Lib.hid hat; have HC33 := Lib.hid c33; have HLEFT := Lib.hid hleft
      clear hrel hrun hu hown hol hrng hfr hp hlg hn hat c33 hleft
      obtain ⟨wo, hwo⟩ : ∃ wo : World, wo = wr := ⟨_, rfl⟩
      subst hwo
      go_wp2_with fail
      go_loopw [7, 8] (fun v i wx => ∃ j : Nat, j ≤ n ∧ i = .int .i64 j ∧ Hid (Lat wo wx ∧ OwnR wx wo.heap.size 37 2 v ((lft1 k K1 L1 j).map Dr.row))) (fun _ i _ => n - (intOf i).toNat)
      case atStart => exact ⟨0, Nat.zero_le _, rfl, Lat.refl _, OwnR.nil _ _ _ _⟩
      case round =>
        obtain ⟨j, hj, rfl, hrel⟩ := hrel
        obtain ⟨hlat, hor⟩ := hrel.out
        have c33 := HC33.out wr hlat
        by_cases hlt : j < n
        · obtain ⟨gb, go, rfl, hcell⟩ := (HAT.out.keep hlat).at_ (by omega)
          have hjl : j < L1.length := by rw [← HN.out]; exact hlt
          obtain ⟨x, hx⟩ : ∃ x, x = L1[j] := ⟨_, rfl⟩
          have hx2 : L1[j]? = some x := by rw [hx]; exact List.getElem?_eq_getElem hjl
          have hxm : x ∈ L1 := by rw [hx]; exact List.getElem_mem hjl
          have hxr : (L1.map Dr.row)[j]? = some (Dr.row x) := by rw [List.getElem?_map, hx2]; rfl
          have c0 := (hcell j _ hxr).2 0 _ rfl
          have c1 := (hcell j _ hxr).2 1 _ rfl
          rw [Nat.add_zero] at c0
          rw [← Nat.add_assoc] at c1
          have hls := lft1_succ k K1 hx2
          have hll := lft1_len k K1 L1 j
          have hlf := HLEFT.out x hxm
          obtain ⟨q, hq⟩ : ∃ q, q = (woD k K1 x).1.length := ⟨_, rfl⟩
          have hso : some1 (woD k K1 x) = decide (0 < q) := by rw [hq]; rfl
          rw [hso] at hls
          obtain ⟨xs, xt⟩ := x
          simp only at c0 c1 hlf
          have i1 : (0 : Int) ≤ (j : Int) := by omega
          have i2 : (j : Int) < (n : Int) := by omega
          have HLAT := Lib.hid hlat; have HOR := Lib.hid hor; have HLS := Lib.hid hls; have HLL := Lib.hid hll; have HLF := Lib.hid hlf; have HQ := Lib.hid hq
          clear hrel hlat hor hcell hjl hx hx2 hxm hxr hls hll hlf hq hso
          go_upto_region 12 with (go_at_call 30; refine (HLF.out _ HLAT.out).mono ?_; rintro e w5 ⟨xv, rfl, hxi, hb5⟩)
          obtain ⟨ya, yc, rfl⟩ := ints_as hxi HQ.out
          have c0 := hb5.cell_at c0
          have c1 := hb5.cell_at c1
          have c33 := hb5.cell_at c33
          have HL5 := Lib.hid (HLAT.out.trans hb5); have HO5 := Lib.hid (HOR.out.keep hb5)
          have hl5 : ((lft1 k K1 L1 j).map Dr.row).length < 1000000000000 := by rw [List.length_map]; have := HLL.out; omega
          have HLN := Lib.hid hl5
          clear hxi hb5 hl5 HLAT HOR
          by_cases hy0 : 0 < q
          · have d0 : decide ((0 : Int) < (q : Int)) = true := decide_eq_true (by omega)
            have hls : lft1 k K1 L1 (j + 1) = lft1 k K1 L1 j ++ [⟨xs, xt⟩] := by rw [HLS.out, decide_eq_true hy0, if_pos rfl]
            have HLS2 := Lib.hid hls
            clear hls HLS
            go_wp2_with (at_builtin; refine appR w5 wo.heap.size rfl (.tmp 58) (.tmp 66) 22 rfl 37 _ 2 24 Tryd.underlying22 info_DropR rfl (by decide) (by decide) _ _ _ rfl HO5.out rfl rfl (fun u hu => by simp at hu; rcases hu with rfl | rfl <;> rfl) HLN.out HL5.out.size ?_; intro v6 w6 hown6 hb6 hs6)
            have hl6 : Lat wo w6 := Below.trans HL5.out hb6
            have HL6 := Lib.hid hl6; have HO6 := Lib.hid hown6
            clear hs6 hb6 hown6 hl6
            go_roundw
            case rel => exact ⟨j + 1, by omega, by go_num, HL6.out, by rw [HLS2.out, List.map_append]; exact HO6.out⟩
            case measure => simp [intOf]; omega
          · have d0 : decide ((0 : Int) < (q : Int)) = false := decide_eq_false (by omega)
            have hls : lft1 k K1 L1 (j + 1) = lft1 k K1 L1 j := by rw [HLS.out, decide_eq_false hy0, if_neg (by decide)]
            have HLS2 := Lib.hid hls
            clear hls HLS
            go_wp2_with fail
            go_roundw
            case rel => exact ⟨j + 1, by omega, by go_num, HL5.out, by rw [HLS2.out]; exact HO5.out⟩
            case measure => simp [intOf]; omega
        · obtain rfl : j = n := by omega
          have dj : decide (j < j) = false := decide_eq_false (by omega)
          have hla : lft1 k K1 L1 j = lftR k K1 L1 := by rw [HN.out]; exact lft1_all k K1 L1
          rw [hla] at hor
          have hok : ∀ d ∈ lftR k K1 L1, 1 ≤ d.s ∧ d.s ≤ 10000 ∧ d.t.size = m := fun d hd => HP.out.ok d (List.mem_filter.1 hd).1
          have hln : (lftR k K1 L1).length ≤ j := by rw [← hla]; exact lft1_len k K1 L1 j
          obtain ⟨LL, hLL⟩ : ∃ LL, LL = lftR k K1 L1 := ⟨_, rfl⟩
          rw [← hLL] at hor hok hln
          obtain ⟨ll, hll⟩ : ∃ ll, ll = LL.length := ⟨_, rfl⟩
          rw [← hll] at hln
          obtain ⟨la, lc, rfl, hrat⟩ := OwnR.slice hor (show (LL.map Dr.row).length = ll by rw [List.length_map, hll])
          have hpw := HP.out.keep hlat
          have fp := hpw.blk.free 33 (by decide)
          have hpo : p < wo.heap.size := HP.out.blk.lt
          have hp2 := hpw.setD (w0 := wo) hor (Nat.le_refl _) hpo hok
          have hla2 : ∀ i, (Value.slice la ll lc).ownBlock = some i → wo.heap.size ≤ i := fun i hi => (OwnR.lt hor i hi).1
          have hfr2 : Fr G3 wb (wr.setCell ⟨p, 33, none⟩ (.slice la ll lc)) := (HFR3.out.next hlat).then_set ⟨p, 33, none⟩ _ (.inl HGP3.out)
          have hown2 : OwnInts (wr.setCell ⟨p, 33, none⟩ (.slice la ll lc)) wb.heap.size u5 out := OwnInts.frP (Own.keep HOW.out hlat) (Fr.set (S := fun i => i = p) wr ⟨p, 33, none⟩ _ rfl) (fun g hg e => by have := (Own.lt HOW.out g hg).1; have := HPB.out; omega)
          obtain ⟨W2, hW2⟩ : ∃ W2, W2 = wr.setCell ⟨p, 33, none⟩ (.slice la ll lc) := ⟨_, rfl⟩
          rw [← hW2] at hp2 hfr2 hown2
          have HP2 := Lib.hid hp2; have HF2 := Lib.hid hfr2; have HO2 := Lib.hid hown2; have HLA2 := Lib.hid hla2; have HLL := Lib.hid hll; have HLLD := Lib.hid hLL
          clear hrel hlat hor hla hok hLL hll hrat hpw hpo hp2 hla2 hfr2 hown2 HC33 HLEFT HAT
          go_upto_region 15 with fail
          rw [← hW2]
          clear hW2 c33 fp
          obtain ⟨la', lc', he, hat2⟩ := OwnR.slice HP2.out.drops (show (LL.map Dr.row).length = ll by rw [List.length_map]; exact HLL.out.symm)
          injection he with q1 _ q3
          subst q1
          subst q3
          have hcap2 := hat2.cap
          have hcle2 := hat2.le
          unfold maxLen at hcap2
          have hleft2 : ∀ x ∈ LL, ∀ W, Lat W2 W → Calls Tryd.prog 30 #[.pointer (some ⟨p, 0, none⟩), .agg #[.int .i64 x.s, .string x.t]] W fun e w' => ∃ v, e = .returned v ∧ OwnInts w' W.heap.size v (woD k K1 x).1 ∧ Lat W w' := fun x hx W hW => by
            have ho := HP2.out.ok x hx
            have e : x.s = ((x.s.toNat : Nat) : Int) := by omega
            have := refLeft _ p k m K1 (T ++ [s]) LL (.slice la ll lc) tv2 x.s.toNat x.t.data.toList W (HP2.out.keep hW) h1 h2 (by omega) (by omega)
            rw [S_data', ← e] at this
            exact this
          have HAT2 := Lib.hid hat2; have HLEFT2 := Lib.hid hleft2
          clear hat2 hleft2
          go_wp2_with fail
          go_loopw [5, 6, 10] (fun ov av i wx => ∃ (j : Nat) (b : Bool), j ≤ ll ∧ i = .int .i64 j ∧ av = .bool b ∧ Hid (if b = true then (∃ K2 L2 out2 lv2, TK G3 wb p k m (T ++ [s]) tv2 R f true K2 L2 out2 lv2 ov wx) else ov = u5 ∧ Lat W2 wx ∧ ∀ j', j' < j → ∀ y, LL[j']? = some y → one1 (woD k K1 y) = false)) (fun _ _ i _ => ll - (intOf i).toNat)
          case atStart => exact ⟨0, false, Nat.zero_le _, rfl, rfl, by unfold Hid; rw [if_neg (fun e => Bool.noConfusion e)]; exact ⟨rfl, Lat.refl _, fun j' hj => by omega⟩⟩
          case round =>
            obtain ⟨i, b, hi, rfl, rfl, hrel⟩ := hrel
            by_cases hlt : i < ll
            · have di : decide (i < ll) = true := decide_eq_true hlt
              cases b with
              | true =>
                have h9 := hrel.out
                rw [if_pos rfl] at h9
                have H9 := Lib.hid h9
                clear hrel h9
                go_wp2_with fail
                obtain ⟨K2, L2, out2, lv9, h9⟩ := H9.out
                go_roundg f
                case measure => omega
                case rel => exact ⟨true, K2, L2, out2, lv9, rfl, h9⟩
              | false =>
                have h9 := hrel.out
                rw [if_neg (fun e => Bool.noConfusion e)] at h9
                obtain ⟨hov, hlat, hbf⟩ := h9
                subst hov
                obtain ⟨gb, go, hgla, hcell⟩ := (HAT2.out.keep hlat).at_ (by omega)
                have hil : i < LL.length := by rw [← HLL.out]; exact hlt
                obtain ⟨x, hx⟩ : ∃ x, x = LL[i] := ⟨_, rfl⟩
                have hx2 : LL[i]? = some x := by rw [hx]; exact List.getElem?_eq_getElem hil
                have hxm : x ∈ LL := by rw [hx]; exact List.getElem_mem hil
                have hxr : (LL.map Dr.row)[i]? = some (Dr.row x) := by rw [List.getElem?_map, hx2]; rfl
                have c0 := (hcell i _ hxr).2 0 _ rfl
                have c1 := (hcell i _ hxr).2 1 _ rfl
                rw [Nat.add_zero] at c0
                rw [← Nat.add_assoc] at c1
                have hlf := HLEFT2.out x hxm
                obtain ⟨q, hq⟩ : ∃ q, q = (woD k K1 x).1.length := ⟨_, rfl⟩
                have hso : one1 (woD k K1 x) = decide (q = 1) := by rw [hq]; rfl
                have hxo := HP2.out.ok x hxm
                obtain ⟨xs, xt⟩ := x
                simp only at c0 c1 hlf hxo
                have i1 : (0 : Int) ≤ (i : Int) := by omega
                have i2 : (i : Int) < (ll : Int) := by omega
                have HLAT := Lib.hid hlat; have HLF := Lib.hid hlf; have HQ := Lib.hid hq; have HSO := Lib.hid hso; have HXO := Lib.hid hxo; have HX2 := Lib.hid hx2; have HBF := Lib.hid hbf; have HXM := Lib.hid hxm
                subst hgla
                clear hrel hlat hcell hil hx hx2 hxm hxr hlf hq hso hxo hbf
                go_upto_region 19 with (go_at_call 30; refine (HLF.out _ HLAT.out).mono ?_; rintro e w5 ⟨xv, rfl, hxi, hb5⟩)
                obtain ⟨ya, yc, rfl⟩ := ints_as hxi HQ.out
                have c0 := hb5.cell_at c0
                have c1 := hb5.cell_at c1
                have HL5 := Lib.hid (HLAT.out.trans hb5); have HXI := Lib.hid hxi; have HB5 := Lib.hid hb5
                clear hb5 hxi
                by_cases hq1 : q = 1
                · subst hq1
                  have hfd : LL.find? (fun d => one1 (woD k K1 d)) = some ⟨xs, xt⟩ := find_at HX2.out (by rw [HSO.out]; rfl) HBF.out
                  obtain ⟨z, hz⟩ : ∃ z, (woD k K1 ⟨xs, xt⟩).1 = [z] := List.length_eq_one_iff.1 HQ.out.symm
                  have hzm : z ∈ (setZ k xs.toNat).filter (unkn K1) := by
                    have e : (woD k K1 ⟨xs, xt⟩).1 = (setZ k xs.toNat).filter (unkn K1) := rfl
                    rw [← e, hz]; exact List.mem_singleton.2 rfl
                  obtain ⟨hz1, hz2⟩ := List.mem_filter.1 hzm
                  have hxs1 := HXO.out.1
                  have hxs2 := HXO.out.2.1
                  have hzr := setZ_lt k xs.toNat h1 (by omega) z hz1
                  have hzn : K1 z = none := by unfold unkn at hz2; exact Option.isNone_iff_eq_none.1 hz2
                  have hoth : ∀ y ∈ setZ k xs.toNat, y ≠ z → ∃ c, K1 y = some c := fun y hy hne => by
                    cases hc : K1 y with
                    | some c => exact ⟨c, rfl⟩
                    | none =>
                      have hm : y ∈ (woD k K1 ⟨xs, xt⟩).1 := List.mem_filter.2 ⟨hy, by unfold unkn; rw [hc]; rfl⟩
                      rw [hz, List.mem_singleton] at hm
                      exact absurd hm hne
                  have hset : ∀ W, Calls Tryd.prog 31 #[.int .i64 k, .int .i64 xs] W fun e w' => ∃ a cap, e = .returned (.slice a (setZ k xs.toNat).length cap) ∧ IntsAt w' a (setZ k xs.toNat).length cap (setZ k xs.toNat) ∧ Lat W w' := fun W => by
                    have := refSet k xs.toNat W h1 h2 (by omega) (by omega)
                    rw [show ((xs.toNat : Nat) : Int) = xs by omega] at this
                    exact this
                  have hs16 := setZ_lt k xs.toNat h1 (by omega)
                  have hsl := setZ_length k xs.toNat h1 h2 (by omega)
                  have hwo : (woD k K1 ⟨xs, xt⟩).2 = (setZ k xs.toNat).foldl (ovK K1) xt.data.toList := rfl
                  obtain ⟨ZS, hZS⟩ : ∃ ZS, ZS = setZ k xs.toNat := ⟨_, rfl⟩
                  rw [← hZS] at hset hs16 hsl hoth hwo
                  obtain ⟨n4, hn4⟩ : ∃ n4, n4 = ZS.length := ⟨_, rfl⟩
                  rw [← hn4] at hset hsl
                  obtain ⟨qz, hqz⟩ : ∃ qz : Nat, z = (qz : Int) := ⟨z.toNat, by omega⟩
                  subst hqz
                  have hxi1 : OwnInts w5 wr.heap.size (.slice ya 1 yc) [(qz : Int)] := by rw [← hz]; exact HXI.out
                  obtain ⟨ya', yc', he, hyi⟩ := OwnInts.sliceN hxi1 (fun z hz => by rw [List.mem_singleton] at hz; subst hz; omega) (n := 1) rfl
                  injection he with q1 _ q3
                  subst q1
                  subst q3
                  have hylt := Own.lt hxi1
                  have hycap := hyi.row.cap
                  have hycle := hyi.row.le
                  unfold maxLen at hycap
                  obtain ⟨yb, yo, rfl, hyc⟩ := hyi.row.at_ (by omega)
                  have cy : w5.cell? ⟨yb, yo, none⟩ = some (.int .i64 qz) := hyc 0 (by omega)
                  have hybp : yb ≠ p := fun e => by
                    have := (hylt yb rfl).1
                    have := (HP2.out.keep HLAT.out).blk.lt
                    omega
                  have hp5 := HP2.out.keep HL5.out
                  have c00 : w5.cell? ⟨p, 0, none⟩ = some (.int .i64 k) := hp5.blk.cell 0 (by decide)
                  have hKc : ∀ W, Lat w5 W → ∀ y, y < 16 → W.cell? ⟨p, 17 + y, none⟩ = some (.string (S ((K1 (y : Int)).getD []))) := fun W hW y hy => by
                    rw [(hp5.keep hW).blk.cell (17 + y) (by omega)]
                    unfold plF
                    rw [if_neg (by omega), if_neg (by omega), if_pos (by omega), show ((17 + y : Nat) : Int) - 17 = (y : Int) by omega]
                  have z0 : (0 : Int) ≤ (qz : Int) := by omega
                  have z1 : (qz : Int) < 16 := by omega
                  have hF : w5.drew.cell? ⟨p, 0, none⟩ = some (.int .i64 k) ∧ w5.drew.cell? ⟨gb, go + i * 2, none⟩ = some (.int .i64 xs) := ⟨c00, c0⟩
                  have d0 : decide (((1 : Nat) : Int) = 1) = true := rfl
                  have HFD := Lib.hid hfd; have HZ := Lib.hid hz; have HZR := Lib.hid hzr; have HZN := Lib.hid hzn; have HOTH := Lib.hid hoth; have HSET := Lib.hid hset; have HS16 := Lib.hid hs16; have HSL := Lib.hid hsl; have HWO := Lib.hid hwo; have HN4 := Lib.hid hn4; have HP5 := Lib.hid hp5; have HKC := Lib.hid hKc; have HFF := Lib.hid hF; have HYC := Lib.hid cy
                  clear hfd hz hzm hz1 hz2 hzr hzn hoth hset hs16 hsl hwo hZS hn4 hxi1 hylt hyi hyc hp5 hKc hF c00 HXI HQ HSO HBF HX2 HLF
                  go_upto_region 21 with fail
                  have hF := HFF.out
                  refine wp_region_gate (fun w' => w'.cell? ⟨p, 0, none⟩ = some (.int .i64 k) ∧ w'.cell? ⟨gb, go + i * 2, none⟩ = some (.int .i64 xs)) (fun _ => True) 1000 (by kernel_rfl) ?_
                  refine gate_takeF (i := 0) (v := ?_) rfl (by kernel_rfl) (by kernel_rfl) (by kernel_rfl) (fun _ _ _ h => h) (by decide) ⟨hF, fun _ => trivial⟩ (Or.inl ⟨by kernel_rfl, ?_⟩) ?_
                  rotate_left
                  · intro wq hSw; obtain ⟨s0, s1⟩ := hSw; go_simp; rfl
                  simp only [Act.put]
                  refine gate_takeF (i := 1) (v := ?_) rfl (by kernel_rfl) (by kernel_rfl) (by kernel_rfl) (fun _ _ _ h => h) (by decide) ⟨hF, fun _ => trivial⟩ (Or.inl ⟨by kernel_rfl, ?_⟩) ?_
                  rotate_left
                  · intro wq hSw; obtain ⟨s0, s1⟩ := hSw; go_simp; rfl
                  simp only [Act.put]
                  refine gate_takeF (i := 2) (v := ?_) rfl (by kernel_rfl) (by kernel_rfl) (by kernel_rfl) (fun _ _ _ h => h) (by decide) ⟨hF, fun _ => trivial⟩ (Or.inl ⟨by kernel_rfl, ?_⟩) ?_
                  rotate_left
                  · intro wq hSw; obtain ⟨s0, s1⟩ := hSw; go_simp; rfl
                  simp only [Act.put]
                  refine gate_takeF (i := 3) (v := ?_) rfl (by kernel_rfl) (by kernel_rfl) (by kernel_rfl) (fun _ _ _ h => h) (by decide) ⟨hF, fun _ => trivial⟩ (Or.inl ⟨by kernel_rfl, ?_⟩) ?_
                  rotate_left
                  · intro wq hSw; obtain ⟨s0, s1⟩ := hSw; go_simp; rfl
                  simp only [Act.put]
                  refine gate_takeF (i := 4) (v := ?_) rfl (by kernel_rfl) (by kernel_rfl) (by kernel_rfl) (fun _ _ _ h => h) (by decide) ⟨hF, fun _ => trivial⟩ (Or.inl ⟨by kernel_rfl, ?_⟩) ?_
                  rotate_left
                  · intro wq hSw; obtain ⟨s0, s1⟩ := hSw; go_simp; rfl
                  simp only [Act.put]
                  refine gate_takeF (i := 5) (v := ?_) rfl (by kernel_rfl) (by kernel_rfl) (by kernel_rfl) (fun _ _ _ h => h) (by decide) ⟨hF, fun _ => trivial⟩ (Or.inl ⟨by kernel_rfl, ?_⟩) ?_
                  rotate_left
                  · intro wq hSw; obtain ⟨s0, s1⟩ := hSw; go_simp; rfl
                  simp only [Act.put]
                  refine gate_takeF (i := 6) (v := ?_) rfl (by kernel_rfl) (by kernel_rfl) (by kernel_rfl) (fun _ _ _ h => h) (by decide) ⟨hF, fun _ => trivial⟩ (Or.inl ⟨by kernel_rfl, ?_⟩) ?_
                  rotate_left
                  · intro wq hSw; obtain ⟨s0, s1⟩ := hSw; go_simp; rfl
                  simp only [Act.put]
                  refine gate_takeF (i := 7) (v := ?_) rfl (by kernel_rfl) (by kernel_rfl) (by kernel_rfl) (fun _ _ _ h => h) (by decide) ⟨hF, fun _ => trivial⟩ (Or.inl ⟨by kernel_rfl, ?_⟩) ?_
                  rotate_left
                  · intro wq hSw; obtain ⟨s0, s1⟩ := hSw; go_simp; rfl
                  simp only [Act.put]
                  refine gate_takeF (i := 8) (v := ?_) rfl (by kernel_rfl) (by kernel_rfl) (by kernel_rfl) (fun _ _ _ h => h) (by decide) ⟨hF, fun _ => trivial⟩ (Or.inl ⟨by kernel_rfl, ?_⟩) ?_
                  rotate_left
                  · intro wq hSw; obtain ⟨s0, s1⟩ := hSw; go_simp; rfl
                  simp only [Act.put]
                  refine gate_one (i := 9) (by kernel_rfl) rfl (fun KK hK => ?_)
                  go_simp
                  refine (HSET.out _).mono ?_
                  rintro e w6 ⟨sa, sc, rfl, hsi, hb6⟩
                  have hF' : w6.cell? ⟨p, 0, none⟩ = some (.int .i64 k) ∧ w6.cell? ⟨gb, go + i * 2, none⟩ = some (.int .i64 xs) := ⟨hb6.cell_at hF.1, hb6.cell_at hF.2⟩
                  refine hK _ _ ⟨hF', fun _ => trivial⟩ ?_
                  have hl6 : Lat w5 w6 := (Lat.drew w5).trans hb6
                  have HL6 := Lib.hid hl6; have HSI := Lib.hid hsi
                  clear hK KK hF hb6 hsi hl6
                  have hF := hF'
                  clear hF' 
                  refine gate_takeF (i := 10) (v := ?_) rfl (by kernel_rfl) (by kernel_rfl) (by kernel_rfl) (fun _ _ _ h => h) (by decide) ⟨hF, fun _ => trivial⟩ (Or.inl ⟨by kernel_rfl, ?_⟩) ?_
                  rotate_left
                  · intro wq hSw; obtain ⟨s0, s1⟩ := hSw; go_simp; rfl
                  simp only [Act.put]
                  refine gate_done (by kernel_rfl) ?_ _
                  clear hF HFF
                  simp only [List.getElem_toArray, List.getElem_cons_succ, List.getElem_cons_zero]
                  go_simp
                  have hscap := HSI.out.row.cap
                  have hscle := HSI.out.row.le
                  unfold maxLen at hscap
                  have hxl : xt.data.toList.length = m := HXO.out.2.2
                  have HXL := Lib.hid hxl
                  clear hxl
                  go_wp2_with fail
                  go_loopw [12, 14] (fun bv iv wx => ∃ (j : Nat) (b : Bts), j ≤ n4 ∧ iv = .int .i64 j ∧ bv = .string (S b) ∧ Hid (b = (ZS.take j).foldl (ovK K1) xt.data.toList ∧ Lat w6 wx)) (fun _ i _ => n4 - (intOf i).toNat)
                  case atStart => exact ⟨0, xt.data.toList, Nat.zero_le _, rfl, rfl, rfl, Lat.refl _⟩
                  case round =>
                    obtain ⟨j, b, hj, rfl, rfl, hrel⟩ := hrel
                    obtain ⟨hb, hlat⟩ := hrel.out
                    have hbl : b.length = m := by rw [hb]; exact ovK_len HP5.out.kn _ _ HXL.out
                    have hl5 := HL6.out.trans hlat
                    have cyw := hl5.cell_at HYC.out
                    by_cases hlt : j < n4
                    · obtain ⟨sb, so, rfl, hc⟩ := (HSI.out.keep hlat).row.at_ (by omega)
                      have hjl : j < ZS.length := by rw [← HN4.out]; exact hlt
                      have cs := hc j hlt
                      have hym := getD_mem ZS j hjl
                      have hy16 := HS16.out _ hym
                      have hst : (ZS.take (j + 1)).foldl (ovK K1) xt.data.toList = ovK K1 b (ZS.getD j 0) := by
                        rw [List.take_succ_eq_append_getElem hjl, List.foldl_append, ← hb, List.getD_eq_getElem?_getD, List.getElem?_eq_getElem hjl]; rfl
                      obtain ⟨qy, hqy⟩ : ∃ qy : Nat, ZS.getD j 0 = (qy : Int) := ⟨(ZS.getD j 0).toNat, by omega⟩
                      rw [hqy] at cs hy16 hst hym
                      have cb := HKC.out wr hl5 qy (by omega)
                      have y0 : (0 : Int) ≤ (qy : Int) := by omega
                      have y1 : (qy : Int) < 16 := by omega
                      have j0 : (0 : Int) ≤ (j : Int) := by omega
                      have j1 : (j : Int) < (n4 : Int) := by omega
                      have dj : decide (j < n4) = true := decide_eq_true hlt
                      have hlw : ∀ d, Lat w6 (wr.drewN d) := fun d => hlat.trans (Lat.drewN _ d)
                      have HLW := Lib.hid hlw
                      by_cases hyz : (qy : Int) = (qz : Int)
                      · have hst2 : b = (ZS.take (j + 1)).foldl (ovK K1) xt.data.toList := by rw [hst]; unfold ovK; rw [hyz, HZN.out]
                        obtain rfl : qy = qz := by omega
                        have HST2 := Lib.hid hst2
                        clear hrel hb hlat hc hst hqy hym hst2 hl5 hlw hbl hjl hyz
                        go_upto_region 25 with fail
                        go_quiet (fail)
                        go_wp2_with fail
                        go_roundw
                        case rel => exact ⟨j + 1, b, by omega, by go_num, rfl, HST2.out, HLW.out _⟩
                        case measure => simp [intOf]; omega
                      · obtain ⟨c, hcc⟩ := HOTH.out _ hym hyz
                        have hst2 : xorL b c = (ZS.take (j + 1)).foldl (ovK K1) xt.data.toList := by rw [hst]; unfold ovK; rw [hcc]
                        have hcl := (HP5.out.kn _ _ hcc).2.2
                        rw [hcc] at cb
                        have cb : wr.cell? ⟨p, 17 + qy, none⟩ = some (.string (S c)) := cb
                        have hxor : ∀ W, Calls Tryd.prog 32 #[.string (S b), .string (S c)] W fun e w' => e = .returned (.string (S (xorL b c))) ∧ Lat W w' := fun W => refXor (S b) (S c) W (by show b.length = c.length; omega) (by show b.length ≤ 1000000; omega)
                        have hF : ∀ d, (wr.drewN d).drew.cell? ⟨sb, so + j, none⟩ = some (.int .i64 qy) ∧ (wr.drewN d).drew.cell? ⟨p, 17 + qy, none⟩ = some (.string (S c)) := fun d => ⟨cs, cb⟩
                        have dz : decide ((qy : Int) = (qz : Int)) = false := decide_eq_false hyz
                        have dz2 : decide (qy = qz) = false := decide_eq_false (by omega)
                        have HST2 := Lib.hid hst2; have HXOR := Lib.hid hxor; have HFF := Lib.hid hF
                        clear hrel hb hlat hc hst hqy hym hst2 hl5 hlw hbl hjl hcl hcc hxor hF
                        go_upto_region 25 with fail
                        go_quiet (fail)
                        go_upto_region 26 with fail
                        have hF := HFF.out nq
                        refine wp_region_gate (fun w' => w'.cell? ⟨sb, so + j, none⟩ = some (.int .i64 qy) ∧ w'.cell? ⟨p, 17 + qy, none⟩ = some (.string (S c))) (fun _ => True) 1000 (by kernel_rfl) ?_
                        refine gate_takeF (i := 0) (v := ?_) rfl (by kernel_rfl) (by kernel_rfl) (by kernel_rfl) (fun _ _ _ h => h) (by decide) ⟨hF, fun _ => trivial⟩ (Or.inl ⟨by kernel_rfl, ?_⟩) ?_
                        rotate_left
                        · intro wq hSw; obtain ⟨s0, s1⟩ := hSw; go_simp; rfl
                        simp only [Act.put]
                        refine gate_takeF (i := 1) (v := ?_) rfl (by kernel_rfl) (by kernel_rfl) (by kernel_rfl) (fun _ _ _ h => h) (by decide) ⟨hF, fun _ => trivial⟩ (Or.inl ⟨by kernel_rfl, ?_⟩) ?_
                        rotate_left
                        · intro wq hSw; obtain ⟨s0, s1⟩ := hSw; go_simp; rfl
                        simp only [Act.put]
                        refine gate_takeF (i := 2) (v := ?_) rfl (by kernel_rfl) (by kernel_rfl) (by kernel_rfl) (fun _ _ _ h => h) (by decide) ⟨hF, fun _ => trivial⟩ (Or.inl ⟨by kernel_rfl, ?_⟩) ?_
                        rotate_left
                        · intro wq hSw; obtain ⟨s0, s1⟩ := hSw; go_simp; rfl
                        simp only [Act.put]
                        refine gate_takeF (i := 3) (v := ?_) rfl (by kernel_rfl) (by kernel_rfl) (by kernel_rfl) (fun _ _ _ h => h) (by decide) ⟨hF, fun _ => trivial⟩ (Or.inl ⟨by kernel_rfl, ?_⟩) ?_
                        rotate_left
                        · intro wq hSw; obtain ⟨s0, s1⟩ := hSw; go_simp; rfl
                        simp only [Act.put]
                        refine gate_takeF (i := 4) (v := ?_) rfl (by kernel_rfl) (by kernel_rfl) (by kernel_rfl) (fun _ _ _ h => h) (by decide) ⟨hF, fun _ => trivial⟩ (Or.inl ⟨by kernel_rfl, ?_⟩) ?_
                        rotate_left
                        · intro wq hSw; obtain ⟨s0, s1⟩ := hSw; go_simp; rfl
                        simp only [Act.put]
                        refine gate_takeF (i := 5) (v := ?_) rfl (by kernel_rfl) (by kernel_rfl) (by kernel_rfl) (fun _ _ _ h => h) (by decide) ⟨hF, fun _ => trivial⟩ (Or.inl ⟨by kernel_rfl, ?_⟩) ?_
                        rotate_left
                        · intro wq hSw; obtain ⟨s0, s1⟩ := hSw; go_simp; rfl
                        simp only [Act.put]
                        refine gate_takeF (i := 6) (v := ?_) rfl (by kernel_rfl) (by kernel_rfl) (by kernel_rfl) (fun _ _ _ h => h) (by decide) ⟨hF, fun _ => trivial⟩ (Or.inl ⟨by kernel_rfl, ?_⟩) ?_
                        rotate_left
                        · intro wq hSw; obtain ⟨s0, s1⟩ := hSw; go_simp; rfl
                        simp only [Act.put]
                        refine gate_takeF (i := 7) (v := ?_) rfl (by kernel_rfl) (by kernel_rfl) (by kernel_rfl) (fun _ _ _ h => h) (by decide) ⟨hF, fun _ => trivial⟩ (Or.inl ⟨by kernel_rfl, ?_⟩) ?_
                        rotate_left
                        · intro wq hSw; obtain ⟨s0, s1⟩ := hSw; go_simp; rfl
                        simp only [Act.put]
                        refine gate_takeF (i := 8) (v := ?_) rfl (by kernel_rfl) (by kernel_rfl) (by kernel_rfl) (fun _ _ _ h => h) (by decide) ⟨hF, fun _ => trivial⟩ (Or.inl ⟨by kernel_rfl, ?_⟩) ?_
                        rotate_left
                        · intro wq hSw; obtain ⟨s0, s1⟩ := hSw; go_simp; rfl
                        simp only [Act.put]
                        refine gate_takeF (i := 9) (v := ?_) rfl (by kernel_rfl) (by kernel_rfl) (by kernel_rfl) (fun _ _ _ h => h) (by decide) ⟨hF, fun _ => trivial⟩ (Or.inl ⟨by kernel_rfl, ?_⟩) ?_
                        rotate_left
                        · intro wq hSw; obtain ⟨s0, s1⟩ := hSw; go_simp; rfl
                        simp only [Act.put]
                        refine gate_one (i := 10) (by kernel_rfl) rfl (fun KK hK => ?_)
                        go_simp
                        refine (HXOR.out _).mono ?_
                        rintro e w7 ⟨rfl, hb7⟩
                        have hF' : w7.cell? ⟨sb, so + j, none⟩ = some (.int .i64 qy) ∧ w7.cell? ⟨p, 17 + qy, none⟩ = some (.string (S c)) := ⟨hb7.cell_at hF.1, hb7.cell_at hF.2⟩
                        refine hK _ _ ⟨hF', fun _ => trivial⟩ ?_
                        have hl7 : Lat w6 w7 := ((HLW.out nq).trans (Lat.drew _)).trans hb7
                        have HL7 := Lib.hid hl7
                        clear hK KK hF hb7 hl7
                        have hF := hF'
                        clear hF' 
                        refine gate_takeF (i := 11) (v := ?_) rfl (by kernel_rfl) (by kernel_rfl) (by kernel_rfl) (fun _ _ _ h => h) (by decide) ⟨hF, fun _ => trivial⟩ (Or.inl ⟨by kernel_rfl, ?_⟩) ?_
                        rotate_left
                        · intro wq hSw; obtain ⟨s0, s1⟩ := hSw; go_simp; rfl
                        simp only [Act.put]
                        refine gate_done (by kernel_rfl) ?_ _
                        clear hF HFF
                        simp only [List.getElem_toArray, List.getElem_cons_succ, List.getElem_cons_zero]
                        go_simp
                        go_wp2_with fail
                        go_roundw
                        case rel => exact ⟨j + 1, xorL b c, by omega, by go_num, rfl, HST2.out, HL7.out⟩
                        case measure => simp [intOf]; omega
                    · obtain rfl : j = n4 := by omega
                      have dj : decide (j < j) = false := decide_eq_false (by omega)
                      have hbe : (woD k K1 ⟨xs, xt⟩).2 = b := by rw [HWO.out, hb, List.take_of_length_le (by rw [← HN4.out]; exact Nat.le_refl _)]
                      have hW := HL5.out.trans hl5
                      obtain ⟨W8, W9, u1, u2, hW8, hW9, hu1, fk1, hu2, fk2, hF2, hF3, hf9, hlrn⟩ := learn_two (HP2.out.keep hW) (z := qz) (by have := HZR.out; omega) h2 hbl cyw hybp
                      have hF1 : wr.drew.cell? ⟨yb, yo, none⟩ = some (.int .i64 qz) := cyw
                      have hown9 : OwnInts W9 wb.heap.size u5 out := OwnInts.frP (Own.keep HO2.out hW) hf9 (fun g hg e => by have := (Own.lt HO2.out g hg).1; have := HPB.out; omega)
                      have hfr9 : Fr G3 wb W9 := (HF2.out.next hW).trans hf9 (fun i _ e => by rw [e]; exact HGP3.out)
                      obtain ⟨no, hno⟩ : ∃ no, no = out.length := ⟨_, rfl⟩
                      have hno16 : no ≤ 16 := by have := HOL.out; omega
                      obtain ⟨oa, oc, hov, hoat⟩ := OwnInts.sliceN hown9 (fun z hz => by have := HRNG.out z hz; omega) hno.symm
                      subst hov
                      have hput := refPut oa no oc out (qz : Int) W9 hoat (by omega)
                      have hunk := unkC_upd (k := k) (K := K1) b HZR.out HZN.out
                      have hrun2 : rtk k f (updK K1 (qz : Int) b) LL (putL out (qz : Int)) = R := rtk_hit HRUN.out HLLD.out HFD.out HZ.out hbe
                      have hsz9 := hfr9.size
                      have H1 := Lib.hid hF1; have H2 := Lib.hid hF2; have H3 := Lib.hid hF3; have HLRN := Lib.hid hlrn; have HFR9 := Lib.hid hfr9; have HPUT := Lib.hid hput; have HUNK := Lib.hid hunk; have HRUN2 := Lib.hid hrun2; have HNO := Lib.hid hno; have HW8 := Lib.hid hW8; have HW9 := Lib.hid hW9; have HSZ9 := Lib.hid hsz9; have HC2 := Lib.hid (And.intro hu2 fk2)
                      clear hrel hb hbl hlat hl5 cyw hbe hW hlrn hF1 hF2 hF3 hf9 hown9 hfr9 hno hoat hput hunk hrun2 hW8 hW9 hsz9 hu2 fk2
                      go_upto_region 27 with fail
                      have hF := H1.out
                  
                      refine wp_region_gate (fun w' => w'.cell? ⟨yb, yo, none⟩ = some (.int .i64 qz)) (fun _ => True) 1000 (by kernel_rfl) ?_
                      refine gate_takeF (i := 0) (v := ?_) rfl (by kernel_rfl) (by kernel_rfl) (by kernel_rfl) (fun _ _ _ h => h) (by decide) ⟨hF, fun _ => trivial⟩ (Or.inl ⟨by kernel_rfl, ?_⟩) ?_
                      rotate_left
                      · intro wq hSw; go_simp; rfl
                      simp only [Act.put]
                      refine gate_takeF (i := 1) (v := ?_) rfl (by kernel_rfl) (by kernel_rfl) (by kernel_rfl) (fun _ _ _ h => h) (by decide) ⟨hF, fun _ => trivial⟩ (Or.inl ⟨by kernel_rfl, ?_⟩) ?_
                      rotate_left
                      · intro wq hSw; go_simp; rfl
                      simp only [Act.put]
                      refine gate_takeF (i := 2) (v := ?_) rfl (by kernel_rfl) (by kernel_rfl) (by kernel_rfl) (fun _ _ _ h => h) (by decide) ⟨hF, fun _ => trivial⟩ (Or.inl ⟨by kernel_rfl, ?_⟩) ?_
                      rotate_left
                      · intro wq hSw; go_simp; rfl
                      simp only [Act.put]
                      refine gate_takeF (i := 3) (v := ?_) rfl (by kernel_rfl) (by kernel_rfl) (by kernel_rfl) (fun _ _ _ h => h) (by decide) ⟨hF, fun _ => trivial⟩ (Or.inl ⟨by kernel_rfl, ?_⟩) ?_
                      rotate_left
                      · intro wq hSw; go_simp; rfl
                      simp only [Act.put]
                      refine gate_takeF (i := 4) (v := ?_) rfl (by kernel_rfl) (by kernel_rfl) (by kernel_rfl) (fun _ _ _ h => h) (by decide) ⟨hF, fun _ => trivial⟩ (Or.inl ⟨by kernel_rfl, ?_⟩) ?_
                      rotate_left
                      · intro wq hSw; go_simp; rfl
                      simp only [Act.put]
                      refine gate_takeF (i := 5) (v := ?_) rfl (by kernel_rfl) (by kernel_rfl) (by kernel_rfl) (fun _ _ _ h => h) (by decide) ⟨hF, fun _ => trivial⟩ (Or.inl ⟨by kernel_rfl, ?_⟩) ?_
                      rotate_left
                      · intro wq hSw; go_simp; rfl
                      simp only [Act.put]
                      refine gate_takeF (i := 6) (v := ?_) rfl (by kernel_rfl) (by kernel_rfl) (by kernel_rfl) (fun _ _ _ h => h) (by decide) ⟨hF, fun _ => trivial⟩ (Or.inl ⟨by kernel_rfl, ?_⟩) ?_
                      rotate_left
                      · intro wq hSw; go_simp; rfl
                      simp only [Act.put]
                      refine gate_one (i := 7) (by kernel_rfl) rfl (fun KK hK => ?_)
                      clear hF
                      go_simp
                      rw [drew_set, ← HW8.out]
                      refine hK _ _ ⟨H2.out, fun _ => trivial⟩ ?_
                      clear hK KK
                      refine gate_done (by kernel_rfl) ?_ _
                      clear hu1 fk1
                      go_upto_region 28 with fail
                      have hF : W8.drew.cell? ⟨yb, yo, none⟩ = some (.int .i64 qz) := H2.out
                      have hu2 := HC2.out.1
                      have fk2 := HC2.out.2
                      refine wp_region_gate (fun w' => w'.cell? ⟨yb, yo, none⟩ = some (.int .i64 qz)) (fun _ => True) 1000 (by kernel_rfl) ?_
                      refine gate_takeF (i := 0) (v := ?_) rfl (by kernel_rfl) (by kernel_rfl) (by kernel_rfl) (fun _ _ _ h => h) (by decide) ⟨hF, fun _ => trivial⟩ (Or.inl ⟨by kernel_rfl, ?_⟩) ?_
                      rotate_left
                      · intro wq hSw; go_simp; rfl
                      simp only [Act.put]
                      refine gate_takeF (i := 1) (v := ?_) rfl (by kernel_rfl) (by kernel_rfl) (by kernel_rfl) (fun _ _ _ h => h) (by decide) ⟨hF, fun _ => trivial⟩ (Or.inl ⟨by kernel_rfl, ?_⟩) ?_
                      rotate_left
                      · intro wq hSw; go_simp; rfl
                      simp only [Act.put]
                      refine gate_takeF (i := 2) (v := ?_) rfl (by kernel_rfl) (by kernel_rfl) (by kernel_rfl) (fun _ _ _ h => h) (by decide) ⟨hF, fun _ => trivial⟩ (Or.inl ⟨by kernel_rfl, ?_⟩) ?_
                      rotate_left
                      · intro wq hSw; go_simp; rfl
                      simp only [Act.put]
                      refine gate_takeF (i := 3) (v := ?_) rfl (by kernel_rfl) (by kernel_rfl) (by kernel_rfl) (fun _ _ _ h => h) (by decide) ⟨hF, fun _ => trivial⟩ (Or.inl ⟨by kernel_rfl, ?_⟩) ?_
                      rotate_left
                      · intro wq hSw; go_simp; rfl
                      simp only [Act.put]
                      refine gate_takeF (i := 4) (v := ?_) rfl (by kernel_rfl) (by kernel_rfl) (by kernel_rfl) (fun _ _ _ h => h) (by decide) ⟨hF, fun _ => trivial⟩ (Or.inl ⟨by kernel_rfl, ?_⟩) ?_
                      rotate_left
                      · intro wq hSw; go_simp; rfl
                      simp only [Act.put]
                      refine gate_takeF (i := 5) (v := ?_) rfl (by kernel_rfl) (by kernel_rfl) (by kernel_rfl) (fun _ _ _ h => h) (by decide) ⟨hF, fun _ => trivial⟩ (Or.inl ⟨by kernel_rfl, ?_⟩) ?_
                      rotate_left
                      · intro wq hSw; go_simp; rfl
                      simp only [Act.put]
                      refine gate_takeF (i := 6) (v := ?_) rfl (by kernel_rfl) (by kernel_rfl) (by kernel_rfl) (fun _ _ _ h => h) (by decide) ⟨hF, fun _ => trivial⟩ (Or.inl ⟨by kernel_rfl, ?_⟩) ?_
                      rotate_left
                      · intro wq hSw; go_simp; rfl
                      simp only [Act.put]
                      refine gate_takeF (i := 7) (v := ?_) rfl (by kernel_rfl) (by kernel_rfl) (by kernel_rfl) (fun _ _ _ h => h) (by decide) ⟨hF, fun _ => trivial⟩ (Or.inl ⟨by kernel_rfl, ?_⟩) ?_
                      rotate_left
                      · intro wq hSw; go_simp; rfl
                      simp only [Act.put]
                      refine gate_one (i := 8) (by kernel_rfl) rfl (fun KK hK => ?_)
                      clear hF
                      go_simp
                      rw [drew_set, ← HW9.out]
                      refine hK _ _ ⟨H3.out, fun _ => trivial⟩ ?_
                      clear hK KK
                      refine gate_done (by kernel_rfl) ?_ _
                      clear hu2 fk2
                      have cy9 := H3.out
                      go_wp2_with (go_at_call 33; refine HPUT.out.mono ?_; rintro e w10 ⟨ov, rfl, hown10, hb10⟩)
                      have htk : TK G3 wb p k m (T ++ [s]) tv2 R f true (updK K1 (qz : Int) b) LL (putL out (qz : Int)) (.slice (some ⟨gb, go, none⟩) ll lc) ov w10 :=
                        ⟨by rw [if_pos rfl]; exact ⟨by have := HUNK.out; have := HUU.out; omega, HRUN2.out⟩, Own.mono hown10 HSZ9.out, by rw [putL_length]; have := HUNK.out; have := HOL.out; omega, fun z hz => by
                          rcases (mem_putL _ _ _).1 hz with h | h
                          · rw [h]; exact HZR.out
                          · exact HRNG.out z h, HFR9.out.next hb10, ⟨_, HLRN.out.keep hb10⟩, fun g hg => .inr (Nat.le_trans HFR3.out.size (HLA2.out g hg)), by rw [← HLL.out]; omega⟩
                      have HTK := Lib.hid htk
                      clear htk hown10 hb10
                      try go_wp2_with fail
                      go_roundw
                      case rel => exact ⟨i + 1, true, by omega, by go_num, rfl, by unfold Hid; rw [if_pos rfl]; exact ⟨_, _, _, _, HTK.out⟩⟩
                      case measure => simp [intOf]; omega
                · have d0 : decide ((q : Int) = 1) = false := decide_eq_false (by omega)
                  have hbf2 : ∀ j', j' < i + 1 → ∀ y, LL[j']? = some y → one1 (woD k K1 y) = false := fun j' hj' y hy => by
                    rcases Nat.lt_succ_iff_lt_or_eq.1 hj' with h | h
                    · exact HBF.out j' h y hy
                    · subst h
                      rw [HX2.out] at hy
                      cases hy
                      rw [HSO.out]; exact decide_eq_false hq1
                  have HBF2 := Lib.hid hbf2
                  clear hbf2
                  go_wp2_with fail
                  go_roundw
                  case rel => exact ⟨i + 1, false, by omega, by go_num, rfl, by unfold Hid; rw [if_neg (fun e => Bool.noConfusion e)]; exact ⟨rfl, HL5.out, HBF2.out⟩⟩
                  case measure => simp [intOf]; omega
            · obtain rfl : i = ll := by omega
              have di : decide (i < i) = false := decide_eq_false (by omega)
              cases b with
              | true =>
                have h9 := hrel.out
                rw [if_pos rfl] at h9
                have H9 := Lib.hid h9
                clear hrel h9
                go_wp2_with fail
                obtain ⟨K2, L2, out2, lv9, h9⟩ := H9.out
                go_roundg f
                case measure => omega
                case rel => exact ⟨true, K2, L2, out2, lv9, rfl, h9⟩
              | false =>
                have h9 := hrel.out
                rw [if_neg (fun e => Bool.noConfusion e)] at h9
                obtain ⟨hov, hlat, hbf⟩ := h9
                subst hov
                have hr : (K1, LL, out) = R := by
                  rw [← HRUN.out, rtk, ← HLLD.out, find_no (p := fun d => one1 (woD k K1 d)) (fun j' y hy => hbf j' (by rw [HLL.out]; exact (List.getElem?_eq_some_iff.1 hy).1) y hy)]
                have htk : TK G3 wb p k m (T ++ [s]) tv2 R f false K1 LL out (.slice la i lc) u5 wr := ⟨by rw [if_neg (fun e => Bool.noConfusion e)]; exact hr, Own.keep HO2.out hlat, HOL.out, HRNG.out, HF2.out.next hlat, ⟨_, HP2.out.keep hlat⟩, fun g hg => .inr (Nat.le_trans HFR3.out.size (HLA2.out g hg)), by rw [← HLL.out]; omega⟩
                have HTK := Lib.hid htk
                clear hrel hlat hbf hr htk
                go_wp2_with fail
                go_roundg f
                case measure => omega
                case rel => exact ⟨false, K1, LL, out, _, rfl, HTK.out⟩
end Go.Proofs.YtcpookgbneoilaaDoor

namespace Go.Proofs.YtcpookgbneoilaaDoor
open Go.ChangeShapes Go.WideShapes Go.ChangeAt Go.RowKit

theorem RPeelIn.fr {G H : Nat → Prop} {p k m : Nat} {K : Kn} {T : List Int} {ds : List Dr} {lv tv : Value} {w w' : World} (h : RPeelIn G p k m K T ds lv tv w) (hf : Fr H w w') (hd : ∀ i, G i → ¬ H i) : RPeelIn G p k m K T ds lv tv w' :=
  ⟨fun i hi => Nat.lt_of_lt_of_le (h.lt i hi) hf.size, h.gp, blk_frm h.blk hf (hd _ h.gp), OwnR.fr h.drops hf (fun i hi => hd _ (h.own1 i hi).1), h.taken.frP hf (fun i hi => hd _ (h.own2 i hi).1), h.own1, h.own2, h.kn, h.ok⟩
end Go.Proofs.YtcpookgbneoilaaDoor

namespace Go.Proofs.YtcpookgbneoilaaDoor
open Go.ChangeShapes Go.WideShapes Go.ChangeAt Go.RowKit

section
variable {G : Nat → Prop} {p kb tb k m : Nat} {K : Kn} {T T' : List Int} {L : List Wt} {a : Option Addr} {cap : Nat} {w w1 w2 w3 w5 : World}
theorem PeelIn.take (h : PeelIn G p kb tb k m K T L a cap w1) (htk : TkAt w2 tb T') (hf : Fr (fun i => i = tb) w1 w2) (hm : L.length ≤ T'.length) : PeelIn G p kb tb k m K T' L a cap w2 := by
  obtain ⟨rows, ho, hw⟩ := h.row
  have np : ¬ p = tb := h.nt
  exact ⟨fun i hi => Nat.lt_of_lt_of_le (h.lt i hi) hf.size, h.gp, h.gk, h.gt, h.nk, h.nt, h.nkt, hf.cell_at h.c0 np, hf.cell_at h.c1 np, hf.cell_at h.c2 np, hf.cell_at h.c3 np, hf.cell_at h.c4 np, hf.free_at (h.lt _ h.gp) h.free np,
    h.kn.fr hf h.nkt, htk, ⟨rows, ho.fr hf (fun i hi e => (h.own i hi).2.2.2 e), hw.fr hf (fun i _ e _ => .inr (.inr (.inl e)))⟩, h.own, h.ok, hm⟩
theorem PeelIn.push {B g cap' : Nat} {zs : List Int} {t : Bts} {oa : Option Addr} {oc : Nat} {rows : List (List Value)} (h : PeelIn G p kb tb k m K T L a cap w3) (hGB : ∀ i, G i → i < B) (hB : B ≤ w3.heap.size) (hT : L.length + 1 ≤ T.length) (hrw : WtsAt w3 (Nb p kb tb (.slice a L.length cap)) G rows L)
    (ho : OwnR w5 0 74 2 (.slice (some ⟨g, 0, none⟩) (L.length + 1) cap') (rows ++ [[.slice oa zs.length oc, .string (S t)]])) (hs : AppStep w3 w5 (.slice a L.length cap) (.slice (some ⟨g, 0, none⟩) (L.length + 1) cap')) (hb : Below 0 w3 w5)
    (hz : IntsAt w3 oa zs.length oc zs) (hfr : ∀ b o, oa = some ⟨b, o, none⟩ → B ≤ b) (hok : WOk k m K (L ++ [(zs, t)])) :
    PeelIn (fun i => i < (w5.setCell ⟨p, 4, none⟩ (.slice (some ⟨g, 0, none⟩) (L.length + 1) cap')).heap.size ∧ (G i ∨ B ≤ i)) p kb tb k m K T (L ++ [(zs, t)]) (some ⟨g, 0, none⟩) cap' (w5.setCell ⟨p, 4, none⟩ (.slice (some ⟨g, 0, none⟩) (L.length + 1) cap')) := by
  have hf : Fr (fun i => (Value.slice a L.length cap).ownBlock = some i) w3 w5 := ⟨hb.os, hb.tape, hb.output, hs.size, fun i hi hne => hs.block i hi (fun e => hne e.symm)⟩
  obtain ⟨w6, hw6⟩ : ∃ w6, w6 = w5.setCell ⟨p, 4, none⟩ (.slice (some ⟨g, 0, none⟩) (L.length + 1) cap') := ⟨_, rfl⟩
  have hf6 : Fr (fun i => i = p) w5 w6 := by rw [hw6]; exact Fr.set _ _ _ rfl
  have hsz : w6.heap.size = w5.heap.size := by rw [hw6]; simp [World.setCell]
  have hp5 := hs.size
  have hpl := h.lt _ h.gp
  have hkl := h.lt _ h.gk
  have htl := h.lt _ h.gt
  have np : ¬ (Value.slice a L.length cap).ownBlock = some p := fun e => (h.own p e).2.1 rfl
  have nk : ¬ (Value.slice a L.length cap).ownBlock = some kb := fun e => (h.own kb e).2.2.1 rfl
  have nt : ¬ (Value.slice a L.length cap).ownBlock = some tb := fun e => (h.own tb e).2.2.2 rfl
  have hg : ((Value.slice a L.length cap).ownBlock = some g) ∨ w3.heap.size ≤ g := by
    rcases hs.loc with e | ⟨g2, e, hg⟩
    · exact .inl e.symm
    · have : g = g2 := Option.some.inj e
      exact .inr (by omega)
  have c : ∀ j x, j ≠ 4 → w3.cell? ⟨p, j, none⟩ = some x → w6.cell? ⟨p, j, none⟩ = some x := fun j x hj hx => by
    rw [hw6, World.cell?_setCell_other _ _ _ _ (by intro e; injection e with _ e _; exact hj e.symm)]; exact hf.cell_at hx np
  have c4 : w6.cell? ⟨p, 4, none⟩ = some (.slice (some ⟨g, 0, none⟩) (L.length + 1) cap') := by rw [hw6]; exact World.cell?_setCell_same _ _ _ (hf.cell_at h.c4 np)
  have fp : w6.frozen? ⟨p, 4, none⟩ = false := by rw [hw6, World.frozen?_setCell]; exact hf.free_at hpl h.free np
  have hup : ∀ i, G i → i < w6.heap.size ∧ (G i ∨ B ≤ i) := fun i hi => ⟨by have := h.lt i hi; omega, .inl hi⟩
  have hgl := (OwnR.lt ho g rfl).2
  have hgne : g ≠ p ∧ g ≠ kb ∧ g ≠ tb := by
    rcases hg with e | e
    · exact (h.own g e).2
    · exact ⟨by omega, by omega, by omega⟩
  have h1 : WtsAt w3 (fun i => Nb p kb tb (.slice a L.length cap) i ∨ i = g) (fun i => G i ∨ B ≤ i) rows L := hrw.off (fun i hi hgi e => by
    rcases e with e | e
    · exact e
    · subst e
      rcases hg with e | e
      · exact .inr (.inr (.inr e))
      · omega) (fun i _ e _ => .inl e)
  have h2 := h1.push (r := [.slice oa zs.length oc, .string (S t)]) (x := (zs, t)) ⟨oa, oc, rfl, hz, fun hn b o e hN => by
    have hbB := hfr b o e
    have hbl := hz.blk hn e
    have d1 := hGB _ h.gp
    have d2 := hGB _ h.gk
    have d3 := hGB _ h.gt
    rcases hN with (e1 | e1 | e1 | e1) | e1
    · omega
    · omega
    · omega
    · have := hGB b (h.own b e1).1; omega
    · subst e1
      rcases hg with e2 | e2
      · have := hGB b (h.own b e2).1; omega
      · omega, fun hn b o e => .inr (hfr b o e)⟩
  have h3 := (h2.fr hf (fun i _ e _ => .inl (.inr (.inr (.inr e))))).fr hf6 (fun i _ e _ => .inl (.inl e))
  rw [← hw6]
  have hll : (L ++ [(zs, t)]).length = L.length + 1 := by rw [List.length_append]; rfl
  refine ⟨fun i hi => hi.1, hup _ h.gp, hup _ h.gk, hup _ h.gt, h.nk, h.nt, h.nkt, c _ _ (by decide) h.c0, c _ _ (by decide) h.c1, c _ _ (by decide) h.c2, c _ _ (by decide) h.c3, by rw [hll]; exact c4, fp,
    (h.kn.fr hf nk).fr hf6 (fun e => h.nk e.symm), (h.tk.fr hf nt).fr hf6 (fun e => h.nt e.symm), ⟨_, by rw [hll]; exact ho.fr hf6 (fun i hi e => hgne.1 (by rw [← e]; exact Option.some.inj hi)), ?_⟩, fun i hi => ?_, hok, by rw [hll]; exact hT⟩
  · rw [hll]
    refine h3.off (fun i _ _ e => ?_) (fun i hi e _ => ⟨hi, e⟩)
    rcases e with e | e | e | e
    · exact .inl (.inl e)
    · exact .inl (.inr (.inl e))
    · exact .inl (.inr (.inr (.inl e)))
    · exact .inr (Option.some.inj e).symm
  · rw [hll] at hi
    obtain rfl : g = i := Option.some.inj hi
    refine ⟨⟨by omega, ?_⟩, hgne⟩
    rcases hg with e | e
    · exact .inl (h.own g e).1
    · exact .inr (by omega)
end

theorem peel_made (k m : Nat) (w W1 : World) (hsz : W1.heap.size = w.heap.size + 2) (h1 : KnAt W1 w.heap.size k (fun _ => none)) (h2 : TkAt W1 (w.heap.size + 1) []) :
    PeelO (fun i => w.heap.size ≤ i ∧ i < w.heap.size + 3) (w.heap.size + 2) k m (fun _ => none) [] [] (W1.alloc (.cells #[.int .i64 k, .int .i64 m, .map (some w.heap.size), .map (some (w.heap.size + 1)), .slice none 0 0] 67)) := by
  have hb := Lat.alloc W1 (.cells #[.int .i64 k, .int .i64 m, .map (some w.heap.size), .map (some (w.heap.size + 1)), .slice none 0 0] 67)
  refine ⟨w.heap.size, w.heap.size + 1, none, 0, ⟨fun i hi => by simp [hsz]; omega, by omega, by omega, by omega, by omega, by omega, by omega, ?_, ?_, ?_, ?_, ?_, ?_, h1.keep hb, h2.keep hb, ⟨[], OwnR.nil _ _ _ _, WtsAt.nil _ _ _⟩, fun i hi => (by cases hi), ⟨fun _ _ h => (by cases h), by simp, by simp, by simp⟩, Nat.le_refl _⟩⟩
  all_goals (rw [← hsz]; simp)
theorem peel_new_ok (k m : Nat) (w : World) (h1 : 1 ≤ k) (h2 : k ≤ 16) (h3 : 1 ≤ m) (h4 : m ≤ 8) :
    Calls Tryd.prog 6 #[.int .i64 k, .int .i64 m] w fun e w' => ∃ p G, e = .returned (.tuple #[.pointer (some ⟨p, 0, none⟩), .nilIface]) ∧ PeelO G p k m (fun _ => none) [] [] w' ∧ (∀ i, G i → w.heap.size ≤ i) ∧ Lat w w' := by
  have hmm := @run_makeMap Tryd.prog
  have hl : Lat w ((w.alloc (.map #[] 0)).alloc (.map #[] 0)) := (Lat.alloc _ _).trans (Lat.alloc _ _)
  have hp := peel_made k m w ((w.alloc (.map #[] 0)).alloc (.map #[] 0)) (by simp) ((KnAt.made w k).keep (Lat.alloc _ _)) (by
    have := TkAt.made (w.alloc (.map #[] 0))
    rwa [show (w.alloc (.map #[] 0)).heap.size = w.heap.size + 1 from by simp] at this)
  have HP := Lib.hid hp; have HL := Lib.hid hl
  clear hp hl
  go_enter Tryd.func6, Tryd.ntmps6
  go_wp2_with (first
    | (go_at_call 27; refine (dblocks_yes k _ (by omega) (by omega)).mono ?_; rintro e w' ⟨rfl, rfl⟩)
    | (go_at_call 28; refine (size_yes m _ (by omega) (by omega)).mono ?_; rintro e w' ⟨rfl, rfl⟩))
  go_ret2
  exact ⟨_, _, rfl, HP.out, fun i hi => hi.1, HL.out.trans (Lat.alloc _ _)⟩
theorem peel_new_bad (k m : Int) (w : World) (h : k < 1 ∨ 16 < k ∨ m < 1 ∨ 8 < m) :
    Calls Tryd.prog 6 #[.int .i64 k, .int .i64 m] w fun e w' => e = .returned (.tuple #[.pointer none, eno 1]) ∧ Lat w w' := by
  by_cases hk : k < 1 ∨ 16 < k
  · have HK := Lib.hid hk
    clear h hk
    go_enter Tryd.func6, Tryd.ntmps6
    go_wp2_with (go_at_call 27; refine (dblocks_no k _ HK.out).mono ?_; rintro e w' ⟨rfl, rfl⟩)
    go_ret2
    exact ⟨rfl, Lat.refl _⟩
  · have k1 : 1 ≤ k := by omega
    have k2 : k ≤ 16 := by omega
    have hm : m < 1 ∨ 8 < m := by omega
    have HM := Lib.hid hm
    clear h hk hm
    go_enter Tryd.func6, Tryd.ntmps6
    go_wp2_with (first
      | (go_at_call 27; refine (dblocks_yes k _ k1 k2).mono ?_; rintro e w' ⟨rfl, rfl⟩)
      | (go_at_call 28; refine (size_no m _ HM.out).mono ?_; rintro e w' ⟨rfl, rfl⟩))
    go_ret2
    exact ⟨rfl, Lat.refl _⟩

def knwL (K : Kn) (j : Nat) : List Int := ((List.range j).map Int.ofNat).filter (fun z => (K z).isSome)
theorem knwL_succ (K : Kn) (j : Nat) : knwL K (j + 1) = if (K (j : Int)).isSome = true then knwL K j ++ [(j : Int)] else knwL K j := by
  unfold knwL
  rw [List.range_succ, List.map_append, List.filter_append]
  show _ ++ [(j : Int)].filter _ = _
  cases h : (K (j : Int)).isSome <;> simp [h]
theorem knwL_mem (K : Kn) (j : Nat) : ∀ z ∈ knwL K j, 0 ≤ z ∧ z < (j : Int) ∧ (K z).isSome = true := fun z hz => by
  obtain ⟨h1, h2⟩ := List.mem_filter.1 hz
  obtain ⟨i, hi, rfl⟩ := List.mem_map.1 h1
  have := List.mem_range.1 hi
  have e : Int.ofNat i = (i : Int) := rfl
  exact ⟨by omega, by omega, h2⟩
theorem knwL_len (K : Kn) (j : Nat) : (knwL K j).length ≤ j := by
  unfold knwL
  refine Nat.le_trans (List.length_filter_le _ _) ?_
  rw [List.length_map, List.length_range]; exact Nat.le_refl _
set_option maxHeartbeats 1000000 in
theorem peel_knows (G : Nat → Prop) (p k m : Nat) (K : Kn) (T : List Int) (L : List Wt) (w : World) (h : PeelO G p k m K T L w) (hk : k ≤ 16) :
    Calls Tryd.prog 14 #[.pointer (some ⟨p, 0, none⟩)] w fun e w' => ∃ oa oc, e = .returned (.slice oa (knwL K k).length oc) ∧ IntsAt w' oa (knwL K k).length oc (knwL K k) ∧ Lat w w' := by
  obtain ⟨kb, tb, a, cap, h⟩ := h
  have c0 := h.c0
  have H2 := Lib.hid h.c2; have HK := Lib.hid h.kn
  clear h
  go_enter Tryd.func14, Tryd.ntmps14
  go_wp2
  go_loopw [3, 11] (fun v i wr => ∃ j : Nat, j ≤ k ∧ i = .int .i64 j ∧ Hid (OwnInts wr w.heap.size v (knwL K j) ∧ Lat w wr)) (fun _ i _ => k - (intOf i).toNat)
  case atStart => exact ⟨0, Nat.zero_le _, rfl, Own.nil _ _ _, Lat.refl _⟩
  case round =>
    obtain ⟨j, hj, rfl, hrel⟩ := hrel
    by_cases hlt : j < k
    · obtain ⟨hown, hlat⟩ := hrel.out
      have c2 := hlat.cell_at H2.out
      have hks := knwL_succ K j
      have hlook := (HK.out.keep hlat).look_ok hk j (by omega) (by omega)
      have hln := knwL_len K j
      have hl2 : (knwL K j).length < 1000000 := by omega
      obtain ⟨x, hx⟩ : ∃ x, x = S ((K (j : Int)).getD []) := ⟨_, rfl⟩
      rw [← hx] at hlook
      have HOW := Lib.hid hown; have HLT := Lib.hid hlat; have HKS := Lib.hid hks; have HL2 := Lib.hid hl2
      have i2 : decide ((j : Int) < (k : Int)) = true := decide_eq_true (by omega)
      cases hq : (K (j : Int)).isSome with
      | true =>
        rw [hq] at hlook
        have HQ := Lib.hid hq
        have HSZ := Lib.hid hlat.size
        clear hrel hown hlat hks hq hln hl2 hx
        go_wp2_with (at_builtin; refine app_intL wr w.heap.size rfl (.tmp 24) (.tmp 26) rfl _ _ (j : Int) rfl HOW.out rfl HL2.out HSZ.out ?_; intro v' w2 hown' hf2 _)
        go_roundw
        case rel => exact ⟨j + 1, by omega, by go_num, by rw [HKS.out, HQ.out, if_pos rfl]; exact hown', hf2.lat_of HLT.out (fun i e => (Own.lt HOW.out i e).1)⟩
        case measure => simp [intOf]; omega
      | false =>
        rw [hq] at hlook
        have HQ := Lib.hid hq
        clear hrel hown hlat hks hq hln hl2 hx
        go_wp2
        go_roundw
        case rel => exact ⟨j + 1, by omega, by go_num, by rw [HKS.out, HQ.out, if_neg (by decide)]; exact HOW.out, HLT.out⟩
        case measure => simp [intOf]; omega
    · obtain rfl : j = k := by omega
      obtain ⟨hown, hlat⟩ := hrel.out
      obtain ⟨oa, oc, rfl, hat⟩ := OwnInts.slice hown (fun z hz => by have := knwL_mem K j z hz; omega)
      obtain ⟨kl, hkl⟩ : ∃ kl, kl = (knwL K j).length := ⟨_, rfl⟩
      rw [← hkl] at hat ⊢
      have HAT := Lib.hid hat; have HL := Lib.hid hlat; have HKL := Lib.hid hkl
      clear hrel hown hlat hat hkl
      go_wp2
      go_ret
      exact ⟨oa, oc, congrArg (fun q => Ending.returned (.slice oa q oc)) HKL.out, by rw [← HKL.out]; exact HAT.out, HL.out⟩
end Go.Proofs.YtcpookgbneoilaaDoor

namespace Go.Proofs.YtcpookgbneoilaaDoor
open Go.ChangeShapes Go.WideShapes Go.ChangeAt Go.RowKit

set_option maxHeartbeats 4000000 in
set_option maxRecDepth 100000 in
theorem refKnows (G : Nat → Prop) (p k m : Nat) (K : Kn) (T : List Int) (ds : List Dr) (lv tv : Value) (w : World) (h : RPeelIn G p k m K T ds lv tv w) (h2 : k ≤ 16) :
    Calls Tryd.prog 15 #[.pointer (some ⟨p, 0, none⟩)] w fun e w' => ∃ v, e = .returned v ∧ OwnInts w' w.heap.size v (knwL K k) ∧ Lat w w' := by
  have hk0 : ∀ W, Lat w W → W.cell? ⟨p, 0, none⟩ = some (.int .i64 k) := fun W hW => hW.cell_at (h.blk.cell 0 (by decide))
  have hkn : ∀ W, Lat w W → ∀ q, q < 16 → W.cell? ⟨p, 1 + q, none⟩ = some (.bool (K (q : Int)).isSome) := fun W hW q hq => by
    rw [(h.blk.keep hW).cell (1 + q) (by omega)]
    unfold plF
    rw [if_neg (by omega), if_pos (by omega), show ((1 + q : Nat) : Int) - 1 = (q : Int) by omega]
  have hks := knwL_succ K
  have hkl := knwL_len K
  have HK0 := Lib.hid hk0; have HKN := Lib.hid hkn; have HKS := Lib.hid hks; have HKL := Lib.hid hkl
  clear h hk0 hkn hks hkl
  go_enter Tryd.func15, Tryd.ntmps15
  go_wp2_with fail
  go_loopg [3, 4] k (fun f ov iv wx => ∃ j : Nat, j + f = k ∧ iv = .int .i64 j ∧ Hid (OwnInts wx w.heap.size ov (knwL K j) ∧ Lat w wx))
  case atStart => exact ⟨0, by omega, rfl, Own.nil _ _ _, Lat.refl w⟩
  case round =>
    obtain ⟨j, hj, rfl, hrel⟩ := hrel
    have ck := HK0.out wr hrel.out.2
    by_cases hlt : j < k
    · obtain ⟨f, rfl⟩ : ∃ f, gk = f + 1 := ⟨gk - 1, by omega⟩
      have dj : decide (j < k) = true := decide_eq_true hlt
      have cb := HKN.out wr hrel.out.2 j (by omega)
      have hks := HKS.out j
      have hkl := HKL.out j
      obtain ⟨U, hU⟩ : ∃ U, U = (K (j : Int)).isSome := ⟨_, rfl⟩
      rw [← hU] at cb hks
      have i0 : (0 : Int) ≤ (j : Int) := by omega
      have i1 : (j : Int) < 16 := by omega
      have HKS2 := Lib.hid hks; have HKL2 := Lib.hid hkl; have HREL := Lib.hid hrel.out
      clear hrel hks hkl hU
      cases U with
      | true =>
        have hk2 := HKS2.out
        rw [if_pos rfl] at hk2
        have HK2 := Lib.hid hk2
        clear hk2 HKS2
        go_wp2_with (at_builtin; refine app_intL wr w.heap.size rfl (.tmp 19) (.tmp 21) rfl u3 (knwL K j) (j : Int) rfl HREL.out.1 rfl (by have := HKL2.out; omega) HREL.out.2.size ?_; intro v3 w3 hown3 hfr3 hloc3)
        have hl3 := hfr3.lat_of HREL.out.2 (fun k hk => (Own.lt HREL.out.1 k hk).1)
        rw [← HK2.out] at hown3
        have HO3 := Lib.hid hown3; have HL3 := Lib.hid hl3
        clear hown3 hfr3 hloc3 hl3
        try go_wp2_with fail
        go_roundg f
        case measure => omega
        case rel => exact ⟨j + 1, by omega, by go_num, HO3.out, HL3.out⟩
      | false =>
        have hk2 := HKS2.out
        rw [if_neg (fun e => Bool.noConfusion e)] at hk2
        have HK2 := Lib.hid hk2
        clear hk2 HKS2
        go_wp2_with fail
        go_roundg f
        case measure => omega
        case rel => exact ⟨j + 1, by omega, by go_num, by rw [HK2.out]; exact HREL.out⟩
    · obtain rfl : j = k := by omega
      have dj : decide (j < j) = false := decide_eq_false (by omega)
      have HREL := Lib.hid hrel.out
      clear hrel
      go_wp2_with fail
      go_ret
      exact ⟨_, rfl, HREL.out.1, HREL.out.2⟩
end Go.Proofs.YtcpookgbneoilaaDoor

namespace Go.Proofs.YtcpookgbneoilaaDoor
open Go.ChangeShapes Go.WideShapes Go.ChangeAt Go.RowKit

def tkE (k m : Nat) (T : List Int) (s : Int) (t : Bts) : Nat := if drpE k m s (S t) ≠ 0 then drpE k m s (S t) else if s ∈ T then 7 else if 60 ≤ T.length then 4 else 0

set_option maxHeartbeats 4000000 in
set_option maxRecDepth 100000 in
theorem take_bad (G : Nat → Prop) (p k m : Nat) (K : Kn) (T : List Int) (L : List Wt) (s : Int) (t : Bts) (w : World) (h : PeelO G p k m K T L w) (hE : tkE k m T s t ≠ 0) :
    Calls Tryd.prog 11 #[.pointer (some ⟨p, 0, none⟩), .agg #[.int .i64 s, .string (S t)]] w fun e w' => e = .returned (.tuple #[.slice none 0 0, eno (tkE k m T s t)]) ∧ Lat w w' := by
  obtain ⟨kb, tb, a, cap, h⟩ := h
  have hck := fun W => dchk_tells k m s (S t) W
  by_cases h1 : drpE k m s (S t) = 0
  · have h2 := drpE_zero h1
    rw [h1, errv_zero rfl] at hck
    have HCK : Hid (∀ W, Calls Tryd.prog 34 #[.int .i64 k, .int .i64 m, .agg #[.int .i64 s, .string (S t)]] W fun e w' => e = .returned .nilIface ∧ Lat W w') := hck
    have HH := Lib.hid h
    have htl := h.tk.most
    obtain ⟨n, hn⟩ : ∃ n, n = T.length := ⟨_, rfl⟩
    by_cases hs : s ∈ T
    · have e1 : tkE k m T s t = 7 := by unfold tkE; rw [if_neg (fun e => e h1), if_pos hs]
      rw [e1]
      have HS := Lib.hid hs; have H2 := Lib.hid h2
      clear h hck h1 h2 hE hs htl hn e1
      go_enter Tryd.func11, Tryd.ntmps11
      go_upto_region 1 with fail
      obtain ⟨X, hX⟩ : ∃ X, X = w.heap.size := ⟨_, rfl⟩
      obtain ⟨W0, hW0⟩ : ∃ W0, W0 = w.alloc (.cells #[.int .i64 s, .string (S t)] 37) := ⟨_, rfl⟩
      have hb0 := BX.new w (.int .i64 s) (.string (S t)) 37
      rw [← hW0] at hb0
      rw [← hW0]
      rw [← hX] at hb0
      rw [← hX]
      have HX : Hid (X = w.heap.size) := hX
      clear hW0 hX
      have hF : W0.drew.cell? ⟨p, 0, none⟩ = some (.int .i64 k) ∧ W0.drew.cell? ⟨p, 1, none⟩ = some (.int .i64 m) ∧ W0.drew.cell? ⟨X, 0, none⟩ = some (.int .i64 s) ∧ W0.drew.cell? ⟨X, 1, none⟩ = some (.string (S t)) := ⟨hb0.lat.cell_at HH.out.c0, hb0.lat.cell_at HH.out.c1, hb0.c0, hb0.c1⟩
      have HB0 := Lib.hid (hb0.keep (Lat.drew W0))
      clear hb0
      refine wp_region_gate (fun w' => w'.cell? ⟨p, 0, none⟩ = some (.int .i64 k) ∧ w'.cell? ⟨p, 1, none⟩ = some (.int .i64 m) ∧ w'.cell? ⟨X, 0, none⟩ = some (.int .i64 s) ∧ w'.cell? ⟨X, 1, none⟩ = some (.string (S t))) (fun _ => True) 1000 (by kernel_rfl) ?_
      refine gate_takeF (i := 0) (v := ?_) rfl (by kernel_rfl) (by kernel_rfl) (by kernel_rfl) (fun _ _ _ h => h) (by decide) ⟨hF, fun _ => trivial⟩ (Or.inl ⟨by rfl, ?_⟩) ?_
      rotate_left
      · intro wq hSw; obtain ⟨s0, s1, s2, s3⟩ := hSw; go_simp; rfl
      simp only [Act.put]
      refine gate_takeF (i := 1) (v := ?_) rfl (by kernel_rfl) (by kernel_rfl) (by kernel_rfl) (fun _ _ _ h => h) (by decide) ⟨hF, fun _ => trivial⟩ (Or.inl ⟨by rfl, ?_⟩) ?_
      rotate_left
      · intro wq hSw; obtain ⟨s0, s1, s2, s3⟩ := hSw; go_simp; rfl
      simp only [Act.put]
      refine gate_takeF (i := 2) (v := ?_) rfl (by kernel_rfl) (by kernel_rfl) (by kernel_rfl) (fun _ _ _ h => h) (by decide) ⟨hF, fun _ => trivial⟩ (Or.inl ⟨by rfl, ?_⟩) ?_
      rotate_left
      · intro wq hSw; obtain ⟨s0, s1, s2, s3⟩ := hSw; go_simp; rfl
      simp only [Act.put]
      refine gate_takeF (i := 3) (v := ?_) rfl (by kernel_rfl) (by kernel_rfl) (by kernel_rfl) (fun _ _ _ h => h) (by decide) ⟨hF, fun _ => trivial⟩ (Or.inl ⟨by rfl, ?_⟩) ?_
      rotate_left
      · intro wq hSw; obtain ⟨s0, s1, s2, s3⟩ := hSw; go_simp; rfl
      simp only [Act.put]
      refine gate_takeF (i := 4) (v := ?_) rfl (by kernel_rfl) (by kernel_rfl) (by kernel_rfl) (fun _ _ _ h => h) (by decide) ⟨hF, fun _ => trivial⟩ (Or.inl ⟨by rfl, ?_⟩) ?_
      rotate_left
      · intro wq hSw; obtain ⟨s0, s1, s2, s3⟩ := hSw; go_simp; rfl
      simp only [Act.put]
      refine gate_takeF (i := 5) (v := ?_) rfl (by kernel_rfl) (by kernel_rfl) (by kernel_rfl) (fun _ _ _ h => h) (by decide) ⟨hF, fun _ => trivial⟩ (Or.inl ⟨by rfl, ?_⟩) ?_
      rotate_left
      · intro wq hSw; obtain ⟨s0, s1, s2, s3⟩ := hSw; go_simp; rfl
      simp only [Act.put]
      refine gate_takeF (i := 6) (v := ?_) rfl (by kernel_rfl) (by kernel_rfl) (by kernel_rfl) (fun _ _ _ h => h) (by decide) ⟨hF, fun _ => trivial⟩ (Or.inl ⟨by rfl, ?_⟩) ?_
      rotate_left
      · intro wq hSw; obtain ⟨s0, s1, s2, s3⟩ := hSw; go_simp; rfl
      simp only [Act.put]
      refine gate_takeF (i := 7) (v := ?_) rfl (by kernel_rfl) (by kernel_rfl) (by kernel_rfl) (fun _ _ _ h => h) (by decide) ⟨hF, fun _ => trivial⟩ (Or.inl ⟨by rfl, ?_⟩) ?_
      rotate_left
      · intro wq hSw; obtain ⟨s0, s1, s2, s3⟩ := hSw; go_simp; rfl
      simp only [Act.put]
      refine gate_takeF (i := 8) (v := ?_) rfl (by kernel_rfl) (by kernel_rfl) (by kernel_rfl) (fun _ _ _ h => h) (by decide) ⟨hF, fun _ => trivial⟩ (Or.inl ⟨by rfl, ?_⟩) ?_
      rotate_left
      · intro wq hSw; obtain ⟨s0, s1, s2, s3⟩ := hSw; go_simp; rfl
      simp only [Act.put]
      refine gate_one (i := 9) (by kernel_rfl) rfl (fun K hK => ?_)
      go_simp
      refine (HCK.out _).mono ?_
      rintro e w5 ⟨rfl, hb5⟩
      have hF' : w5.cell? ⟨p, 0, none⟩ = some (.int .i64 k) ∧ w5.cell? ⟨p, 1, none⟩ = some (.int .i64 m) ∧ w5.cell? ⟨X, 0, none⟩ = some (.int .i64 s) ∧ w5.cell? ⟨X, 1, none⟩ = some (.string (S t)) := ⟨hb5.cell_at hF.1, hb5.cell_at hF.2.1, hb5.cell_at hF.2.2.1, hb5.cell_at hF.2.2.2⟩
      refine hK _ _ ⟨hF', fun _ => trivial⟩ ?_
      clear hK K hF
      have hF := hF'
      clear hF'
      refine gate_takeF (i := 10) (v := ?_) rfl (by kernel_rfl) (by kernel_rfl) (by kernel_rfl) (fun _ _ _ h => h) (by decide) ⟨hF, fun _ => trivial⟩ (Or.inl ⟨by rfl, ?_⟩) ?_
      rotate_left
      · intro wq hSw; obtain ⟨s0, s1, s2, s3⟩ := hSw; go_simp; rfl
      simp only [Act.put]
      refine gate_done (by kernel_rfl) ?_ _
      have HB5 := Lib.hid (HB0.out.keep hb5)
      clear hb5 HB0 hF
      have hlook : ∀ j, (Instr.lookup 64 (.map (some tb)) (.int .i64 s) false).run Tryd.prog (w5.drewN j) = .ok (.bool true) (w5.drewN j) := fun j => by
        have := (HH.out.tk.keep (HB5.out.lat.trans (Lat.drewN w5 j))).look s H2.out.2.2.2.2.1 H2.out.2.2.2.2.2.1
        rw [decide_eq_true HS.out] at this; exact this
      have c3 := HB5.out.lat.cell_at HH.out.c3
      have x0 := HB5.out.c0
      go_upto_region 4 with fail
      go_quiet (fail)
      go_wp2
      go_ret2
      exact ⟨rfl, HB5.out.lat.trans (Lat.drewN _ _)⟩
    · have hfull : 60 ≤ T.length := by
        rcases Nat.lt_or_ge T.length 60 with h3 | h3
        · exact absurd (by unfold tkE; rw [if_neg (fun e => e h1), if_neg hs, if_neg (by omega)]) hE
        · exact h3
      have e1 : tkE k m T s t = 4 := by unfold tkE; rw [if_neg (fun e => e h1), if_neg hs, if_pos hfull]
      rw [e1]
      have d60 : decide ((60 : Int) ≤ (n : Int)) = true := decide_eq_true (by omega)
      have HS := Lib.hid hs; have H2 := Lib.hid h2; have HN := Lib.hid hn
      clear h hck h1 h2 hE hs htl hn e1 hfull
      go_enter Tryd.func11, Tryd.ntmps11
      go_upto_region 1 with fail
      obtain ⟨X, hX⟩ : ∃ X, X = w.heap.size := ⟨_, rfl⟩
      obtain ⟨W0, hW0⟩ : ∃ W0, W0 = w.alloc (.cells #[.int .i64 s, .string (S t)] 37) := ⟨_, rfl⟩
      have hb0 := BX.new w (.int .i64 s) (.string (S t)) 37
      rw [← hW0] at hb0
      rw [← hW0]
      rw [← hX] at hb0
      rw [← hX]
      have HX : Hid (X = w.heap.size) := hX
      clear hW0 hX
      have hF : W0.drew.cell? ⟨p, 0, none⟩ = some (.int .i64 k) ∧ W0.drew.cell? ⟨p, 1, none⟩ = some (.int .i64 m) ∧ W0.drew.cell? ⟨X, 0, none⟩ = some (.int .i64 s) ∧ W0.drew.cell? ⟨X, 1, none⟩ = some (.string (S t)) := ⟨hb0.lat.cell_at HH.out.c0, hb0.lat.cell_at HH.out.c1, hb0.c0, hb0.c1⟩
      have HB0 := Lib.hid (hb0.keep (Lat.drew W0))
      clear hb0
      refine wp_region_gate (fun w' => w'.cell? ⟨p, 0, none⟩ = some (.int .i64 k) ∧ w'.cell? ⟨p, 1, none⟩ = some (.int .i64 m) ∧ w'.cell? ⟨X, 0, none⟩ = some (.int .i64 s) ∧ w'.cell? ⟨X, 1, none⟩ = some (.string (S t))) (fun _ => True) 1000 (by kernel_rfl) ?_
      refine gate_takeF (i := 0) (v := ?_) rfl (by kernel_rfl) (by kernel_rfl) (by kernel_rfl) (fun _ _ _ h => h) (by decide) ⟨hF, fun _ => trivial⟩ (Or.inl ⟨by rfl, ?_⟩) ?_
      rotate_left
      · intro wq hSw; obtain ⟨s0, s1, s2, s3⟩ := hSw; go_simp; rfl
      simp only [Act.put]
      refine gate_takeF (i := 1) (v := ?_) rfl (by kernel_rfl) (by kernel_rfl) (by kernel_rfl) (fun _ _ _ h => h) (by decide) ⟨hF, fun _ => trivial⟩ (Or.inl ⟨by rfl, ?_⟩) ?_
      rotate_left
      · intro wq hSw; obtain ⟨s0, s1, s2, s3⟩ := hSw; go_simp; rfl
      simp only [Act.put]
      refine gate_takeF (i := 2) (v := ?_) rfl (by kernel_rfl) (by kernel_rfl) (by kernel_rfl) (fun _ _ _ h => h) (by decide) ⟨hF, fun _ => trivial⟩ (Or.inl ⟨by rfl, ?_⟩) ?_
      rotate_left
      · intro wq hSw; obtain ⟨s0, s1, s2, s3⟩ := hSw; go_simp; rfl
      simp only [Act.put]
      refine gate_takeF (i := 3) (v := ?_) rfl (by kernel_rfl) (by kernel_rfl) (by kernel_rfl) (fun _ _ _ h => h) (by decide) ⟨hF, fun _ => trivial⟩ (Or.inl ⟨by rfl, ?_⟩) ?_
      rotate_left
      · intro wq hSw; obtain ⟨s0, s1, s2, s3⟩ := hSw; go_simp; rfl
      simp only [Act.put]
      refine gate_takeF (i := 4) (v := ?_) rfl (by kernel_rfl) (by kernel_rfl) (by kernel_rfl) (fun _ _ _ h => h) (by decide) ⟨hF, fun _ => trivial⟩ (Or.inl ⟨by rfl, ?_⟩) ?_
      rotate_left
      · intro wq hSw; obtain ⟨s0, s1, s2, s3⟩ := hSw; go_simp; rfl
      simp only [Act.put]
      refine gate_takeF (i := 5) (v := ?_) rfl (by kernel_rfl) (by kernel_rfl) (by kernel_rfl) (fun _ _ _ h => h) (by decide) ⟨hF, fun _ => trivial⟩ (Or.inl ⟨by rfl, ?_⟩) ?_
      rotate_left
      · intro wq hSw; obtain ⟨s0, s1, s2, s3⟩ := hSw; go_simp; rfl
      simp only [Act.put]
      refine gate_takeF (i := 6) (v := ?_) rfl (by kernel_rfl) (by kernel_rfl) (by kernel_rfl) (fun _ _ _ h => h) (by decide) ⟨hF, fun _ => trivial⟩ (Or.inl ⟨by rfl, ?_⟩) ?_
      rotate_left
      · intro wq hSw; obtain ⟨s0, s1, s2, s3⟩ := hSw; go_simp; rfl
      simp only [Act.put]
      refine gate_takeF (i := 7) (v := ?_) rfl (by kernel_rfl) (by kernel_rfl) (by kernel_rfl) (fun _ _ _ h => h) (by decide) ⟨hF, fun _ => trivial⟩ (Or.inl ⟨by rfl, ?_⟩) ?_
      rotate_left
      · intro wq hSw; obtain ⟨s0, s1, s2, s3⟩ := hSw; go_simp; rfl
      simp only [Act.put]
      refine gate_takeF (i := 8) (v := ?_) rfl (by kernel_rfl) (by kernel_rfl) (by kernel_rfl) (fun _ _ _ h => h) (by decide) ⟨hF, fun _ => trivial⟩ (Or.inl ⟨by rfl, ?_⟩) ?_
      rotate_left
      · intro wq hSw; obtain ⟨s0, s1, s2, s3⟩ := hSw; go_simp; rfl
      simp only [Act.put]
      refine gate_one (i := 9) (by kernel_rfl) rfl (fun K hK => ?_)
      go_simp
      refine (HCK.out _).mono ?_
      rintro e w5 ⟨rfl, hb5⟩
      have hF' : w5.cell? ⟨p, 0, none⟩ = some (.int .i64 k) ∧ w5.cell? ⟨p, 1, none⟩ = some (.int .i64 m) ∧ w5.cell? ⟨X, 0, none⟩ = some (.int .i64 s) ∧ w5.cell? ⟨X, 1, none⟩ = some (.string (S t)) := ⟨hb5.cell_at hF.1, hb5.cell_at hF.2.1, hb5.cell_at hF.2.2.1, hb5.cell_at hF.2.2.2⟩
      refine hK _ _ ⟨hF', fun _ => trivial⟩ ?_
      clear hK K hF
      have hF := hF'
      clear hF'
      refine gate_takeF (i := 10) (v := ?_) rfl (by kernel_rfl) (by kernel_rfl) (by kernel_rfl) (fun _ _ _ h => h) (by decide) ⟨hF, fun _ => trivial⟩ (Or.inl ⟨by rfl, ?_⟩) ?_
      rotate_left
      · intro wq hSw; obtain ⟨s0, s1, s2, s3⟩ := hSw; go_simp; rfl
      simp only [Act.put]
      refine gate_done (by kernel_rfl) ?_ _
      have HB5 := Lib.hid (HB0.out.keep hb5)
      clear hb5 HB0 hF
      have hlook : ∀ j, (Instr.lookup 64 (.map (some tb)) (.int .i64 s) false).run Tryd.prog (w5.drewN j) = .ok (.bool false) (w5.drewN j) := fun j => by
        have := (HH.out.tk.keep (HB5.out.lat.trans (Lat.drewN w5 j))).look s H2.out.2.2.2.2.1 H2.out.2.2.2.2.2.1
        rw [decide_eq_false HS.out] at this; exact this
      have hlen : ∀ j ty, (Builtin.len_ #[64] ty #[.map (some tb)]).run Tryd.prog (w5.drewN j) = .ok (.int .i64 n) (w5.drewN j) := fun j ty => by
        have := (HH.out.tk.keep (HB5.out.lat.trans (Lat.drewN w5 j))).len ty
        rw [← HN.out] at this; exact this
      have c3 := HB5.out.lat.cell_at HH.out.c3
      have x0 := HB5.out.c0
      go_upto_region 4 with fail
      go_quiet (fail)
      go_wp2
      go_ret2
      exact ⟨rfl, HB5.out.lat.trans (Lat.drewN _ _)⟩
  · have e1 : tkE k m T s t = drpE k m s (S t) := by unfold tkE; rw [if_pos h1]
    rw [e1]
    rw [errv_pos h1] at hck
    obtain ⟨E, hEE⟩ : ∃ E, E = drpE k m s (S t) := ⟨_, rfl⟩
    rw [← hEE] at hck ⊢
    have HCK : Hid (∀ W, Calls Tryd.prog 34 #[.int .i64 k, .int .i64 m, .agg #[.int .i64 s, .string (S t)]] W fun e w' => e = .returned (eno E) ∧ Lat W w') := hck
    have HH := Lib.hid h
    clear h hck h1 hE hEE e1
    go_enter Tryd.func11, Tryd.ntmps11
    go_upto_region 1 with fail
    obtain ⟨X, hX⟩ : ∃ X, X = w.heap.size := ⟨_, rfl⟩
    obtain ⟨W0, hW0⟩ : ∃ W0, W0 = w.alloc (.cells #[.int .i64 s, .string (S t)] 37) := ⟨_, rfl⟩
    have hb0 := BX.new w (.int .i64 s) (.string (S t)) 37
    rw [← hW0] at hb0
    rw [← hW0]
    rw [← hX] at hb0
    rw [← hX]
    have HX : Hid (X = w.heap.size) := hX
    clear hW0 hX
    have hF : W0.drew.cell? ⟨p, 0, none⟩ = some (.int .i64 k) ∧ W0.drew.cell? ⟨p, 1, none⟩ = some (.int .i64 m) ∧ W0.drew.cell? ⟨X, 0, none⟩ = some (.int .i64 s) ∧ W0.drew.cell? ⟨X, 1, none⟩ = some (.string (S t)) := ⟨hb0.lat.cell_at HH.out.c0, hb0.lat.cell_at HH.out.c1, hb0.c0, hb0.c1⟩
    have HB0 := Lib.hid (hb0.keep (Lat.drew W0))
    clear hb0
    refine wp_region_gate (fun w' => w'.cell? ⟨p, 0, none⟩ = some (.int .i64 k) ∧ w'.cell? ⟨p, 1, none⟩ = some (.int .i64 m) ∧ w'.cell? ⟨X, 0, none⟩ = some (.int .i64 s) ∧ w'.cell? ⟨X, 1, none⟩ = some (.string (S t))) (fun _ => True) 1000 (by kernel_rfl) ?_
    refine gate_takeF (i := 0) (v := ?_) rfl (by kernel_rfl) (by kernel_rfl) (by kernel_rfl) (fun _ _ _ h => h) (by decide) ⟨hF, fun _ => trivial⟩ (Or.inl ⟨by rfl, ?_⟩) ?_
    rotate_left
    · intro wq hSw; obtain ⟨s0, s1, s2, s3⟩ := hSw; go_simp; rfl
    simp only [Act.put]
    refine gate_takeF (i := 1) (v := ?_) rfl (by kernel_rfl) (by kernel_rfl) (by kernel_rfl) (fun _ _ _ h => h) (by decide) ⟨hF, fun _ => trivial⟩ (Or.inl ⟨by rfl, ?_⟩) ?_
    rotate_left
    · intro wq hSw; obtain ⟨s0, s1, s2, s3⟩ := hSw; go_simp; rfl
    simp only [Act.put]
    refine gate_takeF (i := 2) (v := ?_) rfl (by kernel_rfl) (by kernel_rfl) (by kernel_rfl) (fun _ _ _ h => h) (by decide) ⟨hF, fun _ => trivial⟩ (Or.inl ⟨by rfl, ?_⟩) ?_
    rotate_left
    · intro wq hSw; obtain ⟨s0, s1, s2, s3⟩ := hSw; go_simp; rfl
    simp only [Act.put]
    refine gate_takeF (i := 3) (v := ?_) rfl (by kernel_rfl) (by kernel_rfl) (by kernel_rfl) (fun _ _ _ h => h) (by decide) ⟨hF, fun _ => trivial⟩ (Or.inl ⟨by rfl, ?_⟩) ?_
    rotate_left
    · intro wq hSw; obtain ⟨s0, s1, s2, s3⟩ := hSw; go_simp; rfl
    simp only [Act.put]
    refine gate_takeF (i := 4) (v := ?_) rfl (by kernel_rfl) (by kernel_rfl) (by kernel_rfl) (fun _ _ _ h => h) (by decide) ⟨hF, fun _ => trivial⟩ (Or.inl ⟨by rfl, ?_⟩) ?_
    rotate_left
    · intro wq hSw; obtain ⟨s0, s1, s2, s3⟩ := hSw; go_simp; rfl
    simp only [Act.put]
    refine gate_takeF (i := 5) (v := ?_) rfl (by kernel_rfl) (by kernel_rfl) (by kernel_rfl) (fun _ _ _ h => h) (by decide) ⟨hF, fun _ => trivial⟩ (Or.inl ⟨by rfl, ?_⟩) ?_
    rotate_left
    · intro wq hSw; obtain ⟨s0, s1, s2, s3⟩ := hSw; go_simp; rfl
    simp only [Act.put]
    refine gate_takeF (i := 6) (v := ?_) rfl (by kernel_rfl) (by kernel_rfl) (by kernel_rfl) (fun _ _ _ h => h) (by decide) ⟨hF, fun _ => trivial⟩ (Or.inl ⟨by rfl, ?_⟩) ?_
    rotate_left
    · intro wq hSw; obtain ⟨s0, s1, s2, s3⟩ := hSw; go_simp; rfl
    simp only [Act.put]
    refine gate_takeF (i := 7) (v := ?_) rfl (by kernel_rfl) (by kernel_rfl) (by kernel_rfl) (fun _ _ _ h => h) (by decide) ⟨hF, fun _ => trivial⟩ (Or.inl ⟨by rfl, ?_⟩) ?_
    rotate_left
    · intro wq hSw; obtain ⟨s0, s1, s2, s3⟩ := hSw; go_simp; rfl
    simp only [Act.put]
    refine gate_takeF (i := 8) (v := ?_) rfl (by kernel_rfl) (by kernel_rfl) (by kernel_rfl) (fun _ _ _ h => h) (by decide) ⟨hF, fun _ => trivial⟩ (Or.inl ⟨by rfl, ?_⟩) ?_
    rotate_left
    · intro wq hSw; obtain ⟨s0, s1, s2, s3⟩ := hSw; go_simp; rfl
    simp only [Act.put]
    refine gate_one (i := 9) (by kernel_rfl) rfl (fun K hK => ?_)
    go_simp
    refine (HCK.out _).mono ?_
    rintro e w5 ⟨rfl, hb5⟩
    have hF' : w5.cell? ⟨p, 0, none⟩ = some (.int .i64 k) ∧ w5.cell? ⟨p, 1, none⟩ = some (.int .i64 m) ∧ w5.cell? ⟨X, 0, none⟩ = some (.int .i64 s) ∧ w5.cell? ⟨X, 1, none⟩ = some (.string (S t)) := ⟨hb5.cell_at hF.1, hb5.cell_at hF.2.1, hb5.cell_at hF.2.2.1, hb5.cell_at hF.2.2.2⟩
    refine hK _ _ ⟨hF', fun _ => trivial⟩ ?_
    clear hK K hF
    have hF := hF'
    clear hF'
    refine gate_takeF (i := 10) (v := ?_) rfl (by kernel_rfl) (by kernel_rfl) (by kernel_rfl) (fun _ _ _ h => h) (by decide) ⟨hF, fun _ => trivial⟩ (Or.inl ⟨by rfl, ?_⟩) ?_
    rotate_left
    · intro wq hSw; obtain ⟨s0, s1, s2, s3⟩ := hSw; go_simp; rfl
    simp only [Act.put]
    refine gate_done (by kernel_rfl) ?_ _
    have HB5 := Lib.hid (HB0.out.keep hb5)
    clear hb5 HB0 hF
    go_wp2
    go_ret2
    exact ⟨rfl, HB5.out.lat⟩

set_option maxHeartbeats 4000000 in
set_option maxRecDepth 100000 in
theorem take_ok (G : Nat → Prop) (p k m : Nat) (K : Kn) (T : List Int) (L : List Wt) (s : Int) (t : Bts) (w : World) (h : PeelO G p k m K T L w) (hE : tkE k m T s t = 0) :
    Calls Tryd.prog 11 #[.pointer (some ⟨p, 0, none⟩), .agg #[.int .i64 s, .string (S t)]] w fun e w' => ∃ oa oc, e = .returned (.tuple #[.slice oa (lrnO k K (L ++ [(setZ k s.toNat, t)])).length oc, .nilIface]) ∧ IntsAt w' oa (lrnO k K (L ++ [(setZ k s.toNat, t)])).length oc (lrnO k K (L ++ [(setZ k s.toNat, t)])) ∧
      PeelStep G p k m (lrnK k K (L ++ [(setZ k s.toNat, t)])) (T ++ [s]) (lrnL k K (L ++ [(setZ k s.toNat, t)])) w w' := by
  obtain ⟨kb, tb, a, cap, h⟩ := h
  have hck := fun W => dchk_tells k m s (S t) W
  have h1 : drpE k m s (S t) = 0 := by
    unfold tkE at hE
    split at hE
    · exact absurd hE (by assumption)
    · omega
  have hs : s ∉ T := fun hs => by
    unfold tkE at hE
    rw [if_neg (fun e => e h1), if_pos hs] at hE
    cases hE
  have hT : T.length < 60 := by
    unfold tkE at hE
    rw [if_neg (fun e => e h1), if_neg hs] at hE
    split at hE <;> omega
  have h2 := drpE_zero h1
  obtain ⟨sn, rfl⟩ : ∃ sn : Nat, s = sn := ⟨s.toNat, by omega⟩
  have hk1 : 1 ≤ k := by omega
  have hk16 : k ≤ 16 := by omega
  have hm8 : m ≤ 8 := by omega
  have hs1 : 1 ≤ sn := by omega
  have hs2 : sn ≤ 10000 := by omega
  have htm : t.length = m := by
    have : ((S t).size : Int) = m := h2.2.2.2.2.2.2
    have e : (S t).size = t.length := rfl
    omega
  rw [h1, errv_zero rfl] at hck
  have hzs := setZ_length k sn hk1 hk16 hs2
  have hzl := setZ_lt k sn hk1 hs1
  have hok : WOk k m K (L ++ [(setZ k sn, t)]) := by
    have h0 := h.ok
    refine ⟨h0.kn, fun x hx => ?_, fun x hx => ?_, fun x hx => ?_⟩
    all_goals (rcases List.mem_append.1 hx with hx | hx)
    · exact h0.of x hx
    · rw [List.mem_singleton.1 hx]; exact hzl
    · exact h0.len x hx
    · rw [List.mem_singleton.1 hx]; show (setZ k sn).length ≤ 16; omega
    · exact h0.data x hx
    · rw [List.mem_singleton.1 hx]; exact htm
  have HCK : Hid (∀ W, Calls Tryd.prog 34 #[.int .i64 k, .int .i64 m, .agg #[.int .i64 (sn : Int), .string (S t)]] W fun e w' => e = .returned .nilIface ∧ Lat W w') := hck
  obtain ⟨n, hn⟩ : ∃ n, n = T.length := ⟨_, rfl⟩
  obtain ⟨ln, hln⟩ : ∃ ln, ln = L.length := ⟨_, rfl⟩
  have d60 : decide ((60 : Int) ≤ (n : Int)) = false := decide_eq_false (by omega)
  have HH := Lib.hid h; have HS := Lib.hid hs; have HTL := Lib.hid hT; have HN := Lib.hid hn; have HLN := Lib.hid hln; have HOK := Lib.hid hok
  rw [Int.toNat_natCast]
  obtain ⟨zs, hzsd⟩ : ∃ zs, zs = setZ k sn := ⟨_, rfl⟩
  have HZS := Lib.hid hzsd
  rw [← hzsd]
  obtain ⟨s, hsd⟩ : ∃ s : Int, s = (sn : Int) := ⟨_, rfl⟩
  have HSD := Lib.hid hsd
  rw [← hsd] at HCK
  rw [← hsd]
  have HS1 : Hid (1 ≤ s ∧ s ≤ 10000) := ⟨by omega, by omega⟩
  clear h hck h1 h2 hE hs hT htm hzs hzl hok hn hln hzsd hsd
  go_enter Tryd.func11, Tryd.ntmps11
  go_upto_region 1 with fail
  obtain ⟨X, hX⟩ : ∃ X, X = w.heap.size := ⟨_, rfl⟩
  obtain ⟨W0, hW0⟩ : ∃ W0, W0 = w.alloc (.cells #[.int .i64 s, .string (S t)] 37) := ⟨_, rfl⟩
  have hb0 := BX.new w (.int .i64 s) (.string (S t)) 37
  rw [← hW0] at hb0
  rw [← hW0]
  rw [← hX] at hb0
  rw [← hX]
  have HX : Hid (X = w.heap.size) := hX
  clear hW0 hX
  have hF : W0.drew.cell? ⟨p, 0, none⟩ = some (.int .i64 k) ∧ W0.drew.cell? ⟨p, 1, none⟩ = some (.int .i64 m) ∧ W0.drew.cell? ⟨X, 0, none⟩ = some (.int .i64 s) ∧ W0.drew.cell? ⟨X, 1, none⟩ = some (.string (S t)) := ⟨hb0.lat.cell_at HH.out.c0, hb0.lat.cell_at HH.out.c1, hb0.c0, hb0.c1⟩
  have HB0 := Lib.hid (hb0.keep (Lat.drew W0))
  clear hb0
  refine wp_region_gate (fun w' => w'.cell? ⟨p, 0, none⟩ = some (.int .i64 k) ∧ w'.cell? ⟨p, 1, none⟩ = some (.int .i64 m) ∧ w'.cell? ⟨X, 0, none⟩ = some (.int .i64 s) ∧ w'.cell? ⟨X, 1, none⟩ = some (.string (S t))) (fun _ => True) 1000 (by kernel_rfl) ?_
  refine gate_takeF (i := 0) (v := ?_) rfl (by kernel_rfl) (by kernel_rfl) (by kernel_rfl) (fun _ _ _ h => h) (by decide) ⟨hF, fun _ => trivial⟩ (Or.inl ⟨by rfl, ?_⟩) ?_
  rotate_left
  · intro wq hSw; obtain ⟨s0, s1, s2, s3⟩ := hSw; go_simp; rfl
  simp only [Act.put]
  refine gate_takeF (i := 1) (v := ?_) rfl (by kernel_rfl) (by kernel_rfl) (by kernel_rfl) (fun _ _ _ h => h) (by decide) ⟨hF, fun _ => trivial⟩ (Or.inl ⟨by rfl, ?_⟩) ?_
  rotate_left
  · intro wq hSw; obtain ⟨s0, s1, s2, s3⟩ := hSw; go_simp; rfl
  simp only [Act.put]
  refine gate_takeF (i := 2) (v := ?_) rfl (by kernel_rfl) (by kernel_rfl) (by kernel_rfl) (fun _ _ _ h => h) (by decide) ⟨hF, fun _ => trivial⟩ (Or.inl ⟨by rfl, ?_⟩) ?_
  rotate_left
  · intro wq hSw; obtain ⟨s0, s1, s2, s3⟩ := hSw; go_simp; rfl
  simp only [Act.put]
  refine gate_takeF (i := 3) (v := ?_) rfl (by kernel_rfl) (by kernel_rfl) (by kernel_rfl) (fun _ _ _ h => h) (by decide) ⟨hF, fun _ => trivial⟩ (Or.inl ⟨by rfl, ?_⟩) ?_
  rotate_left
  · intro wq hSw; obtain ⟨s0, s1, s2, s3⟩ := hSw; go_simp; rfl
  simp only [Act.put]
  refine gate_takeF (i := 4) (v := ?_) rfl (by kernel_rfl) (by kernel_rfl) (by kernel_rfl) (fun _ _ _ h => h) (by decide) ⟨hF, fun _ => trivial⟩ (Or.inl ⟨by rfl, ?_⟩) ?_
  rotate_left
  · intro wq hSw; obtain ⟨s0, s1, s2, s3⟩ := hSw; go_simp; rfl
  simp only [Act.put]
  refine gate_takeF (i := 5) (v := ?_) rfl (by kernel_rfl) (by kernel_rfl) (by kernel_rfl) (fun _ _ _ h => h) (by decide) ⟨hF, fun _ => trivial⟩ (Or.inl ⟨by rfl, ?_⟩) ?_
  rotate_left
  · intro wq hSw; obtain ⟨s0, s1, s2, s3⟩ := hSw; go_simp; rfl
  simp only [Act.put]
  refine gate_takeF (i := 6) (v := ?_) rfl (by kernel_rfl) (by kernel_rfl) (by kernel_rfl) (fun _ _ _ h => h) (by decide) ⟨hF, fun _ => trivial⟩ (Or.inl ⟨by rfl, ?_⟩) ?_
  rotate_left
  · intro wq hSw; obtain ⟨s0, s1, s2, s3⟩ := hSw; go_simp; rfl
  simp only [Act.put]
  refine gate_takeF (i := 7) (v := ?_) rfl (by kernel_rfl) (by kernel_rfl) (by kernel_rfl) (fun _ _ _ h => h) (by decide) ⟨hF, fun _ => trivial⟩ (Or.inl ⟨by rfl, ?_⟩) ?_
  rotate_left
  · intro wq hSw; obtain ⟨s0, s1, s2, s3⟩ := hSw; go_simp; rfl
  simp only [Act.put]
  refine gate_takeF (i := 8) (v := ?_) rfl (by kernel_rfl) (by kernel_rfl) (by kernel_rfl) (fun _ _ _ h => h) (by decide) ⟨hF, fun _ => trivial⟩ (Or.inl ⟨by rfl, ?_⟩) ?_
  rotate_left
  · intro wq hSw; obtain ⟨s0, s1, s2, s3⟩ := hSw; go_simp; rfl
  simp only [Act.put]
  refine gate_one (i := 9) (by kernel_rfl) rfl (fun K hK => ?_)
  go_simp
  refine (HCK.out _).mono ?_
  rintro e w5 ⟨rfl, hb5⟩
  have hF' : w5.cell? ⟨p, 0, none⟩ = some (.int .i64 k) ∧ w5.cell? ⟨p, 1, none⟩ = some (.int .i64 m) ∧ w5.cell? ⟨X, 0, none⟩ = some (.int .i64 s) ∧ w5.cell? ⟨X, 1, none⟩ = some (.string (S t)) := ⟨hb5.cell_at hF.1, hb5.cell_at hF.2.1, hb5.cell_at hF.2.2.1, hb5.cell_at hF.2.2.2⟩
  refine hK _ _ ⟨hF', fun _ => trivial⟩ ?_
  clear hK K hF
  have hF := hF'
  clear hF'
  refine gate_takeF (i := 10) (v := ?_) rfl (by kernel_rfl) (by kernel_rfl) (by kernel_rfl) (fun _ _ _ h => h) (by decide) ⟨hF, fun _ => trivial⟩ (Or.inl ⟨by rfl, ?_⟩) ?_
  rotate_left
  · intro wq hSw; obtain ⟨s0, s1, s2, s3⟩ := hSw; go_simp; rfl
  simp only [Act.put]
  refine gate_done (by kernel_rfl) ?_ _
  have HB5 := Lib.hid (HB0.out.keep hb5)
  clear hb5 HB0 hF
  have hsT : s ∉ T := by rw [HSD.out]; exact HS.out
  have HST := Lib.hid hsT
  clear hsT
  have hlook : ∀ j, (Instr.lookup 64 (.map (some tb)) (.int .i64 s) false).run Tryd.prog (w5.drewN j) = .ok (.bool false) (w5.drewN j) := fun j => by
    have := (HH.out.tk.keep (HB5.out.lat.trans (Lat.drewN w5 j))).look s HS1.out.1 HS1.out.2
    rw [decide_eq_false HST.out] at this; exact this
  have hlen : ∀ j ty, (Builtin.len_ #[64] ty #[.map (some tb)]).run Tryd.prog (w5.drewN j) = .ok (.int .i64 n) (w5.drewN j) := fun j ty => by
    have := (HH.out.tk.keep (HB5.out.lat.trans (Lat.drewN w5 j))).len ty
    rw [← HN.out] at this; exact this
  have c3 := HB5.out.lat.cell_at HH.out.c3
  have x0 := HB5.out.c0
  go_upto_region 4 with fail
  go_quiet (fail)
  go_upto_region 8 with fail
  clear hlook hlen
  obtain ⟨w6, hw6⟩ : ∃ w6, w6 = w5.drewN nq := ⟨_, rfl⟩
  have hb6 := HB5.out.keep (Lat.drewN w5 nq)
  rw [← hw6] at hb6
  rw [← hw6]
  clear hw6 c3 x0 HB5
  have hp6 := HH.out.keep (hb6.lat.trans (Lat.drew w6))
  obtain ⟨w7, hrun, htk7, hf7⟩ := hp6.tk.store s HS1.out.1 HS1.out.2 HST.out HTL.out
  have hp7 := hp6.take htk7 hf7 (by have := hp6.most; rw [List.length_append]; omega)
  have ntX : X ≠ tb := by have := HH.out.lt _ HH.out.gt; have := HX.out; omega
  have hF : w6.drew.cell? ⟨p, 3, none⟩ = some (.map (some tb)) ∧ w6.drew.cell? ⟨X, 0, none⟩ = some (.int .i64 s) := ⟨hp6.c3, hb6.c0⟩
  have hF5 : w7.cell? ⟨p, 3, none⟩ = some (.map (some tb)) ∧ w7.cell? ⟨X, 0, none⟩ = some (.int .i64 s) := ⟨hp7.c3, hf7.cell_at hF.2 ntX⟩
  have hF7 : w7.cell? ⟨p, 0, none⟩ = some (.int .i64 k) ∧ w7.cell? ⟨X, 0, none⟩ = some (.int .i64 s) ∧ w7.cell? ⟨X, 1, none⟩ = some (.string (S t)) := ⟨hp7.c0, hF5.2, hf7.cell_at (show w6.drew.cell? _ = _ from hb6.c1) ntX⟩
  have hl7 : Fr G w w7 := (Fr.lat (hb6.lat.trans (Lat.drew w6)) : Fr G w w6.drew).trans hf7 (fun i _ e => by rw [e]; exact HH.out.gt)
  have HF5 := Lib.hid hF5; have HF7 := Lib.hid hF7; have HP7 := Lib.hid hp7; have HL7 := Lib.hid hl7; have HRUN := Lib.hid hrun
  clear hb6 hp6 htk7 hf7 hp7 hF5 hF7 hl7 hrun
  refine wp_region_gate (fun w' => w'.cell? ⟨p, 3, none⟩ = some (.map (some tb)) ∧ w'.cell? ⟨X, 0, none⟩ = some (.int .i64 s)) (fun _ => True) 1000 (by kernel_rfl) ?_
  refine gate_takeF (i := 0) (v := ?_) rfl (by kernel_rfl) (by kernel_rfl) (by kernel_rfl) (fun _ _ _ h => h) (by decide) ⟨hF, fun _ => trivial⟩ (Or.inl ⟨by rfl, ?_⟩) ?_
  rotate_left
  · intro wq hSw; obtain ⟨s0, s1⟩ := hSw; go_simp; rfl
  simp only [Act.put]
  refine gate_takeF (i := 1) (v := ?_) rfl (by kernel_rfl) (by kernel_rfl) (by kernel_rfl) (fun _ _ _ h => h) (by decide) ⟨hF, fun _ => trivial⟩ (Or.inl ⟨by rfl, ?_⟩) ?_
  rotate_left
  · intro wq hSw; obtain ⟨s0, s1⟩ := hSw; go_simp; rfl
  simp only [Act.put]
  refine gate_takeF (i := 2) (v := ?_) rfl (by kernel_rfl) (by kernel_rfl) (by kernel_rfl) (fun _ _ _ h => h) (by decide) ⟨hF, fun _ => trivial⟩ (Or.inl ⟨by rfl, ?_⟩) ?_
  rotate_left
  · intro wq hSw; obtain ⟨s0, s1⟩ := hSw; go_simp; rfl
  simp only [Act.put]
  refine gate_takeF (i := 3) (v := ?_) rfl (by kernel_rfl) (by kernel_rfl) (by kernel_rfl) (fun _ _ _ h => h) (by decide) ⟨hF, fun _ => trivial⟩ (Or.inl ⟨by rfl, ?_⟩) ?_
  rotate_left
  · intro wq hSw; obtain ⟨s0, s1⟩ := hSw; go_simp; rfl
  simp only [Act.put]
  refine gate_takeF (i := 4) (v := ?_) rfl (by kernel_rfl) (by kernel_rfl) (by kernel_rfl) (fun _ _ _ h => h) (by decide) ⟨hF, fun _ => trivial⟩ (Or.inl ⟨by rfl, ?_⟩) ?_
  rotate_left
  · intro wq hSw; obtain ⟨s0, s1⟩ := hSw; go_simp; rfl
  simp only [Act.put]
  refine gate_takeF (i := 5) (v := ?_) rfl (by kernel_rfl) (by kernel_rfl) (by kernel_rfl) (fun _ _ _ h => h) (by decide) ⟨hF, fun _ => trivial⟩ (Or.inl ⟨by rfl, ?_⟩) ?_
  rotate_left
  · intro wq hSw; obtain ⟨s0, s1⟩ := hSw; go_simp; rfl
  simp only [Act.put]
  refine gate_one (i := 6) (by kernel_rfl) rfl (fun K hK => ?_)
  have hrun := HRUN.out
  go_simp
  have hF' := HF5.out
  refine hK _ _ ⟨hF', fun _ => trivial⟩ ?_
  clear hK K hF hF' hrun
  refine gate_done (by kernel_rfl) ?_ _
  go_upto_region 9 with fail
  have hF : w7.drew.cell? ⟨p, 0, none⟩ = some (.int .i64 k) ∧ w7.drew.cell? ⟨X, 0, none⟩ = some (.int .i64 s) ∧ w7.drew.cell? ⟨X, 1, none⟩ = some (.string (S t)) := HF7.out
  have hG : w7.drew.cell? ⟨p, 4, none⟩ = some (.slice a ln cap) := by have := HP7.out.c4; rw [← HLN.out] at this; exact this
  refine wp_region_gate (fun w' => w'.cell? ⟨p, 0, none⟩ = some (.int .i64 k) ∧ w'.cell? ⟨X, 0, none⟩ = some (.int .i64 s) ∧ w'.cell? ⟨X, 1, none⟩ = some (.string (S t))) (fun w' => w'.cell? ⟨p, 4, none⟩ = some (.slice a ln cap)) 16 (by kernel_rfl) ?_
  refine gate_takeF (i := 0) (v := ?_) rfl (by kernel_rfl) (by kernel_rfl) (by kernel_rfl) (fun _ _ _ h => h) (by decide) ⟨hF, fun _ => hG⟩ (Or.inl ⟨by rfl, ?_⟩) ?_
  rotate_left
  · intro wq hSw; obtain ⟨s0, s1, s2⟩ := hSw; go_simp; rfl
  simp only [Act.put]
  refine gate_takeF (i := 1) (v := ?_) rfl (by kernel_rfl) (by kernel_rfl) (by kernel_rfl) (fun _ _ _ h => h) (by decide) ⟨hF, fun _ => hG⟩ (Or.inl ⟨by rfl, ?_⟩) ?_
  rotate_left
  · intro wq hSw; obtain ⟨s0, s1, s2⟩ := hSw; go_simp; rfl
  simp only [Act.put]
  refine gate_takeF (i := 2) (v := ?_) rfl (by kernel_rfl) (by kernel_rfl) (by kernel_rfl) (fun _ _ _ h => h) (by decide) ⟨hF, fun _ => hG⟩ (Or.inl ⟨by rfl, ?_⟩) ?_
  rotate_left
  · intro wq hSw; obtain ⟨s0, s1, s2⟩ := hSw; go_simp; rfl
  simp only [Act.put]
  refine gate_takeF (i := 3) (v := ?_) rfl (by kernel_rfl) (by kernel_rfl) (by kernel_rfl) (fun _ _ _ h => h) (by decide) ⟨hF, fun _ => hG⟩ (Or.inl ⟨by rfl, ?_⟩) ?_
  rotate_left
  · intro wq hSw; obtain ⟨s0, s1, s2⟩ := hSw; go_simp; rfl
  simp only [Act.put]
  refine gate_takeG (i := 4) (v := ?_) rfl (by kernel_rfl) (by kernel_rfl) (by kernel_rfl) (fun _ _ _ h => h) (by decide) (by kernel_rfl) (by kernel_rfl) ⟨hF, fun _ => hG⟩ (Or.inl ⟨by rfl, ?_⟩) ?_
  rotate_left
  · intro wq hSw; obtain ⟨⟨s0, s1, s2⟩, s3⟩ := hSw; go_simp; rfl
  simp only [Act.put]
  refine gate_takeF (i := 5) (v := ?_) rfl (by kernel_rfl) (by kernel_rfl) (by kernel_rfl) (fun _ _ _ h => h) (by decide) ⟨hF, fun _ => hG⟩ (Or.inl ⟨by rfl, ?_⟩) ?_
  rotate_left
  · intro wq hSw; obtain ⟨s0, s1, s2⟩ := hSw; go_simp; rfl
  simp only [Act.put]
  refine gate_takeF (i := 6) (v := ?_) rfl (by kernel_rfl) (by kernel_rfl) (by kernel_rfl) (fun _ _ _ h => h) (by decide) ⟨hF, fun _ => hG⟩ (Or.inl ⟨by rfl, ?_⟩) ?_
  rotate_left
  · intro wq hSw; obtain ⟨s0, s1, s2⟩ := hSw; go_simp; rfl
  simp only [Act.put]
  refine gate_takeF (i := 7) (v := ?_) rfl (by kernel_rfl) (by kernel_rfl) (by kernel_rfl) (fun _ _ _ h => h) (by decide) ⟨hF, fun _ => hG⟩ (Or.inl ⟨by rfl, ?_⟩) ?_
  rotate_left
  · intro wq hSw; obtain ⟨s0, s1, s2⟩ := hSw; go_simp; rfl
  simp only [Act.put]
  refine gate_takeF (i := 8) (v := ?_) rfl (by kernel_rfl) (by kernel_rfl) (by kernel_rfl) (fun _ _ _ h => h) (by decide) ⟨hF, fun _ => hG⟩ (Or.inl ⟨by rfl, ?_⟩) ?_
  rotate_left
  · intro wq hSw; obtain ⟨s0, s1, s2⟩ := hSw; go_simp; rfl
  simp only [Act.put]
  refine gate_takeF (i := 9) (v := ?_) rfl (by kernel_rfl) (by kernel_rfl) (by kernel_rfl) (fun _ _ _ h => h) (by decide) ⟨hF, fun _ => hG⟩ (Or.inl ⟨by rfl, ?_⟩) ?_
  rotate_left
  · intro wq hSw; obtain ⟨s0, s1, s2⟩ := hSw; go_simp; rfl
  simp only [Act.put]
  refine gate_takeF (i := 10) (v := ?_) rfl (by kernel_rfl) (by kernel_rfl) (by kernel_rfl) (fun _ _ _ h => h) (by decide) ⟨hF, fun _ => hG⟩ (Or.inl ⟨by rfl, ?_⟩) ?_
  rotate_left
  · intro wq hSw; obtain ⟨s0, s1, s2⟩ := hSw; go_simp; rfl
  simp only [Act.put]
  refine gate_takeF (i := 12) (v := ?_) rfl (by kernel_rfl) (by kernel_rfl) (by kernel_rfl) (fun _ _ _ h => h) (by decide) ⟨hF, fun _ => hG⟩ (Or.inl ⟨by rfl, ?_⟩) ?_
  rotate_left
  · intro wq hSw; obtain ⟨s0, s1, s2⟩ := hSw; go_simp; rfl
  simp only [Act.put]
  refine gate_takeF (i := 13) (v := ?_) rfl (by kernel_rfl) (by kernel_rfl) (by kernel_rfl) (fun _ _ _ h => h) (by decide) ⟨hF, fun _ => hG⟩ (Or.inl ⟨by rfl, ?_⟩) ?_
  rotate_left
  · intro wq hSw; obtain ⟨s0, s1, s2⟩ := hSw; go_simp; rfl
  simp only [Act.put]
  refine gate_one (i := 11) (by kernel_rfl) rfl (fun K hK => ?_)
  have hdo := dropOf_new k sn w7.drew hk1 hk16 hs1 hs2
  rw [← HZS.out, ← HSD.out] at hdo
  go_simp
  refine hdo.mono ?_
  rintro e w8 ⟨oa, oc, rfl, hoi, hob, hb8⟩
  have hF' : w8.cell? ⟨p, 0, none⟩ = some (.int .i64 k) ∧ w8.cell? ⟨X, 0, none⟩ = some (.int .i64 s) ∧ w8.cell? ⟨X, 1, none⟩ = some (.string (S t)) := ⟨hb8.cell_at hF.1, hb8.cell_at hF.2.1, hb8.cell_at hF.2.2⟩
  have hG' := hb8.cell_at hG
  refine hK _ _ ⟨hF', fun _ => hG'⟩ ?_
  clear hK K hF hG hdo
  have hF := hF'
  have hG := hG'
  clear hF' hG'
  have hp8 := HP7.out.keep ((Lat.drew w7).trans hb8)
  obtain ⟨rows, ho8, hw8⟩ := hp8.row
  have hrl : rows.length = ln := by rw [hw8.1, ← HLN.out]
  rw [← HLN.out] at ho8
  have HO8 := Lib.hid ho8; have HW8 := Lib.hid hw8; have HRL := Lib.hid hrl; have HP8 := Lib.hid hp8; have HB8 := Lib.hid hb8; have HOI := Lib.hid hoi; have HOB := Lib.hid hob
  clear ho8 hw8 hrl hp8 hb8 hoi hob
  refine gate_takeF (i := 14) (v := ?_) rfl (by kernel_rfl) (by kernel_rfl) (by kernel_rfl) (fun _ _ _ h => h) (by decide) ⟨hF, fun _ => hG⟩ (Or.inl ⟨by rfl, ?_⟩) ?_
  rotate_left
  · intro wq hSw; obtain ⟨s0, s1, s2⟩ := hSw; go_simp; rfl
  simp only [Act.put]
  refine gate_one (i := 15) (by kernel_rfl) rfl (fun K hK => ?_)
  go_simp
  refine hK _ _ ⟨⟨(Lat.alloc _ _).cell_at hF.1, (Lat.alloc _ _).cell_at hF.2.1, (Lat.alloc _ _).cell_at hF.2.2⟩, fun _ => (Lat.alloc _ _).cell_at hG⟩ ?_
  clear hK K
  refine gate_one (i := 16) (by kernel_rfl) rfl (fun K hK => ?_)
  refine appR_step w8 0 rfl (.tmp 47) (.tmp 58) 65 rfl 74 _ 2 40 Tryd.underlying65 info_wait rfl (by decide) (by decide) _ _ _ rfl HO8.out rfl rfl (fun u hu => by simp at hu; rcases hu with rfl | rfl <;> rfl) (by rw [HRL.out]; have := HTL.out; have := HH.out.most; have := HLN.out; omega) (Nat.zero_le _) ?_
  rw [HRL.out]
  intro g' cap' w9 hown9 hb9 hs9
  have hs9 : AppStep w8 w9 (.slice a ln cap) (.slice (some ⟨g', 0, none⟩) (ln + 1) cap') := hs9
  have hnp : (Value.slice a ln cap).ownBlock ≠ some p := fun e => by rw [HLN.out] at e; exact (HP8.out.own p e).2.1 rfl
  have hnX : (Value.slice a ln cap).ownBlock ≠ some X := fun e => by
    rw [HLN.out] at e
    have := HH.out.lt X (HP8.out.own X e).1
    have := HX.out
    omega
  have hF9 : w9.cell? ⟨p, 0, none⟩ = some (.int .i64 k) ∧ w9.cell? ⟨X, 0, none⟩ = some (.int .i64 s) ∧ w9.cell? ⟨X, 1, none⟩ = some (.string (S t)) := ⟨hs9.cell hF.1 hnp, hs9.cell hF.2.1 hnX, hs9.cell hF.2.2 hnX⟩
  have hG9 : w9.cell? ⟨p, 4, none⟩ = some (.slice a ln cap) := hs9.cell hG hnp
  have hpl8 := World.block_lt_of_cell? _ _ hG
  have hf9 : w9.frozen? ⟨p, 4, none⟩ = false := by
    rw [World.frozen?_of_block (w := w8) (a := ⟨p, 4, none⟩) (hs9.block p hpl8 (fun e => hnp e.symm))]; exact HP8.out.free
  have hws8 : w.heap.size ≤ w8.heap.size := by have := HL7.out.size; have := HB8.out.size; have := (Lat.drew w7).size; omega
  have hp10 := (HP8.out).push (B := w.heap.size) HH.out.lt hws8 (by rw [List.length_append]; have := HH.out.most; simp; omega) HW8.out (g := g') (cap' := cap') (w5 := w9) (by rw [← HLN.out]; exact hown9) (by rw [← HLN.out]; exact hs9) hb9 HOI.out (fun b o e => by have := HOB.out b o e; have := HL7.out.size; have := (Lat.drew w7).size; omega) (by rw [HZS.out]; exact HOK.out)
  rw [← HLN.out] at hp10
  have hfr10 : Fr G w (w9.setCell ⟨p, 4, none⟩ (.slice (some ⟨g', 0, none⟩) (ln + 1) cap')) := (((HL7.out.next (Lat.drew w7)).next HB8.out).trans (Fr.app hs9 ⟨hb9.os, hb9.tape, hb9.output⟩) (fun i _ e => by
    rw [HLN.out] at e
    exact (HP8.out.own i e).1)).then_set ⟨p, 4, none⟩ _ (.inl HH.out.gp)
  have HP10 := Lib.hid hp10; have HFR10 := Lib.hid hfr10
  refine hK _ _ (FG.past (by kernel_rfl) hF9) ?_
  clear hK K hF hG hown9 hb9 hs9 hnp hnX hp10 hfr10 hpl8 hws8
  refine gate_takeF (i := 17) (v := ?_) rfl (by kernel_rfl) (by kernel_rfl) (by kernel_rfl) (fun _ _ _ h => h) (by decide) (FG.past (by kernel_rfl) hF9) (Or.inl ⟨by rfl, ?_⟩) ?_
  rotate_left
  · intro wq hSw; go_simp; rfl
  simp only [Act.put]
  refine gate_takeF (i := 18) (v := ?_) rfl (by kernel_rfl) (by kernel_rfl) (by kernel_rfl) (fun _ _ _ h => h) (by decide) (FG.past (by kernel_rfl) hF9) (Or.inl ⟨by rfl, ?_⟩) ?_
  rotate_left
  · intro wq hSw; go_simp; rfl
  simp only [Act.put]
  have hX0 : X ≠ p := by have := HH.out.lt _ HH.out.gp; have := HX.out; omega
  have hF8 : ∀ x : Value, (w9.setCell ⟨p, 4, none⟩ x).cell? ⟨p, 0, none⟩ = some (.int .i64 k) ∧ (w9.setCell ⟨p, 4, none⟩ x).cell? ⟨X, 0, none⟩ = some (.int .i64 s) ∧ (w9.setCell ⟨p, 4, none⟩ x).cell? ⟨X, 1, none⟩ = some (.string (S t)) := fun x =>
    ⟨by rw [World.cell?_setCell_other _ _ _ _ (by simp)]; exact hF9.1, by rw [World.cell?_setCell_other _ _ _ _ (by intro e; injection e with e1 _ _; exact hX0 e1.symm)]; exact hF9.2.1, by rw [World.cell?_setCell_other _ _ _ _ (by intro e; injection e with e1 _ _; exact hX0 e1.symm)]; exact hF9.2.2⟩
  have HF8 := Lib.hid hF8
  refine gate_one (i := 19) (by kernel_rfl) rfl (fun K hK => ?_)
  clear hF8 hF9
  go_simp
  refine hK _ _ (FG.past (by kernel_rfl) (HF8.out _)) ?_
  clear hK K
  refine gate_done (by kernel_rfl) ?_ _
  clear hG9 hf9 hX0
  have hln := learn_any _ p k m K (T ++ [s]) (L ++ [(zs, t)]) _ ⟨kb, tb, _, cap', HP10.out⟩ hk16 hm8
  have HLRN := Lib.hid hln
  clear hln
  go_wp2_with (go_at_call 36; refine HLRN.out.mono ?_; rintro e w11 ⟨ra, rc, rfl, hri, hst⟩)
  go_ret2
  obtain ⟨G2, ho2, hG2⟩ := hst.obj
  refine ⟨ra, rc, rfl, hri, HFR10.out.trans hst.fr (fun i hi e => ?_), ⟨G2, ho2, fun i hi => ?_⟩, ⟨hst.maps.1.trans (HP10.out.c2.trans HH.out.c2.symm), hst.maps.2.trans (HP10.out.c3.trans HH.out.c3.symm)⟩⟩
  · rcases e.2 with e | e
    · exact e
    · omega
  · rcases hG2 i hi with e | e
    · exact e.2
    · exact .inr (Nat.le_trans HFR10.out.size e)
end Go.Proofs.YtcpookgbneoilaaDoor

namespace Go.Proofs.YtcpookgbneoilaaDoor
open Go.ChangeShapes Go.WideShapes Go.ChangeAt Go.RowKit

theorem peel_waits (G : Nat → Prop) (p k m : Nat) (K : Kn) (T : List Int) (L : List Wt) (w : World) (h : PeelO G p k m K T L w) :
    Calls Tryd.prog 16 #[.pointer (some ⟨p, 0, none⟩)] w fun e w' => e = .returned (.int .i64 L.length) ∧ w = w' := by
  obtain ⟨kb, tb, a, cap, h⟩ := h
  have c4 := h.c4
  obtain ⟨n, hn⟩ : ∃ n, n = L.length := ⟨_, rfl⟩
  rw [← hn] at c4 ⊢
  clear h hn
  go_enter Tryd.func16, Tryd.ntmps16
  go_wp2
  go_ret
  exact ⟨rfl, rfl⟩
def blkE (k : Nat) (K : Kn) (i : Int) : Nat := if i < 0 ∨ (k : Int) ≤ i then 1 else if (K i).isSome = true then 0 else 5
def blkB (k : Nat) (K : Kn) (i : Int) : Bts := if i < 0 ∨ (k : Int) ≤ i then [] else (K i).getD []
set_option maxHeartbeats 1000000 in
theorem peel_block (G : Nat → Prop) (p k m : Nat) (K : Kn) (T : List Int) (L : List Wt) (i : Int) (w : World) (h : PeelO G p k m K T L w) (hk : k ≤ 16) :
    Calls Tryd.prog 13 #[.pointer (some ⟨p, 0, none⟩), .int .i64 i] w fun e w' => e = .returned (.tuple #[.string (S (blkB k K i)), errv (blkE k K i)]) ∧ w = w' := by
  obtain ⟨kb, tb, a, cap, h⟩ := h
  have c0 := h.c0
  have c2 := h.c2
  have hkn := h.kn
  by_cases h0 : i < 0
  · have e1 : blkE k K i = 1 := if_pos (.inl h0)
    have e2 : blkB k K i = [] := if_pos (.inl h0)
    have d0 : decide (i < 0) = true := decide_eq_true h0
    rw [e1, e2]
    clear h hkn h0 e1 e2
    go_enter Tryd.func13, Tryd.ntmps13
    go_wp2
    go_ret2
    exact ⟨rfl, rfl⟩
  have d0 : decide (i < 0) = false := decide_eq_false h0
  by_cases h1 : (k : Int) ≤ i
  · have e1 : blkE k K i = 1 := if_pos (.inr h1)
    have e2 : blkB k K i = [] := if_pos (.inr h1)
    have d1 : decide ((k : Int) ≤ i) = true := decide_eq_true h1
    rw [e1, e2]
    clear h hkn h0 h1 e1 e2
    go_enter Tryd.func13, Tryd.ntmps13
    go_wp2
    go_ret2
    exact ⟨rfl, rfl⟩
  have d1 : decide ((k : Int) ≤ i) = false := decide_eq_false h1
  have hlook := hkn.look_ok hk i (by omega) (by omega)
  cases hq : K i with
  | none =>
    have e1 : blkE k K i = 5 := by unfold blkE; rw [if_neg (by omega), hq]; rfl
    have e2 : blkB k K i = [] := by unfold blkB; rw [if_neg (by omega), hq]; rfl
    rw [e1, e2]
    rw [hq] at hlook
    have hlook : (Instr.lookup 63 (.map (some kb)) (.int .i64 i) true).run Tryd.prog w = .ok (.tuple #[.string { data := #[] }, .bool false]) w := hlook
    clear h hkn h0 h1 e1 e2 hq
    go_enter Tryd.func13, Tryd.ntmps13
    go_wp2
    go_ret2
    exact ⟨rfl, rfl⟩
  | some b =>
    have e1 : blkE k K i = 0 := by unfold blkE; rw [if_neg (by omega), hq]; rfl
    have e2 : blkB k K i = b := by unfold blkB; rw [if_neg (by omega), hq]; rfl
    rw [e1, e2]
    rw [hq] at hlook
    have hlook : (Instr.lookup 63 (.map (some kb)) (.int .i64 i) true).run Tryd.prog w = .ok (.tuple #[.string (S b), .bool true]) w := hlook
    clear h hkn h0 h1 e1 e2 hq
    go_enter Tryd.func13, Tryd.ntmps13
    go_wp2
    go_ret2
    exact ⟨rfl, rfl⟩
end Go.Proofs.YtcpookgbneoilaaDoor

namespace Go.Proofs.YtcpookgbneoilaaDoor
open Go.ChangeShapes Go.WideShapes Go.ChangeAt Go.RowKit

def nxK (k m : Nat) (K : Kn) (T : List Int) (L : List Wt) (s : Int) (t : Bts) : Kn := if tkE k m T s t = 0 then lrnK k K (L ++ [(setZ k s.toNat, t)]) else K
def nxL (k m : Nat) (K : Kn) (T : List Int) (L : List Wt) (s : Int) (t : Bts) : List Wt := if tkE k m T s t = 0 then lrnL k K (L ++ [(setZ k s.toNat, t)]) else L
def nxO (k m : Nat) (K : Kn) (T : List Int) (L : List Wt) (s : Int) (t : Bts) : List Int := if tkE k m T s t = 0 then lrnO k K (L ++ [(setZ k s.toNat, t)]) else []
def nxT (k m : Nat) (T : List Int) (s : Int) (t : Bts) : List Int := if tkE k m T s t = 0 then T ++ [s] else T
def nxR (k m : Nat) (K : Kn) (T : List Int) (L : List Dr) (s : Int) (t : Bts) : List Dr := if tkE k m T s t = 0 then rtkL k K (L ++ [⟨s, S t⟩]) else L
theorem peel_maps_refl {G : Nat → Prop} {p k m : Nat} {K : Kn} {T : List Int} {L : List Wt} {w w' : World} (h : PeelO G p k m K T L w) (hb : Lat w w') : PeelStep G p k m K T L w w' := by
  obtain ⟨kb, tb, a, cap, h⟩ := h
  exact ⟨Fr.lat hb, ⟨G, ⟨kb, tb, a, cap, h.keep hb⟩, fun i hi => .inl hi⟩, by rw [hb.cell_at h.c2, h.c2], by rw [hb.cell_at h.c3, h.c3]⟩
theorem take_any (G : Nat → Prop) (p k m : Nat) (K : Kn) (T : List Int) (L : List Wt) (s : Int) (t : Bts) (w : World) (h : PeelO G p k m K T L w) :
    Calls Tryd.prog 11 #[.pointer (some ⟨p, 0, none⟩), .agg #[.int .i64 s, .string (S t)]] w fun e w' => ∃ oa oc, e = .returned (.tuple #[.slice oa (nxO k m K T L s t).length oc, errv (tkE k m T s t)]) ∧ IntsAt w' oa (nxO k m K T L s t).length oc (nxO k m K T L s t) ∧
      PeelStep G p k m (nxK k m K T L s t) (nxT k m T s t) (nxL k m K T L s t) w w' := by
  by_cases hE : tkE k m T s t = 0
  · refine (take_ok G p k m K T L s t w h hE).mono ?_
    rintro e w' ⟨oa, oc, rfl, hi, hs⟩
    unfold nxO nxK nxT nxL
    rw [if_pos hE, if_pos hE, if_pos hE, if_pos hE, errv_zero hE]
    exact ⟨oa, oc, rfl, hi, hs⟩
  · refine (take_bad G p k m K T L s t w h hE).mono ?_
    rintro e w' ⟨rfl, hb⟩
    unfold nxO nxK nxT nxL
    rw [if_neg hE, if_neg hE, if_neg hE, if_neg hE, errv_pos hE]
    exact ⟨none, 0, rfl, IntsAt.nil _, peel_maps_refl h hb⟩
theorem rpeel_new (k m : Nat) (w : World) : RPeelIn (fun i => i = w.heap.size) w.heap.size k m (fun _ => none) [] [] (.slice none 0 0) (.slice none 0 0) (w.alloc (.cells #[.int .i64 k, .bool false, .bool false, .bool false, .bool false, .bool false, .bool false, .bool false, .bool false, .bool false, .bool false, .bool false, .bool false, .bool false, .bool false, .bool false, .bool false, .string { data := #[] }, .string { data := #[] }, .string { data := #[] }, .string { data := #[] }, .string { data := #[] }, .string { data := #[] }, .string { data := #[] }, .string { data := #[] }, .string { data := #[] }, .string { data := #[] }, .string { data := #[] }, .string { data := #[] }, .string { data := #[] }, .string { data := #[] }, .string { data := #[] }, .string { data := #[] }, .slice none 0 0, .slice none 0 0] 34)) := by
  refine ⟨fun i hi => by rw [hi]; simp, rfl, blk_new w _ 35 _ _ (fun j hj => ?_), OwnR.nil _ _ _ _, Own.nil _ _ _, fun i hi => (by cases hi), fun i hi => (by cases hi), fun z b h => (by cases h), fun d hd => (by cases hd)⟩
  match j, hj with
  | 0, _ => rfl
  | 1, _ => rfl
  | 2, _ => rfl
  | 3, _ => rfl
  | 4, _ => rfl
  | 5, _ => rfl
  | 6, _ => rfl
  | 7, _ => rfl
  | 8, _ => rfl
  | 9, _ => rfl
  | 10, _ => rfl
  | 11, _ => rfl
  | 12, _ => rfl
  | 13, _ => rfl
  | 14, _ => rfl
  | 15, _ => rfl
  | 16, _ => rfl
  | 17, _ => rfl
  | 18, _ => rfl
  | 19, _ => rfl
  | 20, _ => rfl
  | 21, _ => rfl
  | 22, _ => rfl
  | 23, _ => rfl
  | 24, _ => rfl
  | 25, _ => rfl
  | 26, _ => rfl
  | 27, _ => rfl
  | 28, _ => rfl
  | 29, _ => rfl
  | 30, _ => rfl
  | 31, _ => rfl
  | 32, _ => rfl
  | 33, _ => rfl
  | 34, _ => rfl
  | j + 35, h => omega
theorem tkE_drp {k m : Nat} {T : List Int} {s : Int} {t : Bts} (h : tkE k m T s t = 0) : drpE k m s (S t) = 0 := by
  unfold tkE at h
  by_cases h1 : drpE k m s (S t) = 0
  · exact h1
  · rw [if_pos h1] at h; exact absurd h h1
structure PP (w : World) (k m p q : Nat) (G1 G2 : Nat → Prop) (K : Kn) (T : List Int) (Lp : List Wt) (Lr : List Dr) (lv tv : Value) (wr : World) : Prop where
  o1 : PeelO G1 q k m K T Lp wr
  o2 : RPeelIn G2 p k m K T Lr lv tv wr
  dis : ∀ i, G1 i → ¬ G2 i
  n1 : ∀ i, G1 i → w.heap.size ≤ i
  n2 : ∀ i, G2 i → w.heap.size ≤ i
  both : Both k K Lp Lr
  rng : ∀ z ∈ T, 1 ≤ z ∧ z ≤ 10000
  lat : Lat w wr
theorem PP.keep {w : World} {k m p q : Nat} {G1 G2 : Nat → Prop} {K : Kn} {T : List Int} {Lp : List Wt} {Lr : List Dr} {lv tv : Value} {wr wx : World} (h : PP w k m p q G1 G2 K T Lp Lr lv tv wr) (hb : Lat wr wx) : PP w k m p q G1 G2 K T Lp Lr lv tv wx :=
  ⟨h.o1.keep hb, h.o2.keep hb, h.dis, h.n1, h.n2, h.both, h.rng, h.lat.trans hb⟩
theorem PP.lens {w : World} {k m p q : Nat} {G1 G2 : Nat → Prop} {K : Kn} {T : List Int} {Lp : List Wt} {Lr : List Dr} {lv tv : Value} {wr : World} (h : PP w k m p q G1 G2 K T Lp Lr lv tv wr) : T.length ≤ 60 ∧ Lr.length ≤ T.length ∧ Lp.length = Lr.length := by
  obtain ⟨kb, tb, a, cap, ho⟩ := h.o1
  have h1 := ho.tk.most
  have h2 := ho.most
  have h3 : Lp.length = Lr.length := by rw [h.both, List.length_map]
  exact ⟨h1, by omega, h3⟩
structure PQ (w wr : World) (k m p q : Nat) (G1 G2 : Nat → Prop) (K K' : Kn) (T T' : List Int) (Lp : List Wt) (Lr' : List Dr) (WO : List Int) (wv : Value) (wx : World) : Prop where
  o1 : PeelO G1 q k m K T Lp wx
  obj : ∃ G2' lv tv, RPeelIn G2' p k m K' T' Lr' lv tv wx ∧ (∀ i, G2' i → G2 i ∨ wr.heap.size ≤ i) ∧ ∀ i, wv.ownBlock = some i → ¬ G2' i
  own : OwnInts wx wr.heap.size wv WO
  fr : Fr G2 wr wx
theorem PP.took_no {w wr wx : World} {k m p q : Nat} {G1 G2 : Nat → Prop} {K : Kn} {T : List Int} {Lp : List Wt} {Lr : List Dr} {lv tv : Value} {s : Int} {t : Bts} (h : PP w k m p q G1 G2 K T Lp Lr lv tv wr) (hb : Lat wr wx) (hE : tkE k m T s t ≠ 0) :
    PQ w wr k m p q G1 G2 K (nxK k m K T Lp s t) T (nxT k m T s t) Lp (nxR k m K T Lr s t) (nxO k m K T Lp s t) (.slice none 0 0) wx := by
  unfold nxK nxT nxR nxO
  rw [if_neg hE, if_neg hE, if_neg hE, if_neg hE]
  exact ⟨h.o1.keep hb, ⟨G2, lv, tv, h.o2.keep hb, fun i hi => .inl hi, fun i hi => (by cases hi)⟩, Own.nil _ _ _, Fr.lat hb⟩
theorem PP.took {w wr w1 wx : World} {k m p q : Nat} {G1 G2 : Nat → Prop} {K : Kn} {T : List Int} {Lp : List Wt} {Lr : List Dr} {lv tv wv : Value} {s : Int} {t : Bts} (h : PP w k m p q G1 G2 K T Lp Lr lv tv wr) (hb : Lat wr w1) (hE : tkE k m T s t = 0)
    (hown : OwnInts wx w1.heap.size wv (rtkO k K (Lr ++ [⟨s, S t⟩]))) (hf : Fr G2 w1 wx) (hobj : ∃ G' lv' tv', (∀ i, G' i → (G2 i ∨ w1.heap.size ≤ i) ∧ wv.ownBlock ≠ some i) ∧ RPeelIn G' p k m (rtkK k K (Lr ++ [⟨s, S t⟩])) (T ++ [s]) (rtkL k K (Lr ++ [⟨s, S t⟩])) lv' tv' wx) :
    PQ w wr k m p q G1 G2 K (nxK k m K T Lp s t) T (nxT k m T s t) Lp (nxR k m K T Lr s t) (nxO k m K T Lp s t) wv wx := by
  obtain ⟨h1, h2, h3⟩ := h.both.take ⟨s, S t⟩
  obtain ⟨G', lv', tv', hG, hp⟩ := hobj
  have ew : wtD k ⟨s, S t⟩ = (setZ k s.toNat, t) := rfl
  rw [ew] at h1 h2 h3
  rw [h1] at hp
  rw [h2] at hown
  unfold nxK nxT nxR nxO
  rw [if_pos hE, if_pos hE, if_pos hE, if_pos hE]
  exact ⟨(h.o1.keep hb).fr hf h.dis, ⟨G', lv', tv', hp, fun i hi => (hG i hi).1.imp id (fun e => Nat.le_trans hb.size e), fun i hi e => (hG i e).2 hi⟩, Own.mono hown hb.size, (Fr.lat hb).trans hf (fun i _ e => e)⟩
theorem PP.next {w wr wx wy : World} {k m p q : Nat} {G1 G2 : Nat → Prop} {K : Kn} {T : List Int} {Lp : List Wt} {Lr : List Dr} {lv tv wv : Value} {s : Int} {t : Bts} (h : PP w k m p q G1 G2 K T Lp Lr lv tv wr)
    (hq : PQ w wr k m p q G1 G2 K (nxK k m K T Lp s t) T (nxT k m T s t) Lp (nxR k m K T Lr s t) (nxO k m K T Lp s t) wv wx)
    (hs : PeelStep G1 q k m (nxK k m K T Lp s t) (nxT k m T s t) (nxL k m K T Lp s t) wx wy) :
    ∃ G1' G2' lv' tv', PP w k m p q G1' G2' (nxK k m K T Lp s t) (nxT k m T s t) (nxL k m K T Lp s t) (nxR k m K T Lr s t) lv' tv' wy ∧ OwnInts wy wr.heap.size wv (nxO k m K T Lp s t) := by
  obtain ⟨G2', lv', tv', hp, hG, hv⟩ := hq.obj
  obtain ⟨G1', ho, hG1⟩ := hs.obj
  have hlt1 : ∀ i, G1 i → i < wr.heap.size := by
    obtain ⟨kb, tb, a, cap, h1⟩ := h.o1
    exact h1.lt
  have hlx : Lat w wx := hq.fr.lat_of h.lat h.n2
  have hly : Lat w wy := hs.fr.lat_of hlx h.n1
  have hd : ∀ i, G2' i → ¬ G1 i := fun i hi e => by
    rcases hG i hi with h1 | h1
    · exact h.dis i e h1
    · have := hlt1 i e; omega
  refine ⟨G1', G2', lv', tv', ⟨ho, hp.fr hs.fr hd, fun i h1 h2 => ?_, fun i hi => ?_, fun i hi => ?_, ?_, ?_, hly⟩, hq.own.frP hs.fr (fun i hi e => by have := hlt1 i e; have := (Own.lt hq.own i hi).1; omega)⟩
  · rcases hG1 i h1 with e | e
    · exact hd i h2 e
    · have := hp.lt i h2; omega
  · rcases hG1 i hi with e | e
    · exact h.n1 i e
    · exact Nat.le_trans hlx.size e
  · rcases hG i hi with e | e
    · exact h.n2 i e
    · exact Nat.le_trans h.lat.size e
  · unfold nxK nxL nxR
    by_cases hE : tkE k m T s t = 0
    · rw [if_pos hE, if_pos hE, if_pos hE]
      exact (h.both.take ⟨s, S t⟩).2.2
    · rw [if_neg hE, if_neg hE, if_neg hE]; exact h.both
  · unfold nxT
    by_cases hE : tkE k m T s t = 0
    · rw [if_pos hE]
      intro z hz
      rcases List.mem_append.1 hz with h1 | h1
      · exact h.rng z h1
      · rw [List.mem_singleton.1 h1]
        have := drpE_zero (tkE_drp hE)
        omega
    · rw [if_neg hE]; exact h.rng
theorem refIn_any (a : Option Addr) (n cap : Nat) (zs : List Int) (v : Int) (w : World) (h : IntsAt w a n cap zs) :
    Calls Tryd.prog 9 #[.slice a n cap, .int .i64 v] w fun e w' => e = .returned (.bool (decide (v ∈ zs))) ∧ w = w' := by
  by_cases hv : v ∈ zs
  · rw [decide_eq_true hv]; exact refIn_yes a n cap zs v w h hv
  · rw [decide_eq_false hv]; exact refIn_no a n cap zs v w h hv
theorem tk_cases (k m : Nat) (T : List Int) (s : Int) (t : Bts) (B : Bool) (hB : B = decide (s ∈ T)) : ∃ E0 E1 : Nat, E0 = drpE k m s (S t) ∧ E1 = tkE k m T s t ∧
    ((E0 ≠ 0 ∧ E1 = E0) ∨ (E0 = 0 ∧ B = true ∧ E1 = 7) ∨ (E0 = 0 ∧ B = false ∧ 60 ≤ T.length ∧ E1 = 4) ∨ (E0 = 0 ∧ B = false ∧ T.length < 60 ∧ E1 = 0)) := by
  refine ⟨_, _, rfl, rfl, ?_⟩
  subst hB
  unfold tkE
  by_cases h1 : drpE k m s (S t) = 0
  · rw [if_neg (fun e => e h1)]
    by_cases h2 : s ∈ T
    · rw [if_pos h2]; exact .inr (.inl ⟨h1, decide_eq_true h2, rfl⟩)
    · rw [if_neg h2]
      by_cases h3 : 60 ≤ T.length
      · rw [if_pos h3]; exact .inr (.inr (.inl ⟨h1, decide_eq_false h2, h3, rfl⟩))
      · rw [if_neg h3]; exact .inr (.inr (.inr ⟨h1, decide_eq_false h2, by omega, rfl⟩))
  · rw [if_pos h1]; exact .inl ⟨h1, rfl⟩
end Go.Proofs.YtcpookgbneoilaaDoor

namespace Go.Proofs.YtcpookgbneoilaaDoor
open Go.ChangeShapes Go.WideShapes Go.ChangeAt Go.RowKit

set_option maxHeartbeats 400000 in
theorem sameInts_yes (a : Option Addr) (n cap : Nat) (zs : List Int) (b : Option Addr) (cap2 : Nat) (w : World) (h : IntsAt w a n cap zs) (h2 : IntsAt w b n cap2 zs) :
    Calls Tryd.prog 12 #[.slice a n cap, .slice b n cap2] w fun e w' => e = .returned (.bool true) ∧ Lat w w' := by
  have hcap2 := h.row.cap
  have hle2 := h.row.le
  unfold maxLen at hcap2
  have H1 := Lib.hid h
  have H2 := Lib.hid h2
  have dn : ((n : Int) != (n : Int)) = false := by simp
  clear h h2
  go_enter Tryd.func12, Tryd.ntmps12
  go_wp2
  go_loopw [5] (fun i wr => ∃ k : Nat, k ≤ n ∧ i = .int .i64 k ∧ Hid (Lat w wr)) (fun i _ => n - (intOf i).toNat)
  case atStart => exact ⟨0, Nat.zero_le _, rfl, Lat.refl _⟩
  case round =>
    obtain ⟨k, hk, rfl, hrel⟩ := hrel
    by_cases hlt : k < n
    · obtain ⟨b1, o1, rfl, hc1⟩ := H1.out.row.at_ (by omega)
      obtain ⟨b2, o2, rfl, hc2⟩ := H2.out.row.at_ (by omega)
      have c1 := hrel.out.cell_at (hc1 k hlt)
      have c2 := hrel.out.cell_at (hc2 k hlt)
      obtain ⟨z, hz⟩ : ∃ z, z = zs.getD k 0 := ⟨_, rfl⟩
      rw [← hz] at c1 c2
      clear hc1 hc2 hz
      go_wp2
      go_quiet (fail)
      go_wp2
      go_roundw
      case rel => exact ⟨k + 1, by omega, by go_num, Lat.trans hrel.out (Lat.drewN _ _)⟩
      case measure => simp [intOf]; omega
    · go_wp2
      go_ret
      exact ⟨rfl, hrel.out⟩
end Go.Proofs.YtcpookgbneoilaaDoor

namespace Go.Proofs.YtcpookgbneoilaaDoor
open Go.ChangeShapes Go.WideShapes Go.ChangeAt Go.RowKit

theorem sameErr_nil (w : World) : Calls Tryd.prog 7 #[.nilIface, .int .i64 0] w fun e w' => e = .returned (.bool true) ∧ Lat w w' := by
  go_enter Tryd.func7, Tryd.ntmps7
  go_wp2_with (go_at_call 29; refine (told_nil _).mono ?_; rintro e w' ⟨rfl, hb⟩)
  go_ret
  exact ⟨rfl, hb⟩
theorem sameErr_eno (n : Int) (w : World) (hg : Hnd w) : Calls Tryd.prog 7 #[eno n, .int .i64 n] w fun e w' => e = .returned (.bool true) ∧ Lat w w' := by
  have H := Lib.hid hg
  clear hg
  go_enter Tryd.func7, Tryd.ntmps7
  go_wp2_with (go_at_call 29; refine (told_eno n _ H.out).mono ?_; rintro e w' ⟨rfl, hb⟩)
  go_ret
  exact ⟨rfl, hb⟩
theorem sameErr_any (n : Nat) (w : World) (hg : Hnd w) : Calls Tryd.prog 7 #[errv n, .int .i64 n] w fun e w' => e = .returned (.bool true) ∧ Lat w w' := by
  by_cases h : n = 0
  · subst h; exact sameErr_nil w
  · rw [errv_pos h]; exact sameErr_eno n w hg
end Go.Proofs.YtcpookgbneoilaaDoor

namespace Go.Proofs.YtcpookgbneoilaaDoor
theorem quiet_left {P : Program} {f : FuncId} {args : Array Value} {w : World} {n : Nat} {v : Value}
    (h : Calls P f args (w.drewN n) fun e w' => e = .returned v ∧ w.drewN n = w') : Calls P f args (w.drewN n) fun e w'' => e = .returned v ∧ ∃ m, w'' = w.drewN m :=
  h.mono fun _ _ ⟨he, hm⟩ => ⟨he, n, hm.symm⟩
theorem quiet_more {P : Program} {f : FuncId} {args : Array Value} {w : World} {a n : Nat} {v : Value}
    (h : Calls P f args (w.drewN (a + n)) fun e w' => e = .returned v ∧ w.drewN (a + n) = w') : Calls P f args (w.drewN (a + n)) fun e w'' => e = .returned v ∧ ∃ m, w'' = w.drewN (a + m) :=
  h.mono fun _ _ ⟨he, hm⟩ => ⟨he, n, hm.symm⟩
end Go.Proofs.YtcpookgbneoilaaDoor

namespace Go.Proofs.YtcpookgbneoilaaDoor
open Go.ChangeShapes Go.WideShapes Go.ChangeAt Go.RowKit

set_option maxHeartbeats 8000000 in
set_option maxRecDepth 100000 in
theorem walk_peelPlays (k m : Int) (a : Option Addr) (n cap : Nat) (ds : List Dr) (i : Int) (w : World) (hg : Hnd w) (_ : (Lit.int .i64 k).wf = true) (_ : (Lit.int .i64 m).wf = true) (h : DropsAt w a n cap ds) (_ : (Lit.int .i64 i).wf = true) :
    Calls Tryd.prog 3 #[.int .i64 k, .int .i64 m, .slice a n cap, .int .i64 i] w fun e w' => e = .returned (.bool true) ∧ Lat w w' := by
  have hlen := h.len
  have hle := h.rows.le
  have hcm := h.rows.cap
  unfold maxLen at hcm
  by_cases hbad : k < 1 ∨ 16 < k ∨ m < 1 ∨ 8 < m
  · have HG := Lib.hid hg; have HB := Lib.hid hbad
    have hd : decide (k < 1) = true ∨ (decide (k < 1) = false ∧ decide (16 < k) = true) ∨ (decide (k < 1) = false ∧ decide (16 < k) = false ∧ decide (m < 1) = true) ∨ (decide (k < 1) = false ∧ decide (16 < k) = false ∧ decide (m < 1) = false ∧ decide (8 < m) = true) := by
      simp only [decide_eq_true_eq, decide_eq_false_iff_not]
      omega
    clear hg hbad h hlen
    rcases hd with d1 | ⟨d1, d2⟩ | ⟨d1, d2, d3⟩ | ⟨d1, d2, d3, d4⟩
    all_goals
      go_enter Tryd.func3, Tryd.ntmps3
      go_wp2_with (first
        | (go_at_call 6; refine (peel_new_bad k m _ HB.out).mono ?_; rintro e w2 ⟨rfl, hb2⟩)
        | (go_at_call 7; refine (sameErr_eno 1 _ (HG.out.keep hb2)).mono ?_; rintro e w3 ⟨rfl, hb3⟩))
      go_ret
      exact ⟨rfl, hb2.trans hb3⟩
  have d1 : decide (k < 1) = false := decide_eq_false (by omega)
  have d2 : decide (16 < k) = false := decide_eq_false (by omega)
  have d3 : decide (m < 1) = false := decide_eq_false (by omega)
  have d4 : decide (8 < m) = false := decide_eq_false (by omega)
  obtain ⟨k, rfl⟩ : ∃ q : Nat, k = q := ⟨k.toNat, by omega⟩
  obtain ⟨m, rfl⟩ : ∃ q : Nat, m = q := ⟨m.toNat, by omega⟩
  have hk1 : 1 ≤ k := by omega
  have hk2 : k ≤ 16 := by omega
  have hm1 : 1 ≤ m := by omega
  have hm2 : m ≤ 8 := by omega
  have HG := Lib.hid hg; have H := Lib.hid h; have HL := Lib.hid hlen
  have HK1 := Lib.hid hk1; have HK2 := Lib.hid hk2; have HM1 := Lib.hid hm1; have HM2 := Lib.hid hm2
  clear hg h hlen hbad hk1 hk2 hm1 hm2
  go_enter Tryd.func3, Tryd.ntmps3
  go_upto_block 0 with (first
    | (go_at_call 6; refine (peel_new_ok k m _ HK1.out HK2.out HM1.out HM2.out).mono ?_; rintro e w2 ⟨q, G0, rfl, hp0, hG0, hb2⟩)
    | (go_at_call 7; refine (sameErr_nil _).mono ?_; rintro e w3 ⟨rfl, hb3⟩))
  have hrp := rpeel_new k m w3
  have hpp : PP w k m w3.heap.size q G0 (fun i => i = w3.heap.size) (fun _ => none) [] [] [] (.slice none 0 0) (.slice none 0 0) (w3.alloc _) := ⟨(hp0.keep hb3).keep (Lat.alloc _ _), hrp, fun i h1 h2 => by
    obtain ⟨kb, tb, a, cap, h⟩ := hp0
    have := h.lt i h1
    have := hb3.size
    omega, hG0, fun i hi => by rw [hi]; exact Nat.le_trans hb2.size hb3.size, rfl, fun z hz => (by cases hz), (hb2.trans hb3).trans (Lat.alloc _ _)⟩
  have HPP := Lib.hid hpp
  clear hrp hpp hp0 hG0 hb2 hb3 d1 d2 d3 d4
  generalize w3.heap.size = p at *
  go_wp2_with fail
  go_loopw [14] (fun jv wr => ∃ j : Nat, j ≤ n ∧ j ≤ 70 ∧ jv = .int .i64 j ∧ Hid (∃ G1 G2 K T Lp Lr lv tv, PP w k m p q G1 G2 K T Lp Lr lv tv wr)) (fun jv _ => n - (intOf jv).toNat)
  case atStart => exact ⟨0, Nat.zero_le _, Nat.zero_le _, rfl, _, _, _, _, _, _, _, _, HPP.out⟩
  case round =>
    obtain ⟨j, hj, hj70, rfl, hrel⟩ := hrel
    clear HPP
    by_cases hgo : j < n ∧ j < 70
    · obtain ⟨hlt, hlt2⟩ := hgo
      have i3 : decide ((j : Int) < 70) = true := decide_eq_true (by omega)
      have j0 : (0 : Int) ≤ (j : Int) := by omega
      have j1 : (j : Int) < (n : Int) := by omega
      obtain ⟨G1, G2, K, T, Lp, Lr, lv, tv, hpp⟩ := hrel.out
      obtain ⟨b, o, rfl, hcell⟩ := H.out.at_ (by omega)
      have hjl : j < ds.length := by rw [HL.out]; exact hlt
      obtain ⟨V, hV⟩ : ∃ V, V = ds[j] := ⟨_, rfl⟩
      have hd : ds[j]? = some V := by rw [hV]; exact List.getElem?_eq_getElem hjl
      obtain ⟨c0, c1⟩ := hcell j V hd
      obtain ⟨s, t0⟩ := V
      obtain ⟨t, rfl⟩ : ∃ t, t0 = S t := ⟨_, (S_data' t0).symm⟩
      simp only at c0 c1
      have hC : ∀ W, Lat w W → W.cell? ⟨b, o + j * 2, none⟩ = some (.int .i64 s) ∧ W.cell? ⟨b, o + j * 2 + 1, none⟩ = some (.string (S t)) := fun W hW => ⟨hW.cell_at c0, hW.cell_at c1⟩
      have HC := Lib.hid hC
      have hdr : ∀ W, Calls Tryd.prog 8 #[.int .i64 (k : Int), .int .i64 (m : Int), .agg #[.int .i64 s, .string (S t)]] W fun e w' => e = .returned (.int .i64 (drpE k m s (S t) : Nat)) ∧ Lat W w' := fun W => refDrop k m s (S t) W
      obtain ⟨B, hB⟩ : ∃ B, B = decide (s ∈ T) := ⟨_, rfl⟩
      obtain ⟨E0, E1, hE0, hE1, hcas⟩ := tk_cases k m T s t B hB
      rw [← hE0] at hdr
      have hlens := hpp.lens
      have c0 := (hC wr hpp.lat).1
      have c1 := (hC wr hpp.lat).2
      have HDR := Lib.hid hdr; have HPP := Lib.hid hpp; have HBB := Lib.hid hB; have HE1 := Lib.hid hE1; have HCAS := Lib.hid hcas; have HLENS := Lib.hid hlens
      clear hrel hcell hjl hV hd hC hdr hpp hB hE0 hE1 hcas hlens
      go_upto_region 13 with (go_at_call 8; refine (HDR.out _).mono ?_; rintro e w4 ⟨rfl, hb4⟩)
      have hpp4 := HPP.out.keep hb4
      obtain ⟨ta, tc, htv, hti⟩ := OwnInts.sliceN hpp4.o2.taken (fun z hz => by have := hpp4.rng z hz; omega) (n := T.length) rfl
      have c34 : w4.cell? ⟨p, 34, none⟩ = some (.slice ta T.length tc) := by rw [← htv]; exact hpp4.o2.blk.cell 34 (by decide)
      have c0 := (HC.out w4 hpp4.lat).1
      have hin : ∀ nq, Calls Tryd.prog 9 #[.slice ta T.length tc, .int .i64 s] (w4.drewN nq) fun e w' => e = .returned (.bool B) ∧ w4.drewN nq = w' := fun nq => by
        rw [HBB.out]
        exact refIn_any _ _ _ T s _ (hti.keep (Lat.drewN _ _))
      obtain ⟨tn, htn⟩ : ∃ tn, tn = T.length := ⟨_, rfl⟩
      rw [← htn] at c34 hin
      have HTN := Lib.hid htn
      have HIN := Lib.hid hin; have HPP4 := Lib.hid hpp4
      clear hpp4 hti hin htv htn c1 HPP hb4
      go_quiet ((go_at_call 9; exact quiet_left (HIN.out _)))
      have c34 : (w4.drewN nq).cell? ⟨p, 34, none⟩ = some (.slice ta tn tc) := c34
      have hpp4 := HPP4.out.keep (Lat.drewN w4 nq)
      have HPP5 := Lib.hid hpp4
      clear hpp4 HPP4 HIN c0
      generalize w4.drewN nq = w5 at *
      obtain ⟨X, hX⟩ : ∃ X, X = (decide (E0 = 0) && B) := ⟨_, rfl⟩
      have HX := Lib.hid hX
      clear hX
      go_upto_region 14 with fail
      go_cut [86] from 55 to 179 (fun v wx => v = .bool X ∧ wx = w5)
      case first =>
        have hX := HX.out
        by_cases h0 : E0 = 0
        · subst h0
          have HX2 := Lib.hid (hX.trans (by rw [decide_eq_true rfl, Bool.true_and] : _ = B))
          clear hX
          go_wp2_with fail
          go_meet
          case rel => exact ⟨by rw [HX2.out], rfl⟩
        · have dE : ((E0 : Int) == 0) = false := by rw [beq_eq_false_iff_ne]; omega
          have HX2 := Lib.hid (hX.trans (by rw [decide_eq_false h0, Bool.false_and] : _ = false))
          clear hX h0
          go_wp2_with fail
          go_meet
          case rel => exact ⟨by rw [HX2.out], rfl⟩
      case rest =>
      obtain ⟨rfl, hwc⟩ := hcut
      have hwc : wc = w5 := by first | exact hwc | exact hwc.out
      subst hwc
      generalize wc = w5 at *
      go_upto_if 86 with fail
      go_cut [9] from 55 to 179 (fun ev wx => ev = .int .i64 (E1 : Nat) ∧ wx = w5)
      case first =>
        have hX := HX.out
        rcases HCAS.out with ⟨h1, h2⟩ | ⟨h1, h2, h3⟩ | ⟨h1, h2, h4, h3⟩ | ⟨h1, h2, h4, h3⟩
        · have dE : ((E0 : Int) == 0) = false := by rw [beq_eq_false_iff_ne]; omega
          have HE := Lib.hid h2
          obtain rfl : X = false := hX.trans (by rw [decide_eq_false h1, Bool.false_and])
          clear h1 h2 hX
          go_wp2_with fail
          go_meet
          case rel => exact ⟨by rw [HE.out], rfl⟩
        · subst h1 h2
          have HE := Lib.hid h3
          obtain rfl : X = true := hX.trans rfl
          clear h3 hX
          go_wp2_with fail
          go_meet
          case rel => exact ⟨by rw [HE.out]; rfl, rfl⟩
        · subst h1 h2
          have HE := Lib.hid h3
          have d60 : decide ((60 : Int) ≤ (tn : Int)) = true := decide_eq_true (by have := HTN.out; omega)
          obtain rfl : X = false := hX.trans rfl
          clear h3 h4 hX
          go_wp2_with fail
          go_meet
          case rel => exact ⟨by rw [HE.out]; rfl, rfl⟩
        · subst h1 h2
          have HE := Lib.hid h3
          have d60 : decide ((60 : Int) ≤ (tn : Int)) = false := decide_eq_false (by have := HTN.out; omega)
          obtain rfl : X = false := hX.trans rfl
          clear h3 h4 hX
          go_wp2_with fail
          go_meet
          case rel => exact ⟨by rw [HE.out]; rfl, rfl⟩
      case rest =>
      obtain ⟨rfl, hwc⟩ := hcut
      have hwc : wc = w5 := by first | exact hwc | exact hwc.out
      subst hwc
      clear c34
      generalize wc = w5 at *
      have hC5 := HC.out _ HPP5.out.lat
      obtain ⟨c0, c1⟩ := hC5
      go_upto_if 98 with fail
      go_cut [16] from 55 to 179 (fun wv wx => Hid (PQ w w5 k m p q G1 G2 K (nxK k m K T Lp s t) T (nxT k m T s t) Lp (nxR k m K T Lr s t) (nxO k m K T Lp s t) wv wx))
      case first =>
        by_cases h0 : E1 = 0
        · have hE : tkE k m T s t = 0 := HE1.out.symm.trans h0
          subst h0
          have hdp := drpE_zero (tkE_drp hE)
          have hrt := fun W (hW : Lat w5 W) => refTake G2 p k m K T Lr lv tv s (S t) W (HPP5.out.o2.keep hW) HK1.out HK2.out HM2.out (by omega) (by omega) (by omega) (by have := HLENS.out; omega) (by have := HLENS.out; omega)
          have HRT := Lib.hid hrt; have HE := Lib.hid hE
          clear hrt hdp hE
          go_wp2_with (go_at_call 10; refine (HRT.out _ (Lat.refl _)).mono ?_; rintro e w6 ⟨wv, rfl, how, hfr, hob⟩)
          have hpq := HPP5.out.took (Lat.refl _) HE.out how hfr hob
          have HPQ := Lib.hid hpq
          clear hpq how hfr hob
          try go_wp2_with fail
          go_meet
          case rel => exact HPQ.out
        · have hE : tkE k m T s t ≠ 0 := fun e => h0 (HE1.out.trans e)
          have dE : ((E1 : Int) == 0) = false := by rw [beq_eq_false_iff_ne]; omega
          have HE := Lib.hid hE
          clear h0 hE
          go_wp2_with fail
          go_meet
          case rel => exact HPP5.out.took_no (Lat.refl _) HE.out
      case rest =>
      have hpq : PQ w w5 k m p q G1 G2 K (nxK k m K T Lp s t) T (nxT k m T s t) Lp (nxR k m K T Lr s t) (nxO k m K T Lp s t) u16 wc := by first | exact hcut.out | exact hcut.out.out
      have HPQ := Lib.hid hpq
      clear hcut hpq
      generalize wc = w6 at *
      have hl6 : Lat w w6 := HPQ.out.fr.lat_of HPP5.out.lat HPP5.out.n2
      obtain ⟨c0, c1⟩ := HC.out _ hl6
      have htk := take_any G1 q k m K T Lp s t w6 HPQ.out.o1
      rw [← HE1.out] at htk
      have HTK := Lib.hid htk
      clear htk hl6 HDR
      go_upto_region 22 with (go_at_call 11; refine HTK.out.mono ?_; rintro e w7 ⟨oa, oc, rfl, hoi, hst⟩)
      obtain ⟨G1', G2', lv', tv', hpp7, how7⟩ := HPP5.out.next HPQ.out hst
      obtain ⟨oa2, oc2, rfl, hoi2⟩ := OwnInts.sliceN how7 hoi.wf rfl
      have HPP7 := Lib.hid hpp7; have HOI := Lib.hid hoi; have HOI2 := Lib.hid hoi2
      clear hpp7 how7 hst hoi hoi2 HTK HPQ HPP5 c0 c1
      generalize nxK k m K T Lp s t = K2 at *
      generalize nxT k m T s t = T2 at *
      generalize nxL k m K T Lp s t = Lp2 at *
      generalize nxR k m K T Lr s t = Lr2 at *
      generalize nxO k m K T Lp s t = WO at *
      go_upto_region 23 with (first
        | (go_at_call 7; refine (sameErr_any E1 _ (HG.out.keep HPP7.out.lat)).mono ?_; rintro e w8 ⟨rfl, hb8⟩)
        | (go_at_call 12; refine (sameInts_yes _ _ _ _ _ _ _ (HOI.out.keep hb8) (HOI2.out.keep hb8)).mono ?_; rintro e w9 ⟨rfl, hb9⟩))
      have HPP9 := Lib.hid (HPP7.out.keep (hb8.trans hb9))
      clear hb8 hb9 HPP7 HOI HOI2
      obtain ⟨Y, hY⟩ : ∃ Y, Y = decide (i < 0 ∨ (k : Int) ≤ i) := ⟨_, rfl⟩
      have HY := Lib.hid hY
      clear hY
      go_upto_region 25 with fail
      go_cut [128] from 55 to 179 (fun v wx => v = .bool Y ∧ wx = w9)
      case first =>
        have hY := HY.out
        by_cases q0 : i < 0
        · have dq : decide (i < 0) = true := decide_eq_true q0
          obtain rfl : Y = true := hY.trans (decide_eq_true (.inl q0))
          clear hY q0
          go_wp2_with fail
          go_meet
          case rel => exact ⟨rfl, rfl⟩
        have dq : decide (i < 0) = false := decide_eq_false q0
        by_cases q1 : (k : Int) ≤ i
        · have dq1 : decide ((k : Int) ≤ i) = true := decide_eq_true q1
          obtain rfl : Y = true := hY.trans (decide_eq_true (.inr q1))
          clear hY q0 q1
          go_wp2_with fail
          go_meet
          case rel => exact ⟨rfl, rfl⟩
        · have dq1 : decide ((k : Int) ≤ i) = false := decide_eq_false q1
          obtain rfl : Y = false := hY.trans (decide_eq_false (by omega))
          clear hY q0 q1
          go_wp2_with fail
          go_meet
          case rel => exact ⟨rfl, rfl⟩
      case rest =>
      obtain ⟨rfl, hwc⟩ := hcut
      have hwc : wc = w9 := by first | exact hwc | exact hwc.out
      subst hwc
      generalize wc = w9 at *
      go_upto_if 128 with fail
      go_cut [9, 19] from 55 to 179 (fun ev bv wx => ev = .int .i64 (blkE k K2 i : Nat) ∧ bv = .string (S (blkB k K2 i)) ∧ wx = w9)
      case first =>
        have hY := HY.out
        by_cases q0 : i < 0 ∨ (k : Int) ≤ i
        · have e1 : blkE k K2 i = 1 := if_pos q0
          have e2 : blkB k K2 i = [] := if_pos q0
          have HE := Lib.hid (And.intro e1 e2)
          obtain rfl : Y = true := hY.trans (decide_eq_true q0)
          clear e1 e2 q0 hY
          go_wp2_with fail
          go_meet
          case rel => exact ⟨by rw [HE.out.1]; rfl, by rw [HE.out.2], rfl⟩
        obtain rfl : Y = false := hY.trans (decide_eq_false q0)
        clear hY
        obtain ⟨z, rfl⟩ : ∃ z : Nat, i = z := ⟨i.toNat, by omega⟩
        have hz16 : z < 16 := by have := HK2.out; omega
        have z0 : (0 : Int) ≤ (z : Int) := by omega
        have z1 : (z : Int) < 16 := by omega
        have hkb := HPP9.out.o2.blk.cell (1 + z) (by omega)
        have hbb := HPP9.out.o2.blk.cell (17 + z) (by omega)
        unfold plF at hkb hbb
        rw [if_neg (by omega), if_pos (by omega), show ((1 + z : Nat) : Int) - 1 = (z : Int) by omega] at hkb
        rw [if_neg (by omega), if_neg (by omega), if_pos (by omega), show ((17 + z : Nat) : Int) - 17 = (z : Int) by omega] at hbb
        cases hq : K2 (z : Int) with
        | none =>
          rw [hq] at hkb
          have hkb : w9.cell? ⟨p, 1 + z, none⟩ = some (.bool false) := hkb
          have e1 : blkE k K2 (z : Int) = 5 := by unfold blkE; rw [if_neg (by omega), hq]; rfl
          have e2 : blkB k K2 (z : Int) = [] := by unfold blkB; rw [if_neg (by omega), hq]; rfl
          have HE := Lib.hid (And.intro e1 e2)
          clear e1 e2 q0 hq hbb
          go_wp2_with fail
          go_meet
          case rel => exact ⟨by rw [HE.out.1]; rfl, by rw [HE.out.2], rfl⟩
        | some x =>
          rw [hq] at hkb hbb
          have hkb : w9.cell? ⟨p, 1 + z, none⟩ = some (.bool true) := hkb
          have hbb : w9.cell? ⟨p, 17 + z, none⟩ = some (.string (S x)) := hbb
          have e1 : blkE k K2 (z : Int) = 0 := by unfold blkE; rw [if_neg (by omega), hq]; rfl
          have e2 : blkB k K2 (z : Int) = x := by unfold blkB; rw [if_neg (by omega), hq]; rfl
          have HE := Lib.hid (And.intro e1 e2)
          clear e1 e2 q0 hq
          go_wp2_with fail
          go_meet
          case rel => exact ⟨by rw [HE.out.1]; rfl, by rw [HE.out.2], rfl⟩
      case rest =>
      obtain ⟨rfl, rfl, hwc⟩ := hcut
      have hwc : wc = w9 := by first | exact hwc | exact hwc.out
      subst hwc
      generalize wc = w9 at *
      have hblk := peel_block G1' q k m K2 T2 Lp2 i w9 HPP9.out.o1 HK2.out
      obtain ⟨be, hbe⟩ : ∃ be, be = blkE k K2 i := ⟨_, rfl⟩
      obtain ⟨bs, hbs⟩ : ∃ bs, bs = S (blkB k K2 i) := ⟨_, rfl⟩
      rw [← hbe, ← hbs] at hblk
      rw [← hbe, ← hbs]
      have HBL := Lib.hid hblk
      clear hblk hbe hbs
      go_upto_region 32 with (first
        | (go_at_call 13; refine HBL.out.mono ?_; rintro e w10 ⟨rfl, rfl⟩)
        | (go_at_call 7; refine (sameErr_any be _ (HG.out.keep HPP9.out.lat)).mono ?_; rintro e w11 ⟨rfl, hb11⟩))
      have hppx := HPP9.out.keep hb11
      clear hb11 HBL HPP9
      generalize w11 = wx at *
      obtain ⟨la, lc, hlv, -⟩ := OwnR.slice hppx.o2.drops (n := Lr2.length) (by rw [List.length_map])
      have c33 : wx.cell? ⟨p, 33, none⟩ = some (.slice la Lr2.length lc) := by rw [← hlv]; exact hppx.o2.blk.cell 33 (by decide)
      have hkn := fun W (hW : Lat wx W) => peel_knows G1' q k m K2 T2 Lp2 W (hppx.o1.keep hW) HK2.out
      have hrn := fun W (hW : Lat wx W) => refKnows G2' p k m K2 T2 Lr2 lv' tv' W (hppx.o2.keep hW) HK2.out
      have hwt := fun W (hW : Lat wx W) => peel_waits G1' q k m K2 T2 Lp2 W (hppx.o1.keep hW)
      have hll := hppx.lens.2.2
      rw [hll] at hwt
      obtain ⟨nl, hnl⟩ : ∃ nl, nl = Lr2.length := ⟨_, rfl⟩
      rw [← hnl] at hwt c33
      obtain ⟨KL, hKL⟩ : ∃ KL, KL = knwL K2 k := ⟨_, rfl⟩
      rw [← hKL] at hkn hrn
      obtain ⟨kl, hkl⟩ : ∃ kl, kl = KL.length := ⟨_, rfl⟩
      rw [← hkl] at hkn
      have HKN := Lib.hid hkn; have HRN := Lib.hid hrn; have HWT := Lib.hid hwt; have HC33 := Lib.hid c33; have HPPX := Lib.hid hppx; have HKL := Lib.hid hkl.symm
      clear hkn hrn hwt c33 hppx hll hnl hKL hkl hlv
      have hF : wx.drew.cell? ⟨p, 33, none⟩ = some (.slice la nl lc) := HC33.out
      refine wp_region_gate (fun w' => w'.cell? ⟨p, 33, none⟩ = some (.slice la nl lc)) (fun _ => True) 1000 (by kernel_rfl) ?_
      refine gate_takeF (i := 0) (v := ?_) rfl (by kernel_rfl) (by kernel_rfl) (by kernel_rfl) (fun _ _ _ h => h) (by decide) ⟨hF, fun _ => trivial⟩ (Or.inl ⟨by kernel_rfl, ?_⟩) ?_
      rotate_left
      · intro wq hSw; go_simp; rfl
      simp only [Act.put]
      refine gate_takeF (i := 1) (v := ?_) rfl (by kernel_rfl) (by kernel_rfl) (by kernel_rfl) (fun _ _ _ h => h) (by decide) ⟨hF, fun _ => trivial⟩ (Or.inl ⟨by kernel_rfl, ?_⟩) ?_
      rotate_left
      · intro wq hSw; go_simp; rfl
      simp only [Act.put]
      refine gate_takeF (i := 2) (v := ?_) rfl (by kernel_rfl) (by kernel_rfl) (by kernel_rfl) (fun _ _ _ h => h) (by decide) ⟨hF, fun _ => trivial⟩ (Or.inl ⟨by kernel_rfl, ?_⟩) ?_
      rotate_left
      · intro wq hSw; go_simp; rfl
      simp only [Act.put]
      refine gate_takeF (i := 3) (v := ?_) rfl (by kernel_rfl) (by kernel_rfl) (by kernel_rfl) (fun _ _ _ h => h) (by decide) ⟨hF, fun _ => trivial⟩ (Or.inl ⟨by kernel_rfl, ?_⟩) ?_
      rotate_left
      · intro wq hSw; go_simp; rfl
      simp only [Act.put]
      refine gate_takeF (i := 4) (v := ?_) rfl (by kernel_rfl) (by kernel_rfl) (by kernel_rfl) (fun _ _ _ h => h) (by decide) ⟨hF, fun _ => trivial⟩ (Or.inl ⟨by kernel_rfl, ?_⟩) ?_
      rotate_left
      · intro wq hSw; go_simp; rfl
      simp only [Act.put]
      refine gate_takeF (i := 5) (v := ?_) rfl (by kernel_rfl) (by kernel_rfl) (by kernel_rfl) (fun _ _ _ h => h) (by decide) ⟨hF, fun _ => trivial⟩ (Or.inl ⟨by kernel_rfl, ?_⟩) ?_
      rotate_left
      · intro wq hSw; go_simp; rfl
      simp only [Act.put]
      refine gate_takeF (i := 6) (v := ?_) rfl (by kernel_rfl) (by kernel_rfl) (by kernel_rfl) (fun _ _ _ h => h) (by decide) ⟨hF, fun _ => trivial⟩ (Or.inl ⟨by kernel_rfl, ?_⟩) ?_
      rotate_left
      · intro wq hSw; go_simp; rfl
      simp only [Act.put]
      refine gate_takeF (i := 7) (v := ?_) rfl (by kernel_rfl) (by kernel_rfl) (by kernel_rfl) (fun _ _ _ h => h) (by decide) ⟨hF, fun _ => trivial⟩ (Or.inl ⟨by kernel_rfl, ?_⟩) ?_
      rotate_left
      · intro wq hSw; go_simp; rfl
      simp only [Act.put]
      refine gate_takeF (i := 9) (v := ?_) rfl (by kernel_rfl) (by kernel_rfl) (by kernel_rfl) (fun _ _ _ h => h) (by decide) ⟨hF, fun _ => trivial⟩ (Or.inl ⟨by kernel_rfl, ?_⟩) ?_
      rotate_left
      · intro wq hSw; go_simp; rfl
      simp only [Act.put]
      refine gate_one (i := 8) (by kernel_rfl) rfl (fun KK hK => ?_)
      go_simp
      refine (HKN.out _ (Lat.drew _)).mono ?_
      rintro e w8 ⟨oa, oc, rfl, hoi, hb8⟩
      have HB8 := Lib.hid ((Lat.drew wx).trans hb8); have HO8 := Lib.hid hoi
      replace hF := hb8.cell_at hF
      clear hb8 hoi
      refine hK _ _ ⟨hF, fun _ => trivial⟩ ?_
      clear hK KK
      refine gate_one (i := 10) (by kernel_rfl) rfl (fun KK hK => ?_)
      go_simp
      refine (HRN.out _ HB8.out).mono ?_
      rintro e w10 ⟨ov, rfl, hov, hb10⟩
      obtain ⟨oa2, oc2, rfl, hoi2⟩ := OwnInts.sliceN hov HO8.out.wf HKL.out
      have HB10 := Lib.hid (HB8.out.trans hb10); have HO10 := Lib.hid hoi2; have HO8B := Lib.hid (HO8.out.keep hb10)
      replace hF := hb10.cell_at hF
      clear hb10 hoi2 hov
      refine hK _ _ ⟨hF, fun _ => trivial⟩ ?_
      clear hK KK
      refine gate_one (i := 11) (by kernel_rfl) rfl (fun KK hK => ?_)
      go_simp
      refine (sameInts_yes _ _ _ _ _ _ _ HO8B.out HO10.out).mono ?_
      rintro e w11 ⟨rfl, hb11⟩
      have HB11 := Lib.hid (HB10.out.trans hb11)
      replace hF := hb11.cell_at hF
      clear hb11
      refine hK _ _ ⟨hF, fun _ => trivial⟩ ?_
      clear hK KK
      refine gate_takeF (i := 12) (v := ?_) rfl (by kernel_rfl) (by kernel_rfl) (by kernel_rfl) (fun _ _ _ h => h) (by decide) ⟨hF, fun _ => trivial⟩ (Or.inl ⟨by kernel_rfl, ?_⟩) ?_
      rotate_left
      · intro wq hSw; go_simp; rfl
      simp only [Act.put]
      refine gate_takeF (i := 13) (v := ?_) rfl (by kernel_rfl) (by kernel_rfl) (by kernel_rfl) (fun _ _ _ h => h) (by decide) ⟨hF, fun _ => trivial⟩ (Or.inl ⟨by kernel_rfl, ?_⟩) ?_
      rotate_left
      · intro wq hSw; go_simp; rfl
      simp only [Act.put]
      refine gate_takeF (i := 14) (v := ?_) rfl (by kernel_rfl) (by kernel_rfl) (by kernel_rfl) (fun _ _ _ h => h) (by decide) ⟨hF, fun _ => trivial⟩ (Or.inl ⟨by kernel_rfl, ?_⟩) ?_
      rotate_left
      · intro wq hSw; go_simp; rfl
      simp only [Act.put]
      refine gate_takeF (i := 15) (v := ?_) rfl (by kernel_rfl) (by kernel_rfl) (by kernel_rfl) (fun _ _ _ h => h) (by decide) ⟨hF, fun _ => trivial⟩ (Or.inl ⟨by kernel_rfl, ?_⟩) ?_
      rotate_left
      · intro wq hSw; go_simp; rfl
      simp only [Act.put]
      refine gate_takeF (i := 17) (v := ?_) rfl (by kernel_rfl) (by kernel_rfl) (by kernel_rfl) (fun _ _ _ h => h) (by decide) ⟨hF, fun _ => trivial⟩ (Or.inl ⟨by kernel_rfl, ?_⟩) ?_
      rotate_left
      · intro wq hSw; go_simp; rfl
      simp only [Act.put]
      refine gate_takeF (i := 18) (v := ?_) rfl (by kernel_rfl) (by kernel_rfl) (by kernel_rfl) (fun _ _ _ h => h) (by decide) ⟨hF, fun _ => trivial⟩ (Or.inl ⟨by kernel_rfl, ?_⟩) ?_
      rotate_left
      · intro wq hSw; go_simp; rfl
      simp only [Act.put]
      refine gate_takeF (i := 19) (v := ?_) rfl (by kernel_rfl) (by kernel_rfl) (by kernel_rfl) (fun _ _ _ h => h) (by decide) ⟨hF, fun _ => trivial⟩ (Or.inl ⟨by kernel_rfl, ?_⟩) ?_
      rotate_left
      · intro wq hSw; go_simp; rfl
      simp only [Act.put]
      refine gate_takeF (i := 20) (v := ?_) rfl (by kernel_rfl) (by kernel_rfl) (by kernel_rfl) (fun _ _ _ h => h) (by decide) ⟨hF, fun _ => trivial⟩ (Or.inl ⟨by kernel_rfl, ?_⟩) ?_
      rotate_left
      · intro wq hSw; go_simp; rfl
      simp only [Act.put]
      refine gate_takeF (i := 21) (v := ?_) rfl (by kernel_rfl) (by kernel_rfl) (by kernel_rfl) (fun _ _ _ h => h) (by decide) ⟨hF, fun _ => trivial⟩ (Or.inl ⟨by kernel_rfl, ?_⟩) ?_
      rotate_left
      · intro wq hSw; go_simp; rfl
      simp only [Act.put]
      refine gate_one (i := 16) (by kernel_rfl) rfl (fun KK hK => ?_)
      go_simp
      refine (HWT.out _ HB11.out).mono ?_
      rintro e w16 ⟨rfl, rfl⟩
      skip
      refine hK _ _ ⟨hF, fun _ => trivial⟩ ?_
      clear hK KK
      refine gate_takeF (i := 22) (v := ?_) rfl (by kernel_rfl) (by kernel_rfl) (by kernel_rfl) (fun _ _ _ h => h) (by decide) ⟨hF, fun _ => trivial⟩ (Or.inl ⟨by kernel_rfl, ?_⟩) ?_
      rotate_left
      · intro wq hSw; go_simp; rfl
      simp only [Act.put]
      refine gate_takeF (i := 23) (v := ?_) rfl (by kernel_rfl) (by kernel_rfl) (by kernel_rfl) (fun _ _ _ h => h) (by decide) ⟨hF, fun _ => trivial⟩ (Or.inl ⟨by kernel_rfl, ?_⟩) ?_
      rotate_left
      · intro wq hSw; go_simp; rfl
      simp only [Act.put]
      refine gate_done (by kernel_rfl) ?_ _
      clear hF
      simp only [List.getElem_toArray, List.getElem_cons_succ, List.getElem_cons_zero]
      go_simp
      have HPPE := Lib.hid (HPPX.out.keep HB11.out)
      clear HB8 HO8 HB10 HO10 HO8B HB11 HPPX HKN HRN HWT HC33
      go_wp2_with fail
      go_roundw
      case rel => exact ⟨j + 1, by omega, by omega, by go_num, _, _, _, _, _, _, _, _, HPPE.out⟩
      case measure => simp [intOf]; omega
    · obtain ⟨G1, G2, K, T, Lp, Lr, lv, tv, hpp⟩ := hrel.out
      have HLE := Lib.hid hpp.lat
      clear hrel hpp
      by_cases hlt : j < n
      · have i3 : decide ((j : Int) < 70) = false := decide_eq_false (by omega)
        go_wp2_with fail
        go_ret
        exact ⟨rfl, HLE.out⟩
      · have hjn : decide (j < n) = false := decide_eq_false hlt
        go_wp2_with fail
        go_ret
        exact ⟨rfl, HLE.out⟩
end Go.Proofs.YtcpookgbneoilaaDoor

