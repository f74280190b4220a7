import Derived.Test.YtgcmlpcpkpnfnaaGreatDoorBase
import Derived.LaidEql
import Derived.Stop.Asserts
import Derived.RowKitTokens
import Derived.Test.YtgcmlpcpkpnfnaaGreatDoorOwnC
import Derived.ChangeVars
import Derived.JoinedOf
import Derived.LaidLaws
import Derived.LaidHandle
import Derived.Stop.Joined
import Derived.Test.YtgcmlpcpkpnfnaaGreatDoorTopGuardV
import Derived.Lib.LaidTab
import Derived.Test.YtgcmlpcpkpnfnaaGreatDoorShelfLog
import Derived.Deep.LoopGhost
import Derived.Test.YtgcmlpcpkpnfnaaGreatDoorGuardHeal
import Derived.Test.YtgcmlpcpkpnfnaaGreatDoorBytes
import Derived.Test.YtgcmlpcpkpnfnaaGreatDoorMix
import Derived.Test.YtgcmlpcpkpnfnaaGreatDoorGuardPl2
import Derived.Deep.Light
import Derived.Deep.CutRange
import Derived.Deep.CutBlock
import Derived.Test.YtgcmlpcpkpnfnaaGreatDoorGuardAdd
import Derived.RangeFuncNested
import Derived.RangeFuncBound
import Derived.RangeFuncCalls
import Derived.RangeFuncLeaves
import Derived.Shelf.Abstract
import Derived.Shelf.RegionOpen
import Derived.WalkKit
import Derived.OwnWalkIn
import Derived.TacticsInMore
import Derived.LoopNIn
import Derived.LoopIn
import Derived.ControlIn
import Derived.Test.YtgcmlpcpkpnfnaaGreatDoorShelfIdx
import Derived.Test.YtgcmlpcpkpnfnaaGreatDoorBytePlain
import Derived.Test.YtgcmlpcpkpnfnaaGreatDoorGate
import Derived.Deep.DeepCutAuto
namespace Go.Proofs.YtgcmlpcpkpnfnaaGreatDoor
open Go.RowKit Go.Extern.Stop Go.Stop Go.Extern

def Hnd (w : World) : Prop := w.cell? ⟨1, 0, none⟩ = some (.iface 179 (.agg #[.pointer (some ⟨10, 25, none⟩)]))
theorem Hnd.keep {w w' : World} (h : Hnd w) (hb : Below w.heap.size w w') : Hnd w' := Lat.cell_at hb h

/-! Closed facts on the model's entries for internal/reflectlite: P: *api.Errno, E: api.Errno. -/
theorem valueOfP (t : Addr) (w : World) : (ReflectliteValue.unpack (.iface 118 (.pointer (some t)))).run Tryz.prog w
    = .ok (.agg #[.pointer (some ⟨10, 118, none⟩), .pointer (some ⟨w.heap.size, 0, none⟩), .int .u64 150]) (w.alloc (.cells #[.pointer (some t)] 118)) := by kernel_rfl
theorem typeP (a : Addr) (w : World) : (ReflectliteValue.methodAny (ReflectliteValue.valueError "reflectlite.Value.Type" 0) (fun t _ _ _ => ReflectliteType.toType t) #[.agg #[.pointer (some ⟨10, 118, none⟩), .pointer (some a), .int .u64 150]]).run Tryz.prog w
    = .ok (.iface 179 (.agg #[.pointer (some ⟨10, 118, none⟩)])) w := by kernel_rfl
theorem methodKind (h : Value) (w : World) : (Go.method 370 179 (.agg #[h]) "Kind").run Tryz.prog w = .ok (167, h) w := by kernel_rfl
theorem kindP (w : World) : ((ReflectliteType.abiMethod fun t => (fun a : Nat => Value.int IntKind.u8 (a : Int)) <$> Rtype.kind t) #[.pointer (some ⟨10, 118, none⟩)]).run Tryz.prog w = .ok (.int .u8 22) w := by kernel_rfl
theorem kindE (w : World) : ((ReflectliteType.abiMethod fun t => (fun a : Nat => Value.int IntKind.u8 (a : Int)) <$> Rtype.kind t) #[.pointer (some ⟨10, 59, none⟩)]).run Tryz.prog w = .ok (.int .u8 2) w := by kernel_rfl
theorem rlm (z : Sem Value) (f : TypeId → Addr → Nat → Nat → Sem Value) (v : Value) :
    ReflectliteValue.method z f #[v] = (do match ← ReflectliteValue.parts v with | none => z | some (t, a, fl) => f t a fl (fl % 32)) := rfl
theorem partsP (a : Addr) (w : World) : (ReflectliteValue.parts (.agg #[.pointer (some ⟨10, 118, none⟩), .pointer (some a), .int .u64 150])).run Tryz.prog w = .ok (some (118, a, 150)) w := by kernel_rfl
theorem isNilP (a p : Addr) (W : World) (ha : W.cell? a = some (.pointer (some p))) :
    (ReflectliteValue.method (ReflectliteValue.valueError "reflectlite.Value.IsNil" 0) ReflectliteValue.isNil #[.agg #[.pointer (some ⟨10, 118, none⟩), .pointer (some a), .int .u64 150]]).run Tryz.prog W = .ok (.bool false) W := by
  rw [rlm]
  simp only [Sem.run_bind, partsP, Result.andThen]
  simp [ReflectliteValue.isNil, loadVar, isAgg, underlying, Tryz.underlying118, ha, Result.andThen]
theorem methodElem (h : Value) (w : World) : (Go.method 370 179 (.agg #[h]) "Elem").run Tryz.prog w = .ok (180, .agg #[h]) w := by kernel_rfl
theorem methodImplements (h : Value) (w : World) : (Go.method 370 179 (.agg #[h]) "Implements").run Tryz.prog w = .ok (181, .agg #[h]) w := by kernel_rfl
theorem methodAssignableTo (h : Value) (w : World) : (Go.method 370 179 (.agg #[h]) "AssignableTo").run Tryz.prog w = .ok (178, .agg #[h]) w := by kernel_rfl
theorem elemP (w : World) : (ReflectliteType.method ReflectliteType.elem #[.agg #[.pointer (some ⟨10, 118, none⟩)]]).run Tryz.prog w = .ok (.iface 179 (.agg #[.pointer (some ⟨10, 59, none⟩)])) w := by kernel_rfl
theorem implementsE (w : World) : (ReflectliteType.relation "Implements" ReflectliteType.implements_ #[.agg #[.pointer (some ⟨10, 59, none⟩)], .iface 179 (.agg #[.pointer (some ⟨10, 25, none⟩)])]).run Tryz.prog w = .ok (.bool true) w := by kernel_rfl
theorem typeOfE (v : Value) (w : World) : (ReflectliteType.typeOf #[.iface 59 v]).run Tryz.prog w = .ok (.iface 179 (.agg #[.pointer (some ⟨10, 59, none⟩)])) w := by kernel_rfl
theorem assignableE (w : World) : (ReflectliteType.relation "AssignableTo" ReflectliteType.assignableTo #[.agg #[.pointer (some ⟨10, 59, none⟩)], .iface 179 (.agg #[.pointer (some ⟨10, 59, none⟩)])]).run Tryz.prog w = .ok (.bool true) w := by kernel_rfl
theorem valueOfE (n : Int) (w : World) : (ReflectliteValue.unpack (.iface 59 (.int .i64 n))).run Tryz.prog w
    = .ok (.agg #[.pointer (some ⟨10, 59, none⟩), .pointer (some ⟨w.heap.size, 0, none⟩), .int .u64 130]) (w.alloc (.cells #[.int .i64 n] 59)) := by kernel_rfl
theorem elemOfP (w : World) : (Rtype.elem? 118).run Tryz.prog w = .ok (some 59) w := by kernel_rfl
theorem mkE (p : Addr) (w : World) : (ReflectliteValue.mk 59 p ReflectliteValue.flagAddr).run Tryz.prog w = .ok (.agg #[.pointer (some ⟨10, 59, none⟩), .pointer (some p), .int .u64 386]) w := by kernel_rfl
theorem elemVP (a p : Addr) (W : World) (ha : W.cell? a = some (.pointer (some p))) :
    (ReflectliteValue.method (ReflectliteValue.valueError "reflectlite.Value.Elem" 0) ReflectliteValue.elem #[.agg #[.pointer (some ⟨10, 118, none⟩), .pointer (some a), .int .u64 150]]).run Tryz.prog W
      = .ok (.agg #[.pointer (some ⟨10, 59, none⟩), .pointer (some p), .int .u64 386]) W := by
  rw [rlm]
  simp only [Sem.run_bind, partsP, Result.andThen]
  simp [ReflectliteValue.elem, loadVar, isAgg, underlying, Tryz.underlying118, ha, Result.andThen, elemOfP, mkE]
theorem rls (v x : Value) : ReflectliteValue.set #[v, x] = (do
    let (some (dst, a, fl), some (src, b, _)) := (← ReflectliteValue.parts v, ← ReflectliteValue.parts x)
      | unsupported (.noEntry "extern/(internal/reflectlite.Value).Set.zeroValue")
    if fl / ReflectliteValue.flagAddr % 2 == 0 then unsupported (.noEntry "extern/(internal/reflectlite.Value).Set.unaddressable")
    let val ← loadVar src b
    if ← Rtype.directlyAssignable dst src then storeVar dst a val
    else if ← Rtype.implements dst src then
      if (← Rtype.kind src) == 20 then
        match val with
        | .nilIface => unsupported (.noEntry "extern/reflectlite: a nil value of one interface type handed on as a value of another")
        | _ => storeVar dst a val
      else storeVar dst a (.iface src val)
    else panicString ("reflectlite.Set: value of type " ++ (← Rtype.spelt src) ++ " is not assignable to type " ++ (← Rtype.spelt dst))
    pure (.tuple #[])) := rfl
theorem partsEa (a : Addr) (w : World) : (ReflectliteValue.parts (.agg #[.pointer (some ⟨10, 59, none⟩), .pointer (some a), .int .u64 386])).run Tryz.prog w = .ok (some (59, a, 386)) w := by kernel_rfl
theorem partsE (a : Addr) (w : World) : (ReflectliteValue.parts (.agg #[.pointer (some ⟨10, 59, none⟩), .pointer (some a), .int .u64 130])).run Tryz.prog w = .ok (some (59, a, 130)) w := by kernel_rfl
theorem directE (w : World) : (Rtype.directlyAssignable 59 59).run Tryz.prog w = .ok true w := by kernel_rfl
theorem setE (ta b : Addr) (n : Int) (old : Value) (W : World) (hb : W.cell? b = some (.int .i64 n)) (ht : W.cell? ta = some old) (hf : W.frozen? ta = false) :
    (ReflectliteValue.set #[.agg #[.pointer (some ⟨10, 59, none⟩), .pointer (some ta), .int .u64 386], .agg #[.pointer (some ⟨10, 59, none⟩), .pointer (some b), .int .u64 130]]).run Tryz.prog W
      = .ok (.tuple #[]) (W.setCell ta (.int .i64 n)) := by
  rw [rls]
  simp only [Sem.run_bind, partsEa, partsE, Result.andThen]
  simp [ReflectliteValue.flagAddr, loadVar, isAgg, underlying, Tryz.underlying59, hb, Result.andThen, directE, storeVar, Value.cells, storeCells, Addr.add]
  rw [run_store Tryz.prog W ta _ _ (by rfl)]
  simp [ht, hf]

set_option maxHeartbeats 4000000 in
theorem as_hit (n : Int) (t : Addr) (old : Value) (w : World) (hg : Hnd w) (ht0 : w.cell? t = some old) (hf0 : w.frozen? t = false) :
    Calls Tryz.prog 72 #[eno n, .iface 118 (.pointer (some t))] w fun ev w' => ev = .returned (.bool true) ∧ w' = ((((w.alloc (.cells #[.pointer (some t)] 118)).alloc (.cells #[.pointer (some ⟨10, 118, none⟩), .pointer (some ⟨w.heap.size, 0, none⟩), .int .u64 150] 147)).alloc (.cells #[.pointer (some ⟨10, 118, none⟩), .pointer (some ⟨w.heap.size, 0, none⟩), .int .u64 150] 147)).alloc (.cells #[.int .i64 n] 59)).setCell t (.int .i64 n) := by
  have h6 := @run_callFunc_extern Tryz.prog 91 _ (fun args => ReflectliteValue.unpack (args.getD 0 (.tuple #[]))) Tryz.func91 (by kernel_rfl) (by kernel_rfl) (by kernel_rfl) (by kernel_rfl)
  have h7 := @run_callFunc_extern Tryz.prog 92 _ (ReflectliteValue.methodAny (ReflectliteValue.valueError "reflectlite.Value.Type" 0) (fun t _ _ _ => ReflectliteType.toType t)) Tryz.func92 (by kernel_rfl) (by kernel_rfl) (by kernel_rfl) (by kernel_rfl)
  have h8 := @run_callFunc_extern Tryz.prog 93 _ (ReflectliteValue.method (ReflectliteValue.valueError "reflectlite.Value.IsNil" 0) ReflectliteValue.isNil) Tryz.func93 (by kernel_rfl) (by kernel_rfl) (by kernel_rfl) (by kernel_rfl)
  have h27 := @run_callFunc_extern Tryz.prog 167 _ (ReflectliteType.abiMethod fun t => do pure (.int .u8 (← Rtype.kind t))) Tryz.func167 (by kernel_rfl) (by kernel_rfl) (by kernel_rfl) (by kernel_rfl)
  have h37 := @run_callFunc_extern Tryz.prog 180 _ (ReflectliteType.method ReflectliteType.elem) Tryz.func180 (by kernel_rfl) (by kernel_rfl) (by kernel_rfl) (by kernel_rfl)
  have h38 := @run_callFunc_extern Tryz.prog 181 _ (ReflectliteType.relation "Implements" ReflectliteType.implements_) Tryz.func181 (by kernel_rfl) (by kernel_rfl) (by kernel_rfl) (by kernel_rfl)
  have h10 := @run_callFunc_extern Tryz.prog 117 _ ReflectliteType.typeOf Tryz.func117 (by kernel_rfl) (by kernel_rfl) (by kernel_rfl) (by kernel_rfl)
  have h35 := @run_callFunc_extern Tryz.prog 178 _ (ReflectliteType.relation "AssignableTo" ReflectliteType.assignableTo) Tryz.func178 (by kernel_rfl) (by kernel_rfl) (by kernel_rfl) (by kernel_rfl)
  have h11 := @run_callFunc_extern Tryz.prog 118 _ (ReflectliteValue.method (ReflectliteValue.valueError "reflectlite.Value.Elem" 0) ReflectliteValue.elem) Tryz.func118 (by kernel_rfl) (by kernel_rfl) (by kernel_rfl) (by kernel_rfl)
  have h12 := @run_callFunc_extern Tryz.prog 119 _ ReflectliteValue.set Tryz.func119 (by kernel_rfl) (by kernel_rfl) (by kernel_rfl) (by kernel_rfl)
  have tO := typeOfE
  have mA := methodAssignableTo
  have a25 := assignableE
  have v25 := valueOfE
  have f6 := valueOfP
  have f7 := typeP
  have mK := methodKind
  have mE := methodElem
  have mI := methodImplements
  have k27 := kindP
  have k25 := kindE
  have e27 := elemP
  have i25 := implementsE
  have n8 := isNilP ⟨w.heap.size, 0, none⟩ t ((w.alloc (.cells #[.pointer (some t)] 118)).alloc (.cells #[.pointer (some ⟨10, 118, none⟩), .pointer (some ⟨w.heap.size, 0, none⟩), .int .u64 150] 147)) (by simp)
  have hb2 : Below w.heap.size w ((w.alloc (.cells #[.pointer (some t)] 118)).alloc (.cells #[.pointer (some ⟨10, 118, none⟩), .pointer (some ⟨w.heap.size, 0, none⟩), .int .u64 150] 147)) := Lat.trans (Lat.alloc _ _) (Lat.alloc _ _)
  have hg2 : ((w.alloc (.cells #[.pointer (some t)] 118)).alloc (.cells #[.pointer (some ⟨10, 118, none⟩), .pointer (some ⟨w.heap.size, 0, none⟩), .int .u64 150] 147)).cell? ⟨1, 0, none⟩ = some (.iface 179 (.agg #[.pointer (some ⟨10, 25, none⟩)])) := Lat.cell_at hb2 hg
  have hb4 : Below w.heap.size w ((((w.alloc (.cells #[.pointer (some t)] 118)).alloc (.cells #[.pointer (some ⟨10, 118, none⟩), .pointer (some ⟨w.heap.size, 0, none⟩), .int .u64 150] 147)).alloc (.cells #[.pointer (some ⟨10, 118, none⟩), .pointer (some ⟨w.heap.size, 0, none⟩), .int .u64 150] 147)).alloc (.cells #[.int .i64 n] 59)) := Lat.trans (Lat.trans (Lat.trans (Lat.alloc _ _) (Lat.alloc _ _)) (Lat.alloc _ _)) (Lat.alloc _ _)
  have htl : t.block < w.heap.size := World.block_lt_of_cell? _ _ ht0
  have el := elemVP ⟨w.heap.size, 0, none⟩ t (((w.alloc (.cells #[.pointer (some t)] 118)).alloc (.cells #[.pointer (some ⟨10, 118, none⟩), .pointer (some ⟨w.heap.size, 0, none⟩), .int .u64 150] 147)).alloc (.cells #[.pointer (some ⟨10, 118, none⟩), .pointer (some ⟨w.heap.size, 0, none⟩), .int .u64 150] 147)) (by rw [World.cell?_alloc_lt _ _ ⟨w.heap.size, 0, none⟩ (by simp; omega)]; simp)
  have st := setE t ⟨w.heap.size + 1 + 1 + 1, 0, none⟩ n old ((((w.alloc (.cells #[.pointer (some t)] 118)).alloc (.cells #[.pointer (some ⟨10, 118, none⟩), .pointer (some ⟨w.heap.size, 0, none⟩), .int .u64 150] 147)).alloc (.cells #[.pointer (some ⟨10, 118, none⟩), .pointer (some ⟨w.heap.size, 0, none⟩), .int .u64 150] 147)).alloc (.cells #[.int .i64 n] 59))
    (by rw [World.cell?_alloc_at _ _ _ _ (by simp)]; rfl) (Lat.cell_at hb4 ht0) (by rw [hb4.frozen htl]; exact hf0)
  unfold Hnd at hg
  clear hb2 hb4
  go_enter Tryz.func72, Tryz.ntmps72
  go_wp2
  refine wp_loop_rounds 1 ?_
  rw [rounds_succ]
  go_wp2
  go_ret
  exact ⟨rfl, rfl⟩

theorem told_nil (w : World) : Calls Tryz.prog 41 #[.nilIface] w fun e w' => e = .returned (.int .i64 0) ∧ Lat w w' := by
  go_enter Tryz.func41, Tryz.ntmps41
  go_wp2
  go_ret
  exact ⟨rfl, Lat.refl _⟩
theorem told_eno (n : Int) (w : World) (hg : Hnd w) : Calls Tryz.prog 41 #[eno n] w fun e w' => e = .returned (.int .i64 n) ∧ Lat w w' := by
  have hgA : Hnd (w.alloc (.cells #[.int .i64 0] 59)) := hg.keep (Lat.alloc _ _)
  have H := Lib.hid hgA
  clear hg hgA
  go_enter Tryz.func41, Tryz.ntmps41
  go_wp2_with (go_at_call 72; refine (as_hit n ⟨w.heap.size, 0, none⟩ (.int .i64 0) _ H.out (by simp) (by simp)).mono ?_; rintro e w' ⟨rfl, rfl⟩)
  go_ret
  exact ⟨rfl, Lat.trans (Lat.trans (Lat.trans (Lat.trans (Lat.alloc _ _) (Lat.alloc _ _)) (Lat.alloc _ _)) (Lat.alloc _ _)) (Lat.alloc _ _)⟩
end Go.Proofs.YtgcmlpcpkpnfnaaGreatDoor

namespace Go.Proofs.YtgcmlpcpkpnfnaaGreatDoor
open Go.ChangeShapes Go.WideShapes Go.ChangeAt Go.RowKit

theorem bools_blk {w : World} {b k : Nat} {lk : List Bool} (hb : Blk w b k (fun j => .bool (lk.getD j false))) (hl : lk.length = k) (hk : k ≤ 1000) : BoolsAt w (some ⟨b, 0, none⟩) k k lk :=
  ⟨hl, ⟨Nat.le_refl _, by unfold maxLen; omega, fun _ => ⟨b, 0, rfl, fun j hj => by rw [Nat.zero_add]; exact hb.cell j hj⟩⟩⟩
theorem blk_putB {w : World} {b k i : Nat} {lk : List Bool} (hb : Blk w b k (fun j => .bool (lk.getD j false))) (hl : lk.length = k) (hi : i < k) (t : Bool) : Blk (w.setCell ⟨b, i, none⟩ (.bool t)) b k (fun j => .bool ((lk.set i t).getD j false)) := by
  refine (hb.set hi (.bool t)).congr fun j hj => ?_
  rw [List.getD_eq_getElem?_getD, List.getD_eq_getElem?_getD, List.getElem?_set]
  by_cases e : j = i
  · rw [if_pos e, if_pos e.symm, if_pos (by omega)]; rfl
  · rw [if_neg e, if_neg (fun h => e h.symm)]
theorem blk_falses {w : World} {b k : Nat} (h : Blk w b k (fun _ => .bool false)) : Blk w b k (fun j => .bool ((List.replicate k false).getD j false)) := h.congr fun j hj => by
  rw [List.getD_eq_getElem?_getD, List.getElem?_replicate, if_pos hj]; rfl

end Go.Proofs.YtgcmlpcpkpnfnaaGreatDoor

namespace Go.Proofs.YtgcmlpcpkpnfnaaGreatDoor
open Go.ChangeShapes Go.WideShapes Go.ChangeAt Go.RowKit

theorem own : ownKnob Tryz.prog.godebug = none := by kernel_rfl
theorem laidOut : laidOutB Tryz.prog = true := by kernel_rfl
theorem errType_at : Tryz.prog.globalNamed "errors.errorType" = some 1 := by kernel_rfl
theorem rtype_at : (Tryz.prog.cutTypes.find? (·.1 == "internal/reflectlite.rtype")).map (·.2) = some 179 := by kernel_rfl
theorem oneRow : ((List.range 270).filter fun t => Tryz.prog.rowNamed t [101, 114, 114, 111, 114]) = [25] := by kernel_rfl
theorem types_size : Tryz.prog.types.size = 270 := by kernel_rfl
theorem handle_of_laid {W : World} (h : laidMetH Tryz.prog [("errors.errorType", Rows.laid_errors_errorType)] W) : Hnd W := by
  have h' : laidMet Tryz.prog [] W ∧ handlesMet Tryz.prog [("errors.errorType", Rows.laid_errors_errorType)] W := h
  obtain ⟨name, u, ty, e1, e2, e3, e4, e5⟩ := h'.2 _ (List.mem_singleton.2 rfl)
  have en : name = [101, 114, 114, 111, 114] := (Option.some.inj e1).symm
  subst en
  obtain rfl := Option.some.inj (rtype_at.symm.trans e2)
  have hm : ty ∈ (List.range 270).filter fun t => Tryz.prog.rowNamed t [101, 114, 114, 111, 114] := List.mem_filter.2 ⟨List.mem_range.2 (by rw [← types_size]; exact e3), e4⟩
  rw [oneRow] at hm
  obtain rfl := List.mem_singleton.1 hm
  have hh : typeHandle Tryz.prog 25 = .pointer (some ⟨10, 25, none⟩) := by kernel_rfl
  rw [hh] at e5
  unfold Hnd
  simpa using World.var?_cell errType_at e5 0
noncomputable def laidWorld (os : Os) : World :=
  { World.holding Tryz.prog os ⟨#[], #[], []⟩ with heap := (World.holding Tryz.prog os ⟨#[], #[], []⟩).heap.modify 1 fun
      | .cells _ t frozen => .cells #[.iface 179 (.agg #[.pointer (some ⟨10, 25, none⟩)])] t frozen
      | o => o }
theorem laidWorld_met (os : Os) (args : Array Value) : laidMetH Tryz.prog [("errors.errorType", Rows.laid_errors_errorType)] ((laidWorld os).forCall (fun _ _ => 0) ⟨#[], args, []⟩).memory :=
  laidMetH_of_parts (laidMet_nil _ _) (by kernel_rfl)
end Go.Proofs.YtgcmlpcpkpnfnaaGreatDoor

namespace Go.Proofs.YtgcmlpcpkpnfnaaGreatDoor
open Go.ChangeShapes Go.WideShapes Go.ChangeAt Go.RowKit

def tabs : List (String × DataW Unit) := [("math/bits.deBruijn32tab", Rows.laid_math_bits_deBruijn32tab), ("math/bits.deBruijn64tab", Rows.laid_math_bits_deBruijn64tab), ("internal/strconv.uint64pow10", Rows.laid_internal_strconv_uint64pow10)]
theorem pow_type : (Tryz.prog.globals[4]?).map (·.type) = some 218 := by kernel_rfl
theorem pow_data : (Rows.laid_internal_strconv_uint64pow10 : DataW Unit) = Lib.tabData .u64 Lib.pow10Tab := rfl
theorem pow_of_laid {W : World} (h : laidMet Tryz.prog tabs W) : Pow W := by
  obtain ⟨ps, hv, _⟩ := h
  obtain ⟨_, _, _, _, _, _, _, _, _, _, h2, _⟩ := hv
  obtain ⟨_, _, _, _, _, _, _, _, _, _, h3, _⟩ := h2
  obtain ⟨g, t, cs, fuel, p, q, hg, ht, hvar, hd, _⟩ := h3
  obtain rfl := Option.some.inj (pow_at.symm.trans hg)
  obtain rfl := Option.some.inj (pow_type.symm.trans ht)
  rw [pow_data] at hd
  unfold Pow Lib.TabIs
  rw [hvar, ← Lib.cells_of_tab Tryz.underlying218 Tryz.underlying170 (by kernel_rfl) (by kernel_rfl) hd]
theorem once_of_laid {W : World} (h : laidMetH Tryz.prog [("math/bits.deBruijn32tab", Rows.laid_math_bits_deBruijn32tab), ("math/bits.deBruijn64tab", Rows.laid_math_bits_deBruijn64tab), ("internal/strconv.uint64pow10", Rows.laid_internal_strconv_uint64pow10), ("errors.errorType", Rows.laid_errors_errorType)] W) : Hnd W ∧ Pow W := by
  have h' : laidMet Tryz.prog tabs W ∧ handlesMet Tryz.prog [("errors.errorType", Rows.laid_errors_errorType)] W := h
  exact ⟨handle_of_laid ⟨laidMet_nil _ _, h'.2⟩, pow_of_laid h'.1⟩
def laidInts : DataW Unit → Array Value
  | .agg l => (l.map fun d => match d with | .lit (.int k z) => Value.int k z | _ => undef).toArray
  | _ => #[]
def layTab (d : DataW Unit) : Obj → Obj
  | .cells _ t frozen => .cells (laidInts d) t frozen
  | o => o
noncomputable def laidWorldL (os : Os) : World :=
  { laidWorld os with heap := (((laidWorld os).heap.modify 7 (layTab Rows.laid_math_bits_deBruijn32tab)).modify 8 (layTab Rows.laid_math_bits_deBruijn64tab)).modify 4 (layTab Rows.laid_internal_strconv_uint64pow10) }
theorem laidWorldL_met (os : Os) (args : Array Value) : laidMetH Tryz.prog [("math/bits.deBruijn32tab", Rows.laid_math_bits_deBruijn32tab), ("math/bits.deBruijn64tab", Rows.laid_math_bits_deBruijn64tab), ("internal/strconv.uint64pow10", Rows.laid_internal_strconv_uint64pow10), ("errors.errorType", Rows.laid_errors_errorType)] ((laidWorldL os).forCall (fun _ _ => 0) ⟨#[], args, []⟩).memory :=
  laidMetH_of_parts (laidMet_of_run' (l := tabs) 8 (by kernel_rfl) (by kernel_rfl)) (by kernel_rfl)
end Go.Proofs.YtgcmlpcpkpnfnaaGreatDoor

namespace Go.Proofs.YtgcmlpcpkpnfnaaGreatDoor
open Go.ChangeShapes Go.WideShapes Go.ChangeAt Go.RowKit

section
variable {G : Nat → Prop} {x k m n : Nat} {ds : List Dr} {B : ByteArray} {sf lf : Int} {st : Bool} {w : World}
theorem log_sync_stopped (h : LogO G x k m n ds B sf lf true w) :
    Calls Tryz.prog 9 #[.pointer (some ⟨x, 0, none⟩)] w fun e w' => e = .returned (eno 6) ∧ Lat w w' := by
  obtain ⟨Ge, y, q, K, L, h⟩ := h
  have c7 : w.cell? ⟨x, 7, none⟩ = some (.bool true) := h.blk.cell 7 (by decide)
  clear h
  go_enter Tryz.func9, Tryz.ntmps9
  go_wp2_with fail
  go_ret
  exact ⟨rfl, Lat.refl _⟩
theorem log_sync_stop (h : LogO G x k m n ds B sf 0 false w) :
    Calls Tryz.prog 9 #[.pointer (some ⟨x, 0, none⟩)] w fun e w' => e = .returned (eno 6) ∧ Fr (fun i => i = x) w w' ∧ LogO G x k m n ds B sf (-1) true w' := by
  have hstp := log_step h (by decide) (by decide) (-1) (by decide)
  obtain ⟨Ge, y, q, K, L, h⟩ := h
  have c7 : w.cell? ⟨x, 7, none⟩ = some (.bool false) := h.blk.cell 7 (by decide)
  have HSTP := Lib.hid hstp
  clear h hstp
  go_enter Tryz.func9, Tryz.ntmps9
  go_wp2_with fail
  refine HSTP.out.mono ?_
  rintro e w1 ⟨rfl, hf, ho⟩
  have HF := Lib.hid hf; have HO := Lib.hid ho
  clear hf ho
  go_wp2_with fail
  go_ret
  exact ⟨rfl, HF.out, HO.out⟩
theorem log_sync_ok (h : LogO G x k m n ds B sf lf false w) (h0 : lf ≠ 0) (h1 : -1 ≤ lf) (h2 : lf ≤ 9223372036854775807) (lf' : Int) (hlf : lf' = if lf = -1 then -1 else lf - 1) :
    Calls Tryz.prog 9 #[.pointer (some ⟨x, 0, none⟩)] w fun e w' => e = .returned .nilIface ∧ Fr (fun i => i = x) w w' ∧ LogO G x k m n ds B B.size lf' false w' := by
  have hstp := log_step h h1 h2 lf' hlf
  rw [decide_eq_false h0] at hstp
  obtain ⟨Ge, y, q, K, L, h⟩ := h
  have c7 : w.cell? ⟨x, 7, none⟩ = some (.bool false) := h.blk.cell 7 (by decide)
  have HSTP := Lib.hid hstp
  clear h hstp hlf
  go_enter Tryz.func9, Tryz.ntmps9
  go_wp2_with fail
  refine HSTP.out.mono ?_
  rintro e w1 ⟨rfl, hf, Ge2, y2, q2, K2, L2, h2⟩
  have c4 : w1.cell? ⟨x, 4, none⟩ = some (.string B) := h2.blk.cell 4 (by decide)
  have f5 := h2.blk.free 5 (by decide)
  have c5 : w1.cell? ⟨x, 5, none⟩ = some (.int .i64 sf) := h2.blk.cell 5 (by decide)
  have hB := (h2.set (st' := false) (B' := B) (sf' := B.size) (lf' := lf') 5 (.int .i64 B.size) (by decide) (fun i hi => by
    match i, hi with
    | 0, _ => rfl
    | 1, _ => rfl
    | 2, _ => rfl
    | 3, _ => rfl
    | 4, _ => rfl
    | 5, _ => rfl
    | 6, _ => rfl
    | 7, _ => rfl))
  have hf2 : Fr (fun i => i = x) w (w1.setCell ⟨x, 5, none⟩ (.int .i64 B.size)) := hf.then_set ⟨x, 5, none⟩ _ (.inl rfl)
  have HF := Lib.hid hf2; have HB := Lib.hid hB
  clear hf h2 hB hf2
  go_wp2_with fail
  go_ret
  exact ⟨rfl, HF.out, _, _, _, _, _, HB.out⟩
set_option maxHeartbeats 1000000 in
theorem log_hear_stopped (h : LogO G x k m n ds B sf lf true w) (s : Int) (t : Bts) :
    Calls Tryz.prog 8 #[.pointer (some ⟨x, 0, none⟩), .agg #[.int .i64 s, .string (S t)]] w fun e w' => e = .returned (eno 6) ∧ Lat w w' := by
  obtain ⟨Ge, y, q, K, L, h⟩ := h
  have c7 : w.cell? ⟨x, 7, none⟩ = some (.bool true) := h.blk.cell 7 (by decide)
  have hlt : x < w.heap.size := h.lt x h.gx
  clear h
  go_enter Tryz.func8, Tryz.ntmps8
  go_wp2_with fail
  go_ret
  exact ⟨rfl, Lat.alloc _ _⟩
end
end Go.Proofs.YtgcmlpcpkpnfnaaGreatDoor

namespace Go.Proofs.YtgcmlpcpkpnfnaaGreatDoor
open Go.ChangeShapes Go.WideShapes Go.ChangeAt Go.RowKit

theorem rowOf_unit (f i : Nat) (h : i < f) : rowOf f ((i : Int) + 1) = unit i := by
  unfold rowOf
  have e : ((i : Int) + 1).toNat = i + 1 := by omega
  have e2 : setZ f (i + 1) = [(i : Int)] := by unfold setZ; rw [if_pos (by omega)]; rfl
  rw [e, e2]; exact bits_one i
def seedsOf (l : List Nat) : List Int := l.map fun (i : Nat) => (i : Int) + 1
theorem rows_seedsOf (f : Nat) (l : List Nat) (h : ∀ i ∈ l, i < f) : rowsOf f (seedsOf l) = l.map unit := by
  unfold rowsOf seedsOf
  rw [List.map_map]
  exact List.map_congr_left fun i hi => rowOf_unit f i (h i hi)
theorem rows_app (f : Nat) (zs ys : List Int) : rowsOf f (zs ++ ys) = rowsOf f zs ++ rowsOf f ys := by unfold rowsOf; rw [List.map_append]
theorem rdyE_of {f : Nat} {zs : List Int} (h1 : zs.length ≤ 60) (h2 : 1 ≤ f) (h3 : f ≤ 16) (h4 : ∀ z ∈ zs, 1 ≤ z ∧ z ≤ 10000) : rdyE f zs = 0 := by
  unfold rdyE
  rw [if_neg (by omega), if_neg (by omega), if_neg]
  intro h
  obtain ⟨z, hz, hn⟩ := List.any_eq_true.1 h
  unfold noSeed at hn
  rw [decide_eq_true (h4 z hz)] at hn
  cases hn
theorem seeds_ok {f : Nat} {l : List Nat} (h : ∀ i ∈ l, i < f) (h3 : f ≤ 16) : ∀ z ∈ seedsOf l, 1 ≤ z ∧ z ≤ 10000 := fun z hz => by
  obtain ⟨i, hi, rfl⟩ := List.mem_map.1 hz
  have := h i hi
  omega
theorem both_ok {zs ys : List Int} (h : ∀ z ∈ zs, 1 ≤ z ∧ z ≤ 10000) (h2 : ∀ z ∈ ys, 1 ≤ z ∧ z ≤ 10000) : ∀ z ∈ zs ++ ys, 1 ≤ z ∧ z ≤ 10000 := fun z hz => by
  rcases List.mem_append.1 hz with hz | hz
  · exact h z hz
  · exact h2 z hz
theorem rankR_of {f : Nat} {zs : List Int} (h : rdyE f zs = 0) : rankR f zs = rk f (rowsOf f zs) := by unfold rankR; rw [if_pos h, Int.toNat_natCast]
def fewTo (l : List Nat) (wo : Int) : Nat → List Nat
  | 0 => []
  | j + 1 => if (j : Int) = wo then fewTo l wo j else fewTo l wo j ++ [l.getD j 0]
theorem fewTo_mem (l : List Nat) (wo : Int) : ∀ j, j ≤ l.length → ∀ i ∈ fewTo l wo j, i ∈ l
  | 0, _, i, h => by cases h
  | j + 1, hj, i, h => by
    unfold fewTo at h
    split at h
    · exact fewTo_mem l wo j (by omega) i h
    · rcases List.mem_append.1 h with h | h
      · exact fewTo_mem l wo j (by omega) i h
      · rw [List.mem_singleton.1 h, List.getD_eq_getElem?_getD, List.getElem?_eq_getElem (by omega)]
        exact List.getElem_mem _
theorem fewTo_len (l : List Nat) (wo : Int) : ∀ j, (fewTo l wo j).length = if 0 ≤ wo ∧ wo < (j : Int) then j - 1 else j
  | 0 => by rw [if_neg (by omega)]; rfl
  | j + 1 => by
    have ih := fewTo_len l wo j
    unfold fewTo
    by_cases e : (j : Int) = wo
    · rw [if_pos e, ih, if_neg (by omega), if_pos (by omega)]; omega
    · rw [if_neg e, List.length_append, List.length_singleton, ih]
      by_cases h : 0 ≤ wo ∧ wo < (j : Int)
      · rw [if_pos h, if_pos (by omega)]; omega
      · rw [if_neg h, if_neg (by omega)]
theorem rank_all {f : Nat} {zs : List Int} (h2 : 1 ≤ f) (h3 : f ≤ 16) (h4 : ∀ z ∈ zs, 1 ≤ z ∧ z ≤ 10000) (hl : (zs ++ seedsOf (lackL f (rowsOf f zs) f)).length ≤ 60) : rankR f (zs ++ seedsOf (lackL f (rowsOf f zs) f)) = f ∧ rdyE f (zs ++ seedsOf (lackL f (rowsOf f zs) f)) = 0 := by
  have hlt := lackL_lt f (rowsOf f zs) f
  have he := rdyE_of (f := f) hl h2 h3 (both_ok h4 (seeds_ok hlt h3))
  refine ⟨?_, he⟩
  rw [rankR_of he, rows_app, rows_seedsOf f _ hlt]
  exact rk_filled (by omega) (rowsOf_bare h2 h4)
theorem rank_few {f : Nat} {zs : List Int} (h2 : 1 ≤ f) (h3 : f ≤ 16) (h4 : ∀ z ∈ zs, 1 ≤ z ∧ z ≤ 10000) (wo : Int) (hl : (zs ++ seedsOf (lackL f (rowsOf f zs) f)).length ≤ 60) :
    rdyE f (zs ++ seedsOf (fewTo (lackL f (rowsOf f zs) f) wo (lackL f (rowsOf f zs) f).length)) = 0 ∧
    (0 ≤ wo → wo < ((lackL f (rowsOf f zs) f).length : Int) → rankR f (zs ++ seedsOf (fewTo (lackL f (rowsOf f zs) f) wo (lackL f (rowsOf f zs) f).length)) < f) := by
  have hlt := lackL_lt f (rowsOf f zs) f
  have hmem := fewTo_mem (lackL f (rowsOf f zs) f) wo (lackL f (rowsOf f zs) f).length (Nat.le_refl _)
  have hfl := fewTo_len (lackL f (rowsOf f zs) f) wo (lackL f (rowsOf f zs) f).length
  have hlk := lack_len (k := f) (by omega) (rowsOf_bare h2 h4)
  have hll : (seedsOf (fewTo (lackL f (rowsOf f zs) f) wo (lackL f (rowsOf f zs) f).length)).length ≤ (lackL f (rowsOf f zs) f).length := by
    unfold seedsOf
    rw [List.length_map, hfl]; split <;> omega
  have hl1 : (seedsOf (lackL f (rowsOf f zs) f)).length = (lackL f (rowsOf f zs) f).length := List.length_map _
  rw [List.length_append, hl1] at hl
  have he := rdyE_of (f := f) (zs := zs ++ seedsOf (fewTo (lackL f (rowsOf f zs) f) wo (lackL f (rowsOf f zs) f).length)) (by rw [List.length_append]; omega) h2 h3 (both_ok h4 (seeds_ok (fun i hi => hlt i (hmem i hi)) h3))
  refine ⟨he, fun a b => ?_⟩
  rw [rankR_of he, rows_app, rows_seedsOf f _ (fun i hi => hlt i (hmem i hi))]
  have hb := (rowsOf_bare (k := f) h2 h4).append (bare_units (k := f) (fewTo (lackL f (rowsOf f zs) f) wo (lackL f (rowsOf f zs) f).length) (fun i hi => hlt i (hmem i hi)))
  have h5 := (rk_append (k := f) (by omega) _ _ rfl hb).2
  rw [List.length_map, hfl, if_pos ⟨a, by omega⟩] at h5
  omega
theorem first_full {f : Nat} {zs : List Int} (h1 : zs.length ≤ 60) (h2 : 1 ≤ f) (h3 : f ≤ 16) (h4 : ∀ z ∈ zs, 1 ≤ z ∧ z ≤ 10000) (hr : rk f (rowsOf f zs) = f) :
    ∃ F, firstR f zs = F ∧ firstE f zs = 0 ∧ f ≤ F ∧ F ≤ zs.length ∧ rankR f (zs.take F) = f ∧ rdyE f (zs.take F) = 0 ∧ rankR f (zs.take (F - 1)) < f ∧ rdyE f (zs.take (F - 1)) = 0 := by
  have he := rdyE_of h1 h2 h3 h4
  have hb := rowsOf_bare (k := f) h2 h4
  have hne := (fst_iff (by omega) h2 hb).2 hr
  obtain ⟨a1, a2, a3, a4⟩ := fstA_ne _ _ hne
  have hF : fstA f (rowsOf f zs) (rowsOf f zs).length 0 = fstN f (rowsOf f zs) := rfl
  rw [hF] at a1 a2 a3 a4
  rw [rowsOf_len] at a3
  have htk : ∀ j, rdyE f (zs.take j) = 0 := fun j => rdyE_of (by rw [List.length_take]; omega) h2 h3 fun z hz => h4 z (List.mem_of_mem_take hz)
  have hrt : ∀ j, rankR f (zs.take j) = rk f ((rowsOf f zs).take j) := fun j => by
    rw [rankR_of (htk j)]; unfold rowsOf; rw [List.map_take]
  refine ⟨fstN f (rowsOf f zs), by unfold firstR; rw [if_pos he, Int.toNat_natCast], by unfold firstE; rw [if_neg (by omega), Int.toNat_natCast, if_neg hne], ?_, by omega, by rw [hrt]; exact a1, htk _, ?_, htk _⟩
  · have := rk_len (k := f) (by omega) (hb.take (fstN f (rowsOf f zs)))
    rw [a1, List.length_take] at this
    omega
  · rw [hrt]
    have hle := rk_le f ((rowsOf f zs).take (fstN f (rowsOf f zs) - 1))
    by_cases e : fstN f (rowsOf f zs) = 1
    · rw [e]
      show rk f ((rowsOf f zs).take 0) < f
      rw [List.take_zero, rk_nil]; omega
    · have := a4 (fstN f (rowsOf f zs) - 2) (by omega) (by omega)
      rw [show fstN f (rowsOf f zs) - 2 + 1 = fstN f (rowsOf f zs) - 1 by omega] at this
      omega
theorem first_none {f : Nat} {zs : List Int} (h1 : zs.length ≤ 60) (h2 : 1 ≤ f) (h3 : f ≤ 16) (h4 : ∀ z ∈ zs, 1 ≤ z ∧ z ≤ 10000) (hr : rk f (rowsOf f zs) ≠ f) : firstR f zs = 0 ∧ firstE f zs = 8 := by
  have he := rdyE_of h1 h2 h3 h4
  have hz : fstN f (rowsOf f zs) = 0 := by
    by_cases e : fstN f (rowsOf f zs) = 0
    · exact e
    · exact absurd ((fst_iff (by omega) h2 (rowsOf_bare h2 h4)).1 e) hr
  constructor
  · unfold firstR; rw [if_pos he, Int.toNat_natCast, hz]
  · unfold firstE; rw [if_neg (by omega), Int.toNat_natCast, if_pos hz]
theorem ofNats_len (l : List Nat) : (ofNats l).length = l.length := List.length_map _
theorem ofNats_getD (l : List Nat) (j : Nat) (h : j < l.length) : (ofNats l).getD j 0 = (l.getD j 0 : Int) := by
  unfold ofNats
  rw [List.getD_eq_getElem?_getD, List.getElem?_map, List.getD_eq_getElem?_getD, List.getElem?_eq_getElem h]; rfl
theorem seedsOf_snoc (l : List Nat) (i : Nat) : seedsOf (l ++ [i]) = seedsOf l ++ [(i : Int) + 1] := by unfold seedsOf; rw [List.map_append]; rfl
end Go.Proofs.YtgcmlpcpkpnfnaaGreatDoor

namespace Go.Proofs.YtgcmlpcpkpnfnaaGreatDoor
open Go.ChangeShapes Go.WideShapes Go.ChangeAt Go.RowKit

structure HD (G : Nat → Prop) (x k m n : Nat) (ss : List ByteArray) (ds : List Dr) (w : World) : Prop where
  ear : ∃ q K L, EarO G x k m n q K L ds w
  made : MadeOf ss ds
section
variable {G G' H : Nat → Prop} {x k m n B : Nat} {ss : List ByteArray} {ds ds' : List Dr} {w w0 w' : World} {v v' : Value} {zs : List Int} {z : Int}
theorem HD.fr (h : HD G x k m n ss ds w) (hf : Fr H w w') (hd : ∀ i, G i → ¬ H i) : HD G x k m n ss ds w' := by
  obtain ⟨q, K, L, he⟩ := h.ear
  exact ⟨⟨q, K, L, he.fr hf hd⟩, h.made⟩
theorem HD.keep (h : HD G x k m n ss ds w) (hb : Lat w w') : HD G x k m n ss ds w' := h.fr (H := fun _ => False) (Fr.lat hb) (fun _ _ e => e)
theorem HD.lt (h : HD G x k m n ss ds w) : ∀ i, G i → i < w.heap.size := by
  obtain ⟨q, K, L, he⟩ := h.ear
  exact he.lt
theorem HD.ready (h : HD G x k m n ss ds w) (h1 : 1 ≤ k) (h2 : k ≤ 16) : rdyE k (ds.map Dr.s) = 0 := by
  obtain ⟨q, K, L, Gp, p, a, cap, he⟩ := h.ear
  exact he.ready h1 h2
theorem HD.hear (h : HD G x k m n ss ds w) (hk : ss.length = k) (hm : szAt ss 0 = m) (s : Int) (hE : dmkE ss s = 0) (t : Bts) (ht : dmkD ss s = S t) (hl : ds.length < 60) :
    Calls Tryz.prog 19 #[.pointer (some ⟨x, 0, none⟩), .agg #[.int .i64 s, .string (S t)]] w fun e w' => ∃ (qn : Int) (r : Nat) (G' : Nat → Prop), r ≤ k ∧ e = .returned (.tuple #[.agg #[.int .i64 qn, .int .i64 ((hds ds ⟨s, S t⟩).length : Nat), .int .i64 r], .nilIface]) ∧ HD G' x k m n ss (hds ds ⟨s, S t⟩) w' ∧ Fr G w w' ∧ (∀ i, G' i → G i ∨ w.heap.size ≤ i) := by
  obtain ⟨q, K, L, he⟩ := h.ear
  obtain ⟨hc, h1, h2, _, _, hsz⟩ := made_sum hE
  have ho := chk_ok hc
  have hd : drpE k m s (S t) = 0 := drpE_ok (by have := ho.pos; omega) (by have := ho.most; omega) (by have := ho.one; omega) (by have := ho.eight; omega) h1 h2 (by rw [← ht, hsz, hm])
  refine (ear_hear_any G x k m n q K L ds s t w he hd hl _ rfl).mono ?_
  rintro e w' ⟨r, K', L', hr, rfl, hst⟩
  obtain ⟨G', ho', hG'⟩ := hst.obj
  exact ⟨_, r, G', hr, rfl, ⟨⟨_, K', L', ho'⟩, hds_made h.made ⟨hE, ht.symm⟩⟩, hst.fr, hG'⟩
theorem Own.frG {e : TypeId} {xs : List Value} (h : Own w B e v xs) (hf : Fr H w w') (hn : ∀ k, v.ownBlock = some k → ¬ H k) : Own w' B e v xs := by
  have hlt := Own.lt h
  obtain ⟨h1, h2⟩ := h
  refine ⟨h1, ?_⟩
  rcases h2 with h2 | ⟨g, cap, cur, rfl, hg, hh, rest⟩
  · exact .inl h2
  · exact .inr ⟨g, cap, cur, rfl, hg, by rw [hf.block g (hlt g rfl).2 (hn g rfl)]; exact hh, rest⟩
structure EH (x k m n : Nat) (ss : List ByteArray) (ds : List Dr) (zs : List Int) (G : Nat → Prop) (v : Value) (w0 w : World) : Prop where
  hd : HD G x k m n ss ds w
  lo : ∀ i, G i → w0.heap.size ≤ i
  own : OwnInts w w0.heap.size v zs
  off : ∀ i, v.ownBlock = some i → ¬ G i
  lat : Lat w0 w
theorem EH.keep (h : EH x k m n ss ds zs G v w0 w) (hb : Lat w w') : EH x k m n ss ds zs G v w0 w' := ⟨h.hd.keep hb, h.lo, Own.keep h.own hb, h.off, h.lat.trans hb⟩
theorem EH.hear (h : EH x k m n ss ds zs G v w0 w) (hd' : HD G' x k m n ss ds' w') (hf : Fr G w w') (hG' : ∀ i, G' i → G i ∨ w.heap.size ≤ i) : EH x k m n ss ds' zs G' v w0 w' :=
  ⟨hd', fun i hi => (hG' i hi).elim (h.lo i) (fun e => Nat.le_trans h.lat.size e), Own.frG h.own hf h.off, fun i hi e => (hG' i e).elim (h.off i hi) (fun e2 => by have := (Own.lt h.own i hi).2; omega), hf.lat_of h.lat h.lo⟩
theorem made_wf {ss : List ByteArray} {ds : List Dr} (h : MadeOf ss ds) : ∀ y ∈ ds.map Dr.s, 1 ≤ y ∧ y ≤ 10000 := fun y hy => by
  obtain ⟨d, hd, rfl⟩ := List.mem_map.1 hy
  have := made_sum (h d hd).1
  omega
theorem EH.ints {na : Option Addr} {nn nc : Nat} (h : EH x k m n ss ds zs G (.slice na nn nc) w0 w) (hwf : ∀ y ∈ zs, -9223372036854775808 ≤ y ∧ y ≤ 9223372036854775807) (hl : zs.length = nn) : IntsAt w na nn nc zs := by
  obtain ⟨a, cap, e, hi⟩ := OwnInts.sliceN h.own hwf hl
  injection e with e1 _ e3
  subst e1; subst e3
  exact hi
theorem EH.more (h : EH x k m n ss ds zs G v w0 w) (ho : OwnInts w' w0.heap.size v' (zs ++ [z])) (hf : Fr (fun i => v.ownBlock = some i) w w') (hl : ∀ i, v'.ownBlock = some i → v.ownBlock = some i ∨ w.heap.size ≤ i) : EH x k m n ss ds (zs ++ [z]) G v' w0 w' :=
  ⟨h.hd.fr hf (fun i hi e => h.off i e hi), h.lo, ho, fun i hi e => (hl i hi).elim (fun e2 => h.off i e2 e) (fun e2 => by have := h.hd.lt i e; omega), hf.lat_of h.lat (fun i hi => (Own.lt h.own i hi).1)⟩
end

theorem spl_q : spE (S [113]).size 2 = 0 ∧ (spl (S [113]) 2).length = 1 ∧ bl (spl (S [113]) 2) 0 = [113, 0] := by
  have h : spE (S [113]).size 2 = 0 := by decide
  refine ⟨h, ?_, ?_⟩
  · rw [spl_len (spE_ok h) h]; rfl
  · rw [spl_ok (spE_ok h) h]; rfl
theorem made_q : MadeOf (spl (S [113]) 2) [⟨1, S [113, 0]⟩] := fun d hd => by
  obtain ⟨h1, h2, h3⟩ := spl_q
  rw [List.mem_singleton.1 hd]
  have := made_unit (chk_spl h1) (i := 0) (by rw [h2]; decide)
  refine ⟨this.1, ?_⟩
  have e := this.2.2
  rw [h3] at e
  exact e.symm
theorem q_data : dtE 1 1 [⟨1, S [113, 0]⟩] = 0 ∧ dtS 1 1 [⟨1, S [113, 0]⟩] = S [113] ∧ dneB 1 [⟨1, S [113, 0]⟩] = true := by
  obtain ⟨h1, h2, h3⟩ := spl_q
  have hr : rankR ((1 : Nat) : Int) [1] = 1 := rk_one (by decide) (by decide) (by decide) (by decide)
  have := made_data h1 made_q (by rw [h2]; exact rdy_one)
  rw [h2] at this
  have := this.1 hr
  exact ⟨this.1, this.2, by unfold dneB; exact decide_eq_true hr⟩
theorem q_len : slvC 1 (rowsD 1 [⟨1, S [113, 0]⟩]) 1 0 = false → rnkT (tabT 1 (rowsD 1 [⟨1, S [113, 0]⟩])) 1 = 1 → ∀ j, j < 1 → (outF (tabT 1 (rowsD 1 [⟨1, S [113, 0]⟩])) 1 1 j).length ≤ maxLen := by
  obtain ⟨h1, h2, h3⟩ := spl_q
  have := (made_data h1 made_q (by rw [h2]; exact rdy_one)).2.2
  rw [h2] at this
  exact this
theorem q_knows : (knwL (lrnK 1 (fun _ => none) ([] ++ [(setZ 1 1, [113, 0])])) 1).length = 1 := by
  rw [show setZ 1 1 = [((0 : Nat) : Int)] from setZ_unit (by decide)]; rfl
theorem q_hear (G : Nat → Prop) (x : Nat) (w : World) (h : EarO G x 1 2 1 0 (fun _ => none) [] [] w) :
    Calls Tryz.prog 19 #[.pointer (some ⟨x, 0, none⟩), .agg #[.int .i64 1, .string { data := #[113, 0] }]] w fun e w' => ∃ (K' : Kn) (L' : List Wt), e = .returned (.tuple #[.agg #[.int .i64 1, .int .i64 1, .int .i64 1], .nilIface]) ∧ EarStep G x 1 2 1 1 K' L' [⟨1, S [113, 0]⟩] w w' := by
  have hE : hrE 1 2 [] 1 [113, 0] = 0 := by
    unfold hrE
    rw [if_neg (fun e => e (drpE_ok (by decide) (by decide) (by decide) (by decide) (by decide) (by decide) rfl)), if_neg (by simp)]
  refine (ear_hear_new G x 1 2 1 0 (fun _ => none) [] [] 1 [113, 0] w h hE (by simp) 1 (by unfold wrap64; omega)).mono ?_
  rintro e w' ⟨rfl, hst⟩
  refine ⟨_, _, ?_, hst⟩
  rw [show (1 : Int).toNat = 1 from rfl, q_knows]; rfl

theorem lack_end {k : Nat} {zs : List Int} (hr : rdyE k zs = 0) : (∀ b ∈ lackR k zs, 0 ≤ b ∧ b < (k : Int)) ∧ (lackR k zs).length + rankR k zs = k := by
  obtain ⟨-, h1, h2, h3⟩ := rdyE_zero hr
  have hb := rowsOf_bare (k := k) (by omega) h3
  have hl := lack_len (k := k) (by omega) hb
  have e : lackR k zs = ofNats (lackL k (rowsOf k zs) k) := by unfold lackR; rw [if_pos hr, Int.toNat_natCast]
  rw [e, rankR_of hr, ofNats_len]
  refine ⟨fun b hb => ?_, hl⟩
  unfold ofNats at hb
  obtain ⟨i, hi, rfl⟩ := List.mem_map.1 hb
  have := lackL_lt k (rowsOf k zs) k i hi
  show 0 ≤ (i : Int) ∧ (i : Int) < (k : Int)
  omega
theorem lack_all {k : Nat} {zs ys : List Int} (hr : rdyE k zs = 0) (h44 : zs.length ≤ 40) (hy : rdyE k ys = 0) (h : ∀ z, z ∈ ys ↔ z ∈ zs ∨ z ∈ (lackR k zs).map (· + 1)) : rankR k ys = k := by
  obtain ⟨-, h1, h2, h3⟩ := rdyE_zero hr
  have hb := rowsOf_bare (k := k) (by omega) h3
  have hl := lack_len (k := k) (by omega) hb
  have e : lackR k zs = ofNats (lackL k (rowsOf k zs) k) := by unfold lackR; rw [if_pos hr, Int.toNat_natCast]
  have h2' := rank_all (f := k) (zs := zs) (by omega) (by omega) h3 (by rw [List.length_append]; unfold seedsOf; rw [List.length_map]; omega)
  rw [rankR_mem hy h2'.2 (fun z => ?_)]
  · exact h2'.1
  · rw [h z, List.mem_append, e]
    have e2 : (ofNats (lackL k (rowsOf k zs) k)).map (· + 1) = seedsOf (lackL k (rowsOf k zs) k) := by
      unfold ofNats seedsOf
      rw [List.map_map]; rfl
    rw [e2]
end Go.Proofs.YtgcmlpcpkpnfnaaGreatDoor

namespace Go.Proofs.YtgcmlpcpkpnfnaaGreatDoor
open Go.ChangeShapes Go.WideShapes Go.ChangeAt Go.RowKit

def SpTab (w : World) : Prop := Lib.TabIs Tryz.prog w "strings.asciiSpace" .u8 Lib.asciiSpaceTab
theorem sp_at : Tryz.prog.globalNamed "strings.asciiSpace" = some 2 := by kernel_rfl
theorem SpTab.keep {w w' : World} (h : SpTab w) (hb : Lat w w') : SpTab w' := var_lat sp_at h hb
theorem bytesW_lat (w : World) (e : TypeId) (s : ByteArray) : Lat w (Lib.bytesWorld w e s) :=
  ⟨rfl, rfl, rfl, by rw [Lib.bytesWorld_size]; omega, fun k hk => Lib.bytesWorld_at_old w e s k hk⟩
theorem app_u8L (wr : World) (B : Nat) {ops : Array Oper} {rest : List Oper} {o : Oper} {a : Act} {Q : Exit → Act → World → Prop}
    (hg : o.guard = none) (s x : Operand) (ho : o.op = .call { callee := .builtin .append, args := #[s, x], argTypes := #[100, 100] })
    (v : Value) (bs : List UInt8) (z : UInt8) (zn : Nat) (hzn : zn = z.toNat) (hs : a.eval s = v) (hown : OwnBytes wr B v bs) (hx : a.eval x = .slice (some ⟨wr.heap.size, 0, none⟩) 1 1)
    (hn : bs.length < 1000000) (hB : B ≤ wr.heap.size)
    (K : ∀ v' w', OwnBytes w' B v' (bs ++ [z]) → Fr (fun j => v.ownBlock = some j) wr w' → (∀ i, v'.ownBlock = some i → v.ownBlock = some i ∨ wr.heap.size ≤ i) → wpList Tryz.prog ops Q rest (a.put o.dst v') w') :
    wpList Tryz.prog ops Q (o :: rest) a (wr.alloc (.cells #[.int .u8 zn] 5)) := by
  subst hzn
  have hal : OwnBytes (wr.alloc (.cells #[.int .u8 z.toNat] 5)) B v bs := Own.alloc hown _
  have hrow1 : RowAt (wr.alloc (.cells #[.int .u8 z.toNat] 5)) (some ⟨wr.heap.size, 0, none⟩) 1 1 (fun j => [Value.int .u8 z.toNat].getD j undef) := by
    refine ⟨Nat.le_refl _, by unfold maxLen; omega, fun _ => ⟨wr.heap.size, 0, rfl, fun j hj => ?_⟩⟩
    obtain rfl : j = 0 := by omega
    simp
  obtain ⟨v', w', hrun, h2, h3, h4⟩ := run_app_many (P := Tryz.prog) (wr.alloc (.cells #[.int .u8 z.toNat] 5)) B 100 o.type 5 (.int .u8 0) 1 Tryz.underlying100 info_u8 rfl (by decide) v _ hal (some ⟨wr.heap.size, 0, none⟩) 1 1 [.int .u8 z.toNat] rfl
    hrow1 (fun u hu => by rw [List.mem_singleton.1 hu]; rfl) (by rw [List.length_map]; omega) (by simp; omega)
  refine wpList_plain hg fun K' hK => ?_
  unfold Oper.wp execOp
  simp only [ho, resolve, invoke, builtin, Sem.run_bind, Sem.run_pure, Result.andThen_ok, List.map_toArray, List.map_cons, List.map_nil, hs, hx, hrun]
  refine hK _ _ (K v' w' (by simpa [OwnBytes] using h2) ⟨h3.os, h3.tape, h3.output, ?_, fun k hk hne => ?_⟩ (fun i hi => ?_))
  · have := h3.size; simp at this; omega
  · rw [h3.block k (by simp; omega) (fun e => hne e.symm)]; exact heap_alloc_old wr _ hk
  · rcases h4 with h | h
    · exact .inl (by rw [← h]; exact hi)
    · rw [h] at hi
      injection hi with hi
      exact .inr (by rw [← hi]; simp)

theorem cell_newL {w : World} {cs : Array Value} {t : TypeId} {j : Nat} {v : Value} (hv : cs[j]? = some v) : (w.alloc (.cells cs t)).cell? ⟨w.heap.size, j, none⟩ = some v := by simp [hv]
structure RD (w : World) (R O F n : Nat) (s : Int) (ws : List ByteArray) (t : Bts) (j : Nat) (v : Value) (wx : World) : Prop where
  lat : Lat w wx
  lo : w.heap.size ≤ R ∧ R < O ∧ O < F ∧ F < wx.heap.size
  r0 : wx.cell? ⟨R, 0, none⟩ = some (.int .i64 0)
  r1 : wx.cell? ⟨R, 1, none⟩ = some (.string { data := #[] })
  g0 : wx.frozen? ⟨R, 0, none⟩ = false
  g1 : wx.frozen? ⟨R, 1, none⟩ = false
  o0 : wx.cell? ⟨O, 0, none⟩ = some (.int .i64 (if j = 0 then 0 else s))
  o1 : wx.cell? ⟨O, 1, none⟩ = some (.string { data := #[] })
  h0 : wx.frozen? ⟨O, 0, none⟩ = false
  h1 : wx.frozen? ⟨O, 1, none⟩ = false
  f : ∀ i, i < n + 1 → wx.cell? ⟨F, i, none⟩ = some (.string (ws.getD i ByteArray.empty))
  own : OwnBytes wx (F + 1) v (t.take (j - 1))
theorem RD.fr {w : World} {R O F n : Nat} {s : Int} {ws : List ByteArray} {t : Bts} {j : Nat} {v v' : Value} {wx w' : World} {H : Nat → Prop} (h : RD w R O F n s ws t j v wx) (hf : Fr H wx w') (hH : ∀ i, H i → F < i) (ho : OwnBytes w' (F + 1) v' (t.take (j - 1))) : RD w R O F n s ws t j v' w' := by
  obtain ⟨l1, l2, l3, l4⟩ := h.lo
  have nR : ¬ H R := fun e => by have := hH R e; omega
  have nO : ¬ H O := fun e => by have := hH O e; omega
  have nF : ¬ H F := fun e => by have := hH F e; omega
  exact ⟨hf.lat_of h.lat (fun i hi => by have := hH i hi; omega), ⟨l1, l2, l3, Nat.lt_of_lt_of_le l4 hf.size⟩, hf.cell_at h.r0 nR, hf.cell_at h.r1 nR, hf.free_at (by show R < _; omega) h.g0 nR, hf.free_at (by show R < _; omega) h.g1 nR,
    hf.cell_at h.o0 nO, hf.cell_at h.o1 nO, hf.free_at (by show O < _; omega) h.h0 nO, hf.free_at (by show O < _; omega) h.h1 nO, fun i hi => hf.cell_at (h.f i hi) nF, ho⟩
theorem RD.keep {w : World} {R O F n : Nat} {s : Int} {ws : List ByteArray} {t : Bts} {j : Nat} {v : Value} {wx w' : World} (h : RD w R O F n s ws t j v wx) (hb : Lat wx w') : RD w R O F n s ws t j v w' := h.fr (H := fun _ => False) (Fr.lat hb) (fun _ e => e.elim) (Own.keep h.own hb)
theorem RD.byte {w : World} {R O F n : Nat} {s : Int} {ws : List ByteArray} {t : Bts} {j : Nat} {v v' : Value} {wx w' : World} {H : Nat → Prop} (h : RD w R O F n s ws t (j + 1) v wx) (hf : Fr H wx w') (hH : ∀ i, H i → F < i) (ho : OwnBytes w' (F + 1) v' (t.take (j + 1))) : RD w R O F n s ws t (j + 1 + 1) v' w' := by
  obtain ⟨l1, l2, l3, l4⟩ := h.lo
  have nR : ¬ H R := fun e => by have := hH R e; omega
  have nO : ¬ H O := fun e => by have := hH O e; omega
  have nF : ¬ H F := fun e => by have := hH F e; omega
  have o0 := h.o0
  rw [if_neg (by omega)] at o0
  exact ⟨hf.lat_of h.lat (fun i hi => by have := hH i hi; omega), ⟨l1, l2, l3, Nat.lt_of_lt_of_le l4 hf.size⟩, hf.cell_at h.r0 nR, hf.cell_at h.r1 nR, hf.free_at (by show R < _; omega) h.g0 nR, hf.free_at (by show R < _; omega) h.g1 nR,
    by rw [if_neg (by omega)]; exact hf.cell_at o0 nO, hf.cell_at h.o1 nO, hf.free_at (by show O < _; omega) h.h0 nO, hf.free_at (by show O < _; omega) h.h1 nO, fun i hi => hf.cell_at (h.f i hi) nF, ho⟩
theorem RD.seed {w : World} {R O F n : Nat} {s : Int} {ws : List ByteArray} {t : Bts} {v : Value} {wx : World} (h : RD w R O F n s ws t 0 v wx) : RD w R O F n s ws t 1 v (wx.setCell ⟨O, 0, none⟩ (.int .i64 s)) := by
  obtain ⟨l1, l2, l3, l4⟩ := h.lo
  have hf : Fr (fun i => i = O) wx (wx.setCell ⟨O, 0, none⟩ (.int .i64 s)) := Fr.set (S := fun i => i = O) wx ⟨O, 0, none⟩ (.int .i64 s) rfl
  have nR : ¬ R = O := by omega
  have nF : ¬ F = O := by omega
  have ho : OwnBytes (wx.setCell ⟨O, 0, none⟩ (.int .i64 s)) (F + 1) v (t.take 0) := Own.frG h.own hf (fun k hk e => by have := (Own.lt h.own k hk).1; omega)
  exact ⟨hf.lat_of h.lat (fun i hi => by have hi' : i = O := hi; omega), ⟨l1, l2, l3, Nat.lt_of_lt_of_le l4 hf.size⟩, hf.cell_at h.r0 nR, hf.cell_at h.r1 nR, by rw [World.frozen?_setCell]; exact h.g0, by rw [World.frozen?_setCell]; exact h.g1,
    by rw [if_neg (by decide)]; exact World.cell?_setCell_same _ _ _ h.o0, by rw [World.cell?_setCell_other _ _ _ _ (by simp)]; exact h.o1, by rw [World.frozen?_setCell]; exact h.h0, by rw [World.frozen?_setCell]; exact h.h1, fun i hi => hf.cell_at (h.f i hi) nF, ho⟩

set_option maxHeartbeats 4000000 in
set_option maxRecDepth 100000 in
theorem read_any (s : Nat) (t : Bts) (w : World) (hp : SpTab w) (hs : s ≤ 10000) (ht : t.length ≤ 8) :
    Calls Tryz.prog 67 #[.string (S (recB (s : Int) t))] w fun e w' => e = .returned (.tuple #[dropV s (S t), .nilIface]) ∧ Lat w w' := by
  obtain ⟨X, hX⟩ : ∃ X, X = S (recB (s : Int) t) := ⟨_, rfl⟩
  have hfl : Lib.fields X.data.toList = recW (s : Int) t := by rw [hX]; exact rec_fields s t
  have hXs : X.size ≤ 55 := by rw [hX, S_size]; exact rec_short hs ht
  have hasc : ∀ (j : Nat) b, X.data.toList[j]? = some b → b.toNat < 128 := fun j b hb => by
    rw [hX] at hb
    have hm := List.mem_of_getElem? hb
    unfold S recB at hm
    rcases List.mem_append.1 hm with h | h
    · exact (rec_body s t b h).2
    · rw [List.mem_singleton.1 h]; decide
  obtain ⟨n, hn⟩ : ∃ n, n = t.length := ⟨_, rfl⟩
  have hwl : (recW (s : Int) t).length = n + 1 := by unfold recW; rw [List.length_cons, List.length_map, hn]
  have hfd := fun W (hW : Lat w W) => Tryz.strings_Fields X W (by omega) hasc (hp.keep hW)
  rw [hfl, hwl] at hfd
  obtain ⟨ws, hws⟩ : ∃ ws, ws = recS s t := ⟨_, rfl⟩
  have hwsl : ws.length = n + 1 := by rw [hws, recS_len, hn]
  have hwa : ((recW (s : Int) t).map fun l => Value.string ⟨l.toArray⟩).toArray = (ws.map Value.string).toArray := by rw [hws]; unfold recS; rw [List.map_map]; rfl
  rw [hwa] at hfd
  have hat0 : ∀ W, Calls Tryz.prog 87 #[.string (ws.getD 0 ByteArray.empty)] W fun e w' => e = .returned (.tuple #[.int .i64 s, .nilIface]) ∧ Lat W w' := fun W => by
    have e : ws.getD 0 ByteArray.empty = S (Lib.itoa (s : Int)) := by rw [hws]; rfl
    rw [e]
    refine (Tryz.strconv_Atoi _ s (by rw [S_size, itoa_nat]; have := digits_short (m := 4) (u := s) (by omega); omega) (atoi_itoa s) W).mono ?_
    rintro e w' ⟨rfl, b, rfl⟩
    exact ⟨rfl, bytesW_lat _ _ _⟩
  have hat1 : ∀ j, j < n → ∀ W, Calls Tryz.prog 87 #[.string (ws.getD (j + 1) ByteArray.empty)] W fun e w' => e = .returned (.tuple #[.int .i64 ((t.getD j 0).toNat : Nat), .nilIface]) ∧ Lat W w' := fun j hj W => by
    have e : ws.getD (j + 1) ByteArray.empty = S (Lib.itoa ((t.getD j 0).toNat : Int)) := by
      rw [hws]
      unfold recS recW
      rw [List.getD_eq_getElem?_getD, List.getElem?_map, List.getElem?_cons_succ, List.getElem?_map, List.getD_eq_getElem?_getD, List.getElem?_eq_getElem (by omega)]
      rfl
    rw [e]
    refine (Tryz.strconv_Atoi _ ((t.getD j 0).toNat : Nat) (by rw [S_size, itoa_nat]; have := (t.getD j 0).toNat_lt; have := digits_short (m := 4) (u := (t.getD j 0).toNat) (by omega); omega) (atoi_itoa _) W).mono ?_
    rintro e w' ⟨rfl, b, rfl⟩
    exact ⟨rfl, bytesW_lat _ _ _⟩
  have HFD := Lib.hid hfd; have HA0 := Lib.hid hat0; have HA1 := Lib.hid hat1; have HN := Lib.hid hn; have HWL := Lib.hid hwsl
  have hn8 : n ≤ 8 := by omega
  rw [← hX]
  clear hX hfl hXs hasc hwl hfd hws hwsl hwa hat0 hat1 hn hp ht hs
  go_enter Tryz.func67, Tryz.ntmps67
  go_wp2_with fail
  refine (HFD.out _ ((Lat.alloc _ _).trans (Lat.alloc _ _))).mono ?_
  rintro e w1 ⟨rfl, hw1⟩
  have hz : ((w.alloc (.cells #[.int .i64 0, .string { data := #[] }] 32)).alloc (.cells #[.int .i64 0, .string { data := #[] }] 32)).heap.size = w.heap.size + 1 + 1 := by simp
  rw [hz]
  have hrd : RD w w.heap.size (w.heap.size + 1) (w.heap.size + 1 + 1) n s ws t 0 (.slice none 0 0) w1 := by
    rw [hw1]
    refine ⟨((Lat.alloc _ _).trans (Lat.alloc _ _)).trans (Lat.alloc _ _), ⟨Nat.le_refl _, by omega, by omega, by simp⟩, ?_, ?_, ?_, ?_, ?_, ?_, ?_, ?_, fun i hi => ?_, Own.nil _ _ _⟩
    · exact ((Lat.alloc _ _).trans (Lat.alloc _ _)).cell_at (by simp)
    · exact ((Lat.alloc _ _).trans (Lat.alloc _ _)).cell_at (by simp)
    · exact ((Lat.alloc _ _).trans (Lat.alloc _ _)).free_at (by simp) (by simp)
    · exact ((Lat.alloc _ _).trans (Lat.alloc _ _)).free_at (by simp) (by simp)
    · rw [if_pos rfl]
      refine (Lat.alloc _ _).cell_at ?_
      rw [show w.heap.size + 1 = (w.alloc (.cells #[.int .i64 0, .string { data := #[] }] 32)).heap.size by simp]; simp
    · refine (Lat.alloc _ _).cell_at ?_
      rw [show w.heap.size + 1 = (w.alloc (.cells #[.int .i64 0, .string { data := #[] }] 32)).heap.size by simp]; simp
    · refine (Lat.alloc _ _).free_at (by simp) ?_
      rw [show w.heap.size + 1 = (w.alloc (.cells #[.int .i64 0, .string { data := #[] }] 32)).heap.size by simp]; simp
    · refine (Lat.alloc _ _).free_at (by simp) ?_
      rw [show w.heap.size + 1 = (w.alloc (.cells #[.int .i64 0, .string { data := #[] }] 32)).heap.size by simp]; simp
    · rw [← hz]
      refine cell_newL ?_
      rw [List.getElem?_toArray, List.getElem?_map, List.getElem?_eq_getElem (by rw [HWL.out]; exact hi), List.getD_eq_getElem?_getD, List.getElem?_eq_getElem (by rw [HWL.out]; exact hi)]
      rfl
  have HRD := Lib.hid hrd
  clear hw1 hz hrd
  obtain ⟨R, hR⟩ : ∃ R, R = w.heap.size := ⟨_, rfl⟩
  obtain ⟨O, hO⟩ : ∃ O, O = R + 1 := ⟨_, rfl⟩
  obtain ⟨F, hF⟩ : ∃ F, F = O + 1 := ⟨_, rfl⟩
  rw [← hR, ← hO, ← hF] at HRD
  rw [← hR, ← hO, ← hF]
  clear hR hO hF
  have c1 : ((n + 1 : Nat) : Int) = (n : Int) + 1 := rfl
  go_wp2_with fail
  go_loopg [5, 13] (n + 1) (fun f v iv wr => ∃ j : Nat, j + f = n + 1 ∧ iv = .int .i64 j ∧ Hid (RD w R O F n s ws t j v wr))
  case atStart => exact ⟨0, by omega, rfl, HRD.out⟩
  case round =>
    clear HRD
    obtain ⟨j, hj, rfl, hrel⟩ := hrel
    have hrd := hrel.out
    by_cases hlt : j < n + 1
    · obtain ⟨f, rfl⟩ : ∃ f, gk = f + 1 := ⟨gk - 1, by omega⟩
      have dj : decide (j < n + 1) = true := decide_eq_true hlt
      have dj2 : decide ((j : Int) < (n : Int) + 1) = true := decide_eq_true (by omega)
      have zf := hrd.f j hlt
      have i1 : (0 : Int) ≤ (j : Int) := by omega
      have i2 : (j : Int) < (n : Int) + 1 := by omega
      obtain ⟨zw, hzw⟩ : ∃ z, z = ws.getD j ByteArray.empty := ⟨_, rfl⟩
      rw [← hzw] at zf
      by_cases h0 : j = 0
      · subst h0
        have ha := HA0.out wr
        rw [← hzw] at ha
        have HA := Lib.hid ha; have HRD := Lib.hid hrd
        clear hrel hrd ha hzw
        go_wp2_with fail
        refine HA.out.mono ?_
        rintro e w3 ⟨rfl, hb3⟩
        have hrd3 := HRD.out.keep hb3
        have o0 : w3.cell? ⟨O, 0, none⟩ = some (.int .i64 0) := hrd3.o0
        have h0 := hrd3.h0
        have HRD3 := Lib.hid hrd3
        clear hb3 hrd3
        go_wp2_with fail
        go_roundg f
        case measure => omega
        case rel => exact ⟨1, by omega, by go_num, HRD3.out.seed⟩
      · obtain ⟨i, rfl⟩ : ∃ i, j = i + 1 := ⟨j - 1, by omega⟩
        have ha := HA1.out i (by omega) wr
        rw [← hzw] at ha
        obtain ⟨b, hb⟩ : ∃ b, b = t.getD i 0 := ⟨_, rfl⟩
        rw [← hb] at ha
        obtain ⟨bn, hbn⟩ : ∃ bn, bn = b.toNat := ⟨_, rfl⟩
        rw [← hbn] at ha
        have hb8 : bn < 256 := by rw [hbn]; exact b.toNat_lt
        have htk : t.take (i + 1) = t.take i ++ [b] := by
          have hl : i < t.length := by have := HN.out; omega
          rw [List.take_succ_eq_append_getElem hl, hb, List.getD_eq_getElem?_getD, List.getElem?_eq_getElem hl]; rfl
        have e0 : (((i + 1 : Nat) : Int) == 0) = false := beq_eq_false_iff_ne.2 (by omega)
        have hown : OwnBytes wr (F + 1) u5 (t.take i) := hrd.own
        have HA := Lib.hid ha; have HRD := Lib.hid hrd; have HTK := Lib.hid htk; have HBN := Lib.hid hbn; have HO := Lib.hid hown
        clear hrel hrd ha hzw hb hbn htk hown
        go_wp2_with fail
        refine HA.out.mono ?_
        rintro e w3 ⟨rfl, hb3⟩
        have HRD3 := Lib.hid (HRD.out.keep hb3)
        have HO3 := Lib.hid (Own.keep HO.out hb3)
        clear hb3
        have HSZ : Hid (F + 1 ≤ w3.heap.size) := by have := HRD3.out.lo; show F + 1 ≤ w3.heap.size; omega
        have HLN : Hid ((t.take i).length < 1000000) := by show (t.take i).length < 1000000; rw [List.length_take]; omega
        go_wp2_with (at_builtin; refine app_u8L w3 (F + 1) rfl (.tmp 31) (.tmp 34) rfl _ _ b bn HBN.out rfl HO3.out rfl HLN.out HSZ.out ?_; intro v' w4 hown' hf hloc; have HO4 := Lib.hid hown'; have HF4 := Lib.hid hf; clear hown' hf hloc)
        go_roundg f
        case measure => omega
        case rel => exact ⟨i + 1 + 1, by omega, by go_num, HRD3.out.byte HF4.out (fun q hq => by have := (Own.lt HO3.out q hq).1; omega) (by rw [HTK.out]; exact HO4.out)⟩
    · obtain rfl : j = n + 1 := by omega
      have dj : decide (n + 1 < n + 1) = false := decide_eq_false (by omega)
      have dj2 : decide ((n : Int) + 1 < (n : Int) + 1) = false := decide_eq_false (by omega)
      have htk : t.take (n + 1 - 1) = t := List.take_of_length_le (by have := HN.out; omega)
      have ho := hrd.own
      rw [htk] at ho
      have hcv := conv_own ho
      have o0 := hrd.o0
      rw [if_neg (by omega)] at o0
      have o1 := hrd.o1
      have h0 := hrd.h0
      have h1 := hrd.h1
      obtain ⟨l1, l2, l3, l4⟩ := hrd.lo
      have nR : R ≠ O := by omega
      have hf : Fr (fun i => i = O) wr (wr.setCell ⟨O, 1, none⟩ (.string (S t))) := Fr.set (S := fun i => i = O) wr ⟨O, 1, none⟩ (.string (S t)) rfl
      have p0 : (wr.setCell ⟨O, 1, none⟩ (.string (S t))).cell? ⟨R, 0, none⟩ = some (.int .i64 0) := hf.cell_at hrd.r0 nR
      have p1 : (wr.setCell ⟨O, 1, none⟩ (.string (S t))).cell? ⟨R, 1, none⟩ = some (.string { data := #[] }) := hf.cell_at hrd.r1 nR
      have g0 := hrd.g0
      have g1 := hrd.g1
      have q0 : (wr.setCell ⟨O, 1, none⟩ (.string (S t))).cell? ⟨O, 0, none⟩ = some (.int .i64 s) := by rw [World.cell?_setCell_other _ _ _ _ (by simp)]; exact o0
      have q1 : (wr.setCell ⟨O, 1, none⟩ (.string (S t))).cell? ⟨O, 1, none⟩ = some (.string (S t)) := World.cell?_setCell_same _ _ _ o1
      have Q := two_set p0 p1 (.int .i64 s) (.string (S t))
      have hlat : Lat w (((wr.setCell ⟨O, 1, none⟩ (.string (S t))).setCell ⟨R, 0, none⟩ (.int .i64 s)).setCell ⟨R, 1, none⟩ (.string (S t))) := (((hf.mono (T := fun i => i = O ∨ i = R) (fun k _ e => .inl e)).then_set ⟨R, 0, none⟩ (.int .i64 s) (.inl (.inr rfl))).then_set ⟨R, 1, none⟩ (.string (S t)) (.inl (.inr rfl))).lat_of hrd.lat (fun i hi => by rcases hi with h | h <;> omega)
      have HLAT := Lib.hid hlat; have HQ := Lib.hid Q
      clear hrel hrd htk ho l1 l2 l3 l4 hf hlat Q nR
      go_wp2_with fail
      exact bodyPost_ret (v := .tuple #[dropV s (S t), .nilIface]) (by simp [results, Tryz.results67, go_sem, HQ.out.1, HQ.out.2]) rfl ⟨rfl, HLAT.out⟩
end Go.Proofs.YtgcmlpcpkpnfnaaGreatDoor

namespace Go.Proofs.YtgcmlpcpkpnfnaaGreatDoor
open Go.ChangeShapes Go.WideShapes Go.ChangeAt Go.RowKit

def tabsS : List (String × DataW Unit) := [("math/bits.deBruijn32tab", Rows.laid_math_bits_deBruijn32tab), ("math/bits.deBruijn64tab", Rows.laid_math_bits_deBruijn64tab), ("internal/strconv.uint64pow10", Rows.laid_internal_strconv_uint64pow10), ("strconv.ErrRange", Rows.laid_strconv_ErrRange), ("strconv.ErrSyntax", Rows.laid_strconv_ErrSyntax), ("unicode.White_Space", Rows.laid_unicode_White_Space), ("strings.asciiSpace", Rows.laid_strings_asciiSpace)]
theorem sp_type : (Tryz.prog.globals[2]?).map (·.type) = some 173 := by kernel_rfl
theorem sp_data : (Rows.laid_strings_asciiSpace : DataW Unit) = Lib.tabData .u8 Lib.asciiSpaceTab := by kernel_rfl
theorem tabs_of_laid {W : World} (h : laidMet Tryz.prog tabsS W) : Pow W ∧ SpTab W := by
  obtain ⟨ps, hv, _⟩ := h
  obtain ⟨_, _, _, _, _, _, _, _, _, _, h2, _⟩ := hv
  obtain ⟨_, _, _, _, _, _, _, _, _, _, h3, _⟩ := h2
  obtain ⟨g, t, cs, fuel, p, q, hg, ht, hvar, hd, h4, _⟩ := h3
  obtain ⟨_, _, _, _, _, _, _, _, _, _, h5, _⟩ := h4
  obtain ⟨_, _, _, _, _, _, _, _, _, _, h6, _⟩ := h5
  obtain ⟨_, _, _, _, _, _, _, _, _, _, h7, _⟩ := h6
  obtain ⟨g7, t7, cs7, fuel7, p7, q7, hg7, ht7, hvar7, hd7, _⟩ := h7
  constructor
  · obtain rfl := Option.some.inj (pow_at.symm.trans hg)
    obtain rfl := Option.some.inj (pow_type.symm.trans ht)
    rw [pow_data] at hd
    unfold Pow Lib.TabIs
    rw [hvar, ← Lib.cells_of_tab Tryz.underlying218 Tryz.underlying170 (by kernel_rfl) (by kernel_rfl) hd]
  · obtain rfl := Option.some.inj (sp_at.symm.trans hg7)
    obtain rfl := Option.some.inj (sp_type.symm.trans ht7)
    rw [sp_data] at hd7
    unfold SpTab Lib.TabIs
    rw [hvar7, ← Lib.cells_of_tab Tryz.underlying173 Tryz.underlying5 (by kernel_rfl) (by kernel_rfl) hd7]
theorem stop_of_laid {W : World} (h : laidMetH Tryz.prog [("math/bits.deBruijn32tab", Rows.laid_math_bits_deBruijn32tab), ("math/bits.deBruijn64tab", Rows.laid_math_bits_deBruijn64tab), ("internal/strconv.uint64pow10", Rows.laid_internal_strconv_uint64pow10), ("errors.errorType", Rows.laid_errors_errorType), ("strconv.ErrRange", Rows.laid_strconv_ErrRange), ("strconv.ErrSyntax", Rows.laid_strconv_ErrSyntax), ("unicode.White_Space", Rows.laid_unicode_White_Space), ("strings.asciiSpace", Rows.laid_strings_asciiSpace)] W) : Hnd W ∧ Pow W ∧ SpTab W := by
  have h' : laidMet Tryz.prog tabsS W ∧ handlesMet Tryz.prog [("errors.errorType", Rows.laid_errors_errorType)] W := h
  exact ⟨handle_of_laid ⟨laidMet_nil _ _, h'.2⟩, tabs_of_laid h'.1⟩
def strOf : DataW Unit → Value
  | .iface _ (.ptr (.agg [.lit (.string l)])) => .string ⟨l.toArray⟩
  | _ => undef
def rngOf : DataW Unit → List Value
  | .ptr (.agg (.slice es _ :: _)) => es.flatMap fun | .agg l => l.map fun d => (match d with | .lit (.int k z) => Value.int k z | _ => undef) | _ => []
  | _ => []
def layCells (cs : Array Value) : Obj → Obj
  | .cells _ t frozen => .cells cs t frozen
  | o => o
def ptrTo (k : Nat) : Value := .pointer (some ⟨k, 0, none⟩)
def layS (h : Array Obj) : Array Obj :=
  (((((((h.modify 2 (layTab Rows.laid_strings_asciiSpace)).modify 6 (layCells #[.iface 240 (ptrTo h.size)])).modify 5 (layCells #[.iface 240 (ptrTo (h.size + 1))])).modify 3 (layCells #[ptrTo (h.size + 2)])).push
    (.cells #[strOf Rows.laid_strconv_ErrRange] 242)).push (.cells #[strOf Rows.laid_strconv_ErrSyntax] 242)).push
    (.cells #[.slice (some ⟨h.size + 3, 0, none⟩) 7 7, .slice none 0 0, .int .i64 2] 223)).push (.cells (rngOf Rows.laid_unicode_White_Space).toArray 226)
noncomputable def laidWorldS (os : Os) : World := { laidWorldL os with heap := layS (laidWorldL os).heap }
theorem laidWorldS_met (os : Os) (args : Array Value) : laidMetH Tryz.prog [("math/bits.deBruijn32tab", Rows.laid_math_bits_deBruijn32tab), ("math/bits.deBruijn64tab", Rows.laid_math_bits_deBruijn64tab), ("internal/strconv.uint64pow10", Rows.laid_internal_strconv_uint64pow10), ("errors.errorType", Rows.laid_errors_errorType), ("strconv.ErrRange", Rows.laid_strconv_ErrRange), ("strconv.ErrSyntax", Rows.laid_strconv_ErrSyntax), ("unicode.White_Space", Rows.laid_unicode_White_Space), ("strings.asciiSpace", Rows.laid_strings_asciiSpace)] ((laidWorldS os).forCall (fun _ _ => 0) ⟨#[], args, []⟩).memory :=
  laidMetH_of_parts (laidMet_of_run' (l := tabsS) 8 (by kernel_rfl) (by kernel_rfl)) (by kernel_rfl)
end Go.Proofs.YtgcmlpcpkpnfnaaGreatDoor

namespace Go.Proofs.YtgcmlpcpkpnfnaaGreatDoor
open Go.ChangeShapes Go.WideShapes Go.ChangeAt Go.RowKit

set_option maxRecDepth 100000 in
theorem Heal_chk (a : Option Addr) (n cap : Nat) (xs : List ByteArray) (a2 : Option Addr) (n2 c2 : Nat) (e : Int) (w : World) (h : StrsAt w a n cap xs) (hb : chk xs ≠ 0) :
    Calls Tryz.prog 16 #[.slice a n cap, .slice a2 n2 c2, .int .i64 e] w fun x w' => x = .returned (.tuple #[.slice none 0 0, eno (chk xs)]) ∧ Lat w w' := by
  have H := Lib.hid h; have HB := Lib.hid hb
  clear h hb
  go_enter Tryz.func16, Tryz.ntmps16
  go_wp2_with (go_at_call 22; refine (check_bad _ n cap xs _ H.out HB.out).mono ?_; rintro x w1 ⟨rfl, hb1⟩)
  go_ret2
  exact ⟨rfl, hb1⟩
set_option maxRecDepth 100000 in
theorem Heal_shape (a : Option Addr) (n cap : Nat) (xs : List ByteArray) (a2 : Option Addr) (n2 c2 : Nat) (e : Int) (w : World) (h : StrsAt w a n cap xs) (hb : chk xs = 0) (hn : n2 ≠ n) :
    Calls Tryz.prog 16 #[.slice a n cap, .slice a2 n2 c2, .int .i64 e] w fun x w' => x = .returned (.tuple #[.slice none 0 0, eno 3]) ∧ Lat w w' := by
  have d0 : ((n2 : Int) != (n : Int)) = true := by simp; omega
  have H := Lib.hid h; have HB := Lib.hid hb
  clear h hb
  go_enter Tryz.func16, Tryz.ntmps16
  go_wp2_with (go_at_call 22; refine (check_ok _ n cap xs _ H.out HB.out).mono ?_; rintro x w1 ⟨rfl, hb1⟩)
  go_ret2
  exact ⟨rfl, hb1⟩
set_option maxRecDepth 100000 in
theorem Heal_range (a : Option Addr) (n cap : Nat) (xs : List ByteArray) (a2 : Option Addr) (c2 : Nat) (e : Int) (w : World) (h : StrsAt w a n cap xs) (hb : chk xs = 0) (he : e < 1 ∨ 16 < e) :
    Calls Tryz.prog 16 #[.slice a n cap, .slice a2 n c2, .int .i64 e] w fun x w' => x = .returned (.tuple #[.slice none 0 0, eno 1]) ∧ Lat w w' := by
  have d0 : ((n : Int) != (n : Int)) = false := by simp
  have H := Lib.hid h; have HB := Lib.hid hb; have HE := Lib.hid he
  clear h hb he
  go_enter Tryz.func16, Tryz.ntmps16
  go_wp2_with (first
    | (go_at_call 22; refine (check_ok _ n cap xs _ H.out HB.out).mono ?_; rintro x w1 ⟨rfl, hb1⟩)
    | (go_at_call 23; refine (dblocks_no e _ HE.out).mono ?_; rintro x w2 ⟨rfl, rfl⟩))
  go_ret2
  exact ⟨rfl, hb1⟩
set_option maxRecDepth 100000 in
theorem Heal_data (a : Option Addr) (n cap : Nat) (xs : List ByteArray) (a2 : Option Addr) (c2 : Nat) (e : Nat) (w : World) (h : StrsAt w a n cap xs) (hb : chk xs = 0) (he : 1 ≤ e) (he2 : e ≤ 16) (hd : dat n e = 0) :
    Calls Tryz.prog 16 #[.slice a n cap, .slice a2 n c2, .int .i64 e] w fun x w' => x = .returned (.tuple #[.slice none 0 0, eno 3]) ∧ Lat w w' := by
  have hck := chk_ok hb
  have hl := h.len
  have hda := fun W => data_any n e W (by have := hck.pos; omega) (by have := hck.most; omega) he he2
  rw [hd] at hda
  have d0 : ((n : Int) != (n : Int)) = false := by simp
  have H := Lib.hid h; have HB := Lib.hid hb; have HDA := Lib.hid hda
  clear h hb hck hl hda hd
  go_enter Tryz.func16, Tryz.ntmps16
  go_wp2_with (first
    | (go_at_call 22; refine (check_ok _ n cap xs _ H.out HB.out).mono ?_; rintro x w1 ⟨rfl, hb1⟩)
    | (go_at_call 23; refine (dblocks_yes e _ (by omega) (by omega)).mono ?_; rintro x w2 ⟨rfl, rfl⟩)
    | (go_at_call 42; refine (HDA.out _).mono ?_; rintro x w2 ⟨rfl, rfl⟩))
  go_ret2
  exact ⟨rfl, hb1⟩

def healE (xs : List ByteArray) (lk : List Bool) (e : Int) : Nat :=
  if chk xs ≠ 0 then chk xs else if lk.length ≠ xs.length then 3 else if e < 1 ∨ 16 < e then 1 else if dat xs.length e.toNat = 0 then 3
  else hgE xs lk (szAt xs 0) (dat xs.length e.toNat) e.toNat (grps (dat xs.length e.toNat) e.toNat) 0
def healS (xs : List ByteArray) (lk : List Bool) (e : Int) : List ByteArray := hgS xs lk (szAt xs 0) (dat xs.length e.toNat) e.toNat (grps (dat xs.length e.toNat) e.toNat)
theorem Heal_any (a : Option Addr) (n cap : Nat) (xs : List ByteArray) (a2 : Option Addr) (n2 c2 : Nat) (lk : List Bool) (e : Int) (w : World) (h : StrsAt w a n cap xs) (h2 : BoolsAt w a2 n2 c2 lk) :
    Calls Tryz.prog 16 #[.slice a n cap, .slice a2 n2 c2, .int .i64 e] w fun x w' => (∃ v, x = .returned (.tuple #[v, errv (healE xs lk e)]) ∧
      (healE xs lk e = 0 → OwnStrs w' w.heap.size v (healS xs lk e)) ∧ (healE xs lk e ≠ 0 → v = .slice none 0 0)) ∧ Lat w w' := by
  have hl := h.len
  have hl2 := h2.len
  have key : ∀ k : Nat, k ≠ 0 → healE xs lk e = k → (Calls Tryz.prog 16 #[.slice a n cap, .slice a2 n2 c2, .int .i64 e] w fun x w' => x = .returned (.tuple #[.slice none 0 0, eno k]) ∧ Lat w w') →
      Calls Tryz.prog 16 #[.slice a n cap, .slice a2 n2 c2, .int .i64 e] w fun x w' => (∃ v, x = .returned (.tuple #[v, errv (healE xs lk e)]) ∧
      (healE xs lk e = 0 → OwnStrs w' w.heap.size v (healS xs lk e)) ∧ (healE xs lk e ≠ 0 → v = .slice none 0 0)) ∧ Lat w w' := fun k hk he hc => hc.mono fun x w' ⟨hx, hL⟩ => ⟨⟨_, by rw [he, errv_pos hk]; exact hx, fun h => absurd (he.symm.trans h) hk, fun _ => rfl⟩, hL⟩
  by_cases c1 : chk xs ≠ 0
  · exact key (chk xs) c1 (by unfold healE; rw [if_pos c1]) (Heal_chk a n cap xs a2 n2 c2 e w h c1)
  by_cases c2' : lk.length ≠ xs.length
  · exact key 3 (by omega) (by unfold healE; rw [if_neg c1, if_pos c2']) (Heal_shape a n cap xs a2 n2 c2 e w h (by omega) (by omega))
  obtain rfl : n2 = n := by omega
  by_cases c3 : e < 1 ∨ 16 < e
  · exact key 1 (by omega) (by unfold healE; rw [if_neg c1, if_neg c2', if_pos c3]) (Heal_range a n2 cap xs a2 c2 e w h (by omega) c3)
  obtain ⟨k, rfl⟩ : ∃ k : Nat, e = k := ⟨e.toNat, by omega⟩
  by_cases c4 : dat xs.length k = 0
  · exact key 3 (by omega) (by unfold healE; rw [if_neg c1, if_neg c2', if_neg c3, Int.toNat_natCast, if_pos c4]) (Heal_data a n2 cap xs a2 c2 k w h (by omega) (by omega) (by omega) (by rw [← hl]; exact c4))
  · have hE : healE xs lk k = hgE xs lk (szAt xs 0) (dat xs.length k) k (grps (dat xs.length k) k) 0 := by unfold healE; rw [if_neg c1, if_neg c2', if_neg c3, Int.toNat_natCast, if_neg c4]
    rw [hE]
    unfold healS
    rw [Int.toNat_natCast]
    have := Heal_go a n2 cap xs a2 c2 lk k w h h2 (by omega) (by omega) (by omega) (by rw [← hl]; exact c4)
    rw [← hl] at this ⊢
    exact this
end Go.Proofs.YtgcmlpcpkpnfnaaGreatDoor

namespace Go.Proofs.YtgcmlpcpkpnfnaaGreatDoor
open Go.ChangeShapes Go.WideShapes Go.ChangeAt Go.RowKit

def sN (m : Nat) (gs : List ByteArray) (lk : List Bool) : Nat → List UInt8
  | 0 => noughts m
  | j + 1 => if lk.getD j false = true then sN m gs lk j else xorL (sN m gs lk j) (bl gs j)
theorem cntT_zero (lk : List Bool) : ∀ k, cntT lk k = 0 → ∀ j, j < k → lk.getD j false = false
  | 0, _, j, hj => absurd hj (Nat.not_lt_zero _)
  | k + 1, h, j, hj => by
    unfold cntT at h
    by_cases e : lk.getD k false = true
    · rw [if_pos e] at h; omega
    · rw [if_neg e] at h
      by_cases ej : j = k
      · subst ej; simpa using e
      · exact cntT_zero lk k h j (by omega)
theorem cntT_uniq (lk : List Bool) : ∀ k, cntT lk k = 1 → ∀ j, j < k → lk.getD j false = true → j = lstT lk k
  | 0, _, j, hj, _ => absurd hj (Nat.not_lt_zero _)
  | k + 1, h, j, hj, ht => by
    unfold cntT at h
    unfold lstT
    by_cases e : lk.getD k false = true
    · rw [if_pos e] at h ⊢
      by_cases ej : j = k
      · exact ej
      · have := cntT_zero lk k (by omega) j (by omega)
        rw [this] at ht; cases ht
    · rw [if_neg e] at h ⊢
      by_cases ej : j = k
      · subst ej; exact absurd ht e
      · exact cntT_uniq lk k h j (by omega) ht
theorem sN_len (m : Nat) (gs : List ByteArray) (lk : List Bool) (hs : ∀ s ∈ gs, s.size = m) : ∀ k, k ≤ gs.length → (sN m gs lk k).length = m
  | 0, _ => by show (noughts m).length = m; simp [noughts]
  | k + 1, hk => by
    have ih := sN_len m gs lk hs k (by omega)
    have hb : (bl gs k).length = m := by rw [bl_length]; exact szAt_mem hs k (by omega)
    unfold sN
    split
    · exact ih
    · rw [xorL_length _ _ (by omega)]; exact ih
theorem sN_none (m : Nat) (gs : List ByteArray) (lk : List Bool) (hs : ∀ s ∈ gs, s.size = m) (h : cntT lk gs.length = 0) : sN m gs lk gs.length = ovl m (bts gs) := by
  rw [← ovB_all m gs hs]
  have h0 := cntT_zero lk _ h
  have : ∀ k, k ≤ gs.length → sN m gs lk k = ovB m gs k := fun k => by
    induction k with
    | zero => intro _; rfl
    | succ k ih => intro hk; rw [sN, h0 k (by omega), if_neg (by simp), ih (by omega)]; rfl
  exact this _ (Nat.le_refl _)
theorem sN_one (m : Nat) (gs : List ByteArray) (lk : List Bool) (hs : ∀ s ∈ gs, s.size = m) (h : cntT lk gs.length = 1) :
    sN m gs lk gs.length = ovl m (bts (gs.set (lstT lk gs.length) (S (noughts m)))) := by
  have hu := cntT_uniq lk _ h
  have ho := cntT_one lk _ h
  obtain ⟨i, hi⟩ : ∃ i, i = lstT lk gs.length := ⟨_, rfl⟩
  rw [← hi] at hu ho ⊢
  have hs2 : ∀ s ∈ gs.set i (S (noughts m)), s.size = m := fun s hss => by
    rcases List.mem_or_eq_of_mem_set hss with h3 | h3
    · exact hs s h3
    · rw [h3]; show (noughts m).toArray.size = m; unfold noughts; simp
  have hall := ovB_all m _ hs2
  rw [List.length_set] at hall
  rw [← hall]
  have : ∀ k, k ≤ gs.length → sN m gs lk k = ovB m (gs.set i (S (noughts m))) k := fun k => by
    induction k with
    | zero => intro _; rfl
    | succ k ih =>
      intro hk
      have hb : bl (gs.set i (S (noughts m))) k = if k = i then noughts m else bl gs k := by
        unfold bl
        rw [List.getD_eq_getElem?_getD, List.getElem?_set]
        by_cases e : k = i
        · rw [if_pos e.symm, if_pos (by omega), if_pos e]; rfl
        · rw [if_neg (fun h => e h.symm), if_neg e, List.getD_eq_getElem?_getD]
      have hl := sN_len m gs lk hs k (by omega)
      rw [sN, ovB, hb, ← ih (by omega)]
      by_cases e : k = i
      · subst e
        rw [if_pos ho.2, if_pos rfl]
        have h3 := xorL_noughts (sN m gs lk k)
        rw [hl] at h3
        exact h3.symm
      · rw [if_neg (fun ht => e (hu k (by omega) ht)), if_neg e]
  exact this _ (Nat.le_refl _)

def goneT (of : Nat → Nat) (lk : List Bool) (j : Nat) : Int := if cntT lk j = 0 then -1 else (of (lstT lk j) : Int)
theorem goneT_succ (of : Nat → Nat) (lk : List Bool) (j : Nat) : goneT of lk (j + 1) = if lk.getD j false = true then (of j : Int) else goneT of lk j := by
  have h1 : cntT lk (j + 1) = if lk.getD j false = true then cntT lk j + 1 else cntT lk j := rfl
  have h2 : lstT lk (j + 1) = if lk.getD j false = true then j else lstT lk j := rfl
  unfold goneT
  rw [h1, h2]
  by_cases e : lk.getD j false = true
  · rw [if_pos e, if_pos e, if_pos e, if_neg (by omega)]
  · rw [if_neg e, if_neg e, if_neg e]

def ofN (n e g t j : Nat) : Nat := if j < t then g * e + j else n + g
theorem grp_get {α : Type} (d : α) (l : List α) (n e g t : Nat) (hn : n ≤ l.length) (hq : g * e < n) (ht : t = min e (n - g * e)) (j : Nat) (hj : j ≤ t) :
    (grpAt l n e g ++ [l.getD (n + g) d]).getD j d = l.getD (ofN n e g t j) d := by
  have hgl : (grpAt l n e g).length = t := by unfold grpAt; rw [List.length_take, List.length_drop, List.length_take]; omega
  unfold ofN
  rw [List.getD_eq_getElem?_getD, List.getElem?_append, hgl]
  by_cases h : j < t
  · rw [if_pos h, if_pos h]
    unfold grpAt
    rw [List.getElem?_take_of_lt (by omega), List.getElem?_drop, List.getElem?_take_of_lt (by omega), List.getD_eq_getElem?_getD]
  · rw [if_neg h, if_neg h, show j - t = 0 by omega]; rfl

def outG (xs : List ByteArray) (lk : List Bool) (m n e g : Nat) : List ByteArray := hgS xs lk m n e g ++ (xs.take n).drop (g * e)
theorem hlS_len (m : Nat) (gs : List ByteArray) (lk : List Bool) : (hlS m gs lk).length = gs.length := hlS_length m gs lk
theorem grpAt_len {α : Type} (l : List α) (n e g : Nat) (hn : n ≤ l.length) : (grpAt l n e g).length = min e (n - g * e) := by
  unfold grpAt; rw [List.length_take, List.length_drop, List.length_take]; omega
theorem hgS_len (xs : List ByteArray) (lk : List Bool) (m n e : Nat) (hn : n ≤ xs.length) : ∀ g, (hgS xs lk m n e g).length = min n (g * e)
  | 0 => by simp [hgS]
  | g + 1 => by
    have ih := hgS_len xs lk m n e hn g
    have h1 : (hlG xs lk m n e g).length = min e (n - g * e) := by
      unfold hlG
      rw [List.length_take, hlS_length, grpAt_len xs n e g hn]
      unfold gsG
      rw [List.length_append, grpAt_len xs n e g hn, List.length_singleton]
      omega
    rw [hgS, List.length_append, ih, h1, Nat.succ_mul]
    omega
theorem outG_len (xs : List ByteArray) (lk : List Bool) (m n e g : Nat) (hn : n ≤ xs.length) : (outG xs lk m n e g).length = n := by
  unfold outG
  rw [List.length_append, hgS_len xs lk m n e hn g, List.length_drop, List.length_take]
  omega
theorem outG_zero (xs : List ByteArray) (lk : List Bool) (m n e : Nat) : outG xs lk m n e 0 = xs.take n := by simp [outG, hgS]
theorem outG_end (xs : List ByteArray) (lk : List Bool) (m n e g : Nat) (h : n ≤ g * e) : outG xs lk m n e g = hgS xs lk m n e g := by
  unfold outG
  rw [List.drop_of_length_le (by rw [List.length_take]; omega), List.append_nil]
theorem outG_split (xs : List ByteArray) (lk : List Bool) (m n e g : Nat) : outG xs lk m n e g = hgS xs lk m n e g ++ (grpAt xs n e g ++ (xs.take n).drop ((g + 1) * e)) := by
  unfold outG grpAt
  rw [Nat.succ_mul, ← List.drop_drop, List.take_append_drop]
theorem outG_same (xs : List ByteArray) (lk : List Bool) (m n e g : Nat) (h : hlG xs lk m n e g = grpAt xs n e g) : outG xs lk m n e (g + 1) = outG xs lk m n e g := by
  rw [outG_split xs lk m n e g, outG, hgS, h, List.append_assoc]
theorem outG_set (xs : List ByteArray) (lk : List Bool) (m n e g i : Nat) (s : ByteArray) (hn : n ≤ xs.length) (hq : g * e < n) (hi : i < (grpAt xs n e g).length) (h : hlG xs lk m n e g = (grpAt xs n e g).set i s) :
    outG xs lk m n e (g + 1) = (outG xs lk m n e g).set (g * e + i) s := by
  have hl := hgS_len xs lk m n e hn g
  rw [outG_split xs lk m n e g, outG, hgS, h, List.append_assoc, List.set_append_right _ _ (by omega), List.set_append_left _ _ (by omega)]
  congr 3
  omega
theorem hlG_none (xs : List ByteArray) (lk : List Bool) (m n e g : Nat) (h : cntT (lkG lk n e g) (gsG xs n e g).length ≠ 1) : hlG xs lk m n e g = grpAt xs n e g := by
  unfold hlG hlS
  rw [if_neg h]
  unfold gsG
  rw [List.take_append_of_le_length (Nat.le_refl _), List.take_of_length_le (Nat.le_refl _)]
theorem hlG_one (xs : List ByteArray) (lk : List Bool) (m n e g k : Nat) (hk : (gsG xs n e g).length = k) (h : cntT (lkG lk n e g) k = 1) (hs : ∀ s ∈ gsG xs n e g, s.size = m) :
    hlG xs lk m n e g = if lstT (lkG lk n e g) k < (grpAt xs n e g).length then (grpAt xs n e g).set (lstT (lkG lk n e g) k) (S (sN m (gsG xs n e g) (lkG lk n e g) k)) else grpAt xs n e g := by
  subst hk
  have h1 := sN_one m _ _ hs h
  unfold hlG hlS
  rw [if_pos h, ← h1, List.set_set]
  obtain ⟨i, hi⟩ : ∃ i, i = lstT (lkG lk n e g) (gsG xs n e g).length := ⟨_, rfl⟩
  rw [← hi]
  obtain ⟨v, hv⟩ : ∃ v, v = S (sN m (gsG xs n e g) (lkG lk n e g) (gsG xs n e g).length) := ⟨_, rfl⟩
  rw [← hv]
  unfold gsG
  by_cases h2 : i < (grpAt xs n e g).length
  · rw [if_pos h2, List.set_append_left _ _ h2, List.take_append_of_le_length (by rw [List.length_set]; exact Nat.le_refl _), List.take_of_length_le (by rw [List.length_set]; exact Nat.le_refl _)]
  · rw [if_neg h2, List.set_append_right _ _ (by omega), List.take_append_of_le_length (Nat.le_refl _), List.take_of_length_le (Nat.le_refl _)]
theorem ovl_le (m : Nat) : ∀ l : List (List UInt8), (ovl m l).length ≤ m
  | [] => by show (noughts m).length ≤ m; simp [noughts]
  | b :: l => by
    have ih := ovl_le m l
    unfold ovl xorL
    rw [List.length_zipWith]
    omega
theorem hlS_le (m : Nat) (gs : List ByteArray) (lk : List Bool) (h : ∀ s ∈ gs, s.size ≤ m) : ∀ s ∈ hlS m gs lk, s.size ≤ m := fun s hs => by
  unfold hlS at hs
  split at hs
  · rcases List.mem_or_eq_of_mem_set hs with h1 | h1
    · rcases List.mem_or_eq_of_mem_set h1 with h2 | h2
      · exact h s h2
      · rw [h2]; show (noughts m).toArray.size ≤ m; simp [noughts]
    · rw [h1]; exact ovl_le m _
  · exact h s hs
theorem hgS_le8 (xs : List ByteArray) (lk : List Bool) (m n e : Nat) (h : ∀ s ∈ xs, s.size ≤ m) : ∀ g, ∀ s ∈ hgS xs lk m n e g, s.size ≤ m
  | 0, s, hs => by cases hs
  | g + 1, s, hs => by
    rcases List.mem_append.1 hs with hs | hs
    · exact hgS_le8 xs lk m n e h g s hs
    · refine hlS_le m _ _ (fun u hu => ?_) s (List.mem_of_mem_take hs)
      rcases List.mem_append.1 hu with hu | hu
      · exact h u (List.mem_of_mem_take (List.mem_of_mem_drop (List.mem_of_mem_take hu)))
      · rw [List.mem_singleton.1 hu, List.getD_eq_getElem?_getD]
        cases hx : xs[n + g]? with
        | none => exact Nat.zero_le _
        | some y => exact h y (List.mem_of_getElem? hx)
end Go.Proofs.YtgcmlpcpkpnfnaaGreatDoor

namespace Go.Proofs.YtgcmlpcpkpnfnaaGreatDoor
open Go.ChangeShapes Go.WideShapes Go.ChangeAt Go.RowKit

end Go.Proofs.YtgcmlpcpkpnfnaaGreatDoor

namespace Go.Proofs.YtgcmlpcpkpnfnaaGreatDoor
open Go.ChangeShapes Go.WideShapes Go.ChangeAt Go.RowKit

theorem zero_any (n : Nat) (w : World) (hn : n ≤ 100000) :
    Calls Tryz.prog 15 #[.int .i64 n] w fun e w' => e = .returned (.string (S (noughts n))) ∧ Lat w w' := by
  go_enter Tryz.func15, Tryz.ntmps15
  go_wp2
  go_loop [3, 4] (fun s i => ∃ k : Nat, k ≤ n ∧ i = .int .i64 k ∧ s = .string (S (noughts k))) (fun _ i => n - (intOf i).toNat)
  case atStart => exact ⟨0, Nat.zero_le _, rfl, rfl⟩
  case round =>
    obtain ⟨k, hk, rfl, rfl⟩ := hrel
    have hl : (noughts k).length ≤ 100000 := by simp [noughts]; omega
    by_cases hlt : k < n
    · go_wp2
      go_round
      case rel => exact ⟨k + 1, by omega, by go_num, congrArg Value.string (noughts_succ k)⟩
      case measure => simp [intOf]; omega
    · obtain rfl : k = n := by omega
      go_wp2
      go_ret
      exact ⟨rfl, Below.refl _ _⟩
end Go.Proofs.YtgcmlpcpkpnfnaaGreatDoor

namespace Go.Proofs.YtgcmlpcpkpnfnaaGreatDoor
open Go.ChangeShapes Go.WideShapes Go.ChangeAt Go.RowKit

def hv (x : Nat) : Nat → Nat
  | 0 => x
  | k + 1 => hv x k / 2
def pw : Nat → Nat
  | 0 => 1
  | k + 1 => 2 * pw k
def nx (x y : Nat) : Nat → Nat
  | 0 => 0
  | k + 1 => nx x y k + if hv x k % 2 ≠ hv y k % 2 then pw k else 0
theorem hv_succ (x k : Nat) : hv x (k + 1) = hv x k / 2 := rfl
theorem pw_succ (k : Nat) : pw (k + 1) = 2 * pw k := rfl
theorem nx_succ (x y k : Nat) : nx x y (k + 1) = nx x y k + if hv x k % 2 ≠ hv y k % 2 then pw k else 0 := rfl
theorem xor_half (a b : Nat) : a ^^^ b = (if a % 2 ≠ b % 2 then 1 else 0) + 2 * ((a / 2) ^^^ (b / 2)) := by
  have h1 : (a ^^^ b) % 2 = 1 ↔ ¬ (a % 2 = 1 ↔ b % 2 = 1) := Nat.xor_mod_two_eq_one
  have h2 : (a ^^^ b) / 2 = a / 2 ^^^ b / 2 := Nat.xor_div_two
  rw [← h2]
  by_cases h : a % 2 = b % 2
  · rw [if_neg (by simpa using h)]
    have : ¬ (a ^^^ b) % 2 = 1 := fun e => h1.1 e (by rw [h])
    omega
  · rw [if_pos h]
    have : (a ^^^ b) % 2 = 1 := h1.2 (by omega)
    omega
theorem nx_inv (x y : Nat) : ∀ k, nx x y k + pw k * (hv x k ^^^ hv y k) = x ^^^ y
  | 0 => by simp [nx, pw, hv]
  | k + 1 => by
    have ih := nx_inv x y k
    rw [xor_half (hv x k) (hv y k)] at ih
    rw [nx_succ, pw_succ, hv_succ, hv_succ, ← ih, Nat.mul_add]
    split
    · rw [Nat.mul_one, ← Nat.mul_assoc, Nat.mul_comm (pw k) 2]; omega
    · rw [Nat.mul_zero, ← Nat.mul_assoc, Nat.mul_comm (pw k) 2]; omega
theorem hv_eight (x : Nat) (h : x < 256) : hv x 8 = 0 := by
  show x / 2 / 2 / 2 / 2 / 2 / 2 / 2 / 2 = 0
  omega
theorem nx_eight (x y : Nat) (hx : x < 256) (hy : y < 256) : nx x y 8 = x ^^^ y := by
  have h := nx_inv x y 8
  rw [hv_eight x hx, hv_eight y hy] at h
  simpa using h
theorem nx_le (x y : Nat) (hx : x < 256) (hy : y < 256) (k : Nat) : nx x y k < 256 := by
  have h := nx_inv x y k
  have h2 : x ^^^ y < 256 := Nat.xor_lt_two_pow (n := 8) hx hy
  omega
theorem hv_le (x : Nat) : ∀ k, hv x k ≤ x
  | 0 => Nat.le_refl _
  | k + 1 => by have := hv_le x k; unfold hv; omega
theorem pw_le : ∀ k, k ≤ 8 → pw k ≤ 256 := by decide

theorem xorL_take_succ (a b : List UInt8) (k : Nat) (ha : k < a.length) (hb : k < b.length) : (xorL a b).take (k + 1) = (xorL a b).take k ++ [a[k] ^^^ b[k]] := by
  have hl : k < (xorL a b).length := by simp [xorL]; omega
  rw [List.take_succ_eq_append_getElem hl]
  simp [xorL]

end Go.Proofs.YtgcmlpcpkpnfnaaGreatDoor

namespace Go.Proofs.YtgcmlpcpkpnfnaaGreatDoor
open Go.ChangeShapes Go.WideShapes Go.ChangeAt Go.RowKit

theorem grps_eq (n e k : Nat) (he : 1 ≤ e) (h1 : n ≤ k * e) (h2 : ∀ j, j < k → j * e < n) : k = grps n e := by
  have h3 : ¬ k < grps n e := fun h => by have := (grps_lt n e k he).1 h; omega
  have h4 : ¬ grps n e < k := fun h => by
    have := (grps_lt n e (grps n e) he).2 (h2 _ h)
    omega
  omega

end Go.Proofs.YtgcmlpcpkpnfnaaGreatDoor

namespace Go.Proofs.YtgcmlpcpkpnfnaaGreatDoor
open Go.ChangeShapes Go.WideShapes Go.ChangeAt Go.RowKit

def HealOut (w' : World) (v : Value) (E : Nat) (L : List ByteArray) : Prop := ∃ a k cap, v = .slice a k cap ∧ (E = 0 → StrsAt w' a k cap L) ∧ (E ≠ 0 → v = .slice none 0 0)

theorem StrsAt.take {w : World} {a : Option Addr} {n cap : Nat} {zs : List ByteArray} (h : StrsAt w a n cap zs) (k : Nat) (hk : k ≤ n) : StrsAt w a k cap (zs.take k) := by
  have hl := h.len
  have hle := h.row.le
  refine ⟨by rw [List.length_take]; omega, ⟨by omega, h.row.cap, fun hk0 => ?_⟩, fun s hs => h.sz s (List.mem_of_mem_take hs)⟩
  obtain ⟨b, o, ha, hc⟩ := h.row.at_ (by omega)
  refine ⟨b, o, ha, fun j hj => ?_⟩
  rw [hc j (by omega), List.getD_eq_getElem?_getD, List.getD_eq_getElem?_getD, List.getElem?_take_of_lt hj]

end Go.Proofs.YtgcmlpcpkpnfnaaGreatDoor

namespace Go.Proofs.YtgcmlpcpkpnfnaaGreatDoor
open Go.ChangeShapes Go.WideShapes Go.ChangeAt Go.RowKit

end Go.Proofs.YtgcmlpcpkpnfnaaGreatDoor

namespace Go.Proofs.YtgcmlpcpkpnfnaaGreatDoor
open Go.ChangeShapes Go.WideShapes Go.ChangeAt Go.RowKit Go.Shelf

attribute [local go_sem] Oper.semAt_some

set_option maxRecDepth 100000 in
set_option maxHeartbeats 2000000 in
theorem add_chk (a : Option Addr) (n cap : Nat) (ss : List ByteArray) (e : Int) (w : World) (h : StrsAt w a n cap ss) (hb : chk ss ≠ 0) :
    Calls Tryz.prog 5 #[.slice a n cap, .int .i64 e] w fun x w' => x = .returned (.tuple #[.slice none 0 0, eno (chk ss)]) ∧ Lat w w' := by
  have H := Lib.hid h; have HB := Lib.hid hb
  clear h hb
  refine (callsIn_wide (n := 3)).1 ?_
  refine callsIn_of_wp_marks Tryz.func5 rfl trivial ?_ rfl
  simp only [Tryz.ntmps5, List.size_toArray, List.length_cons, List.length_nil, Nat.reduceAdd, Nat.reduceSub, Array.replicate_succ, Array.replicate_zero, List.push_toArray, List.append_toArray, List.nil_append, List.cons_append]
  gi_wp2_with (refine ⟨trivial, ?_⟩; gi_at_call 22; refine (callsIn_wide.2 (check_bad _ n cap ss _ H.out HB.out)).mono ?_; rintro x w1 ⟨rfl, hb1⟩)
  exact ⟨_, results_tmp2 rfl _ _ _, rfl, hb1⟩

set_option maxRecDepth 100000 in
set_option maxHeartbeats 2000000 in
theorem add_range (a : Option Addr) (n cap : Nat) (ss : List ByteArray) (e : Int) (w : World) (h : StrsAt w a n cap ss) (hb : chk ss = 0) (he : e < 1 ∨ 16 < e) :
    Calls Tryz.prog 5 #[.slice a n cap, .int .i64 e] w fun x w' => x = .returned (.tuple #[.slice none 0 0, eno 1]) ∧ Lat w w' := by
  have H := Lib.hid h; have HB := Lib.hid hb; have HE := Lib.hid he
  clear h hb he
  refine (callsIn_wide (n := 3)).1 ?_
  refine callsIn_of_wp_marks Tryz.func5 rfl trivial ?_ rfl
  simp only [Tryz.ntmps5, List.size_toArray, List.length_cons, List.length_nil, Nat.reduceAdd, Nat.reduceSub, Array.replicate_succ, Array.replicate_zero, List.push_toArray, List.append_toArray, List.nil_append, List.cons_append]
  gi_wp2_with (first
    | (refine ⟨trivial, ?_⟩; gi_at_call 22; refine (callsIn_wide.2 (check_ok _ n cap ss _ H.out HB.out)).mono ?_; rintro x w1 ⟨rfl, hb1⟩)
    | (refine ⟨trivial, ?_⟩; gi_at_call 23; refine (callsIn_wide.2 (dblocks_no e _ HE.out)).mono ?_; rintro x w2 ⟨rfl, rfl⟩))
  exact ⟨_, results_tmp2 rfl _ _ _, rfl, hb1⟩

set_option maxRecDepth 100000 in
set_option maxHeartbeats 2000000 in
theorem add_full (a : Option Addr) (n cap : Nat) (ss : List ByteArray) (e : Nat) (w : World) (h : StrsAt w a n cap ss) (hb : chk ss = 0) (he : 1 ≤ e) (he2 : e ≤ 16) (hf : 16 < n + grps n e) :
    Calls Tryz.prog 5 #[.slice a n cap, .int .i64 e] w fun x w' => x = .returned (.tuple #[.slice none 0 0, eno 4]) ∧ Lat w w' := by
  have hck := chk_ok hb
  have hl := h.len
  have hn16 : n ≤ 16 := by have := hck.most; omega
  have hgr := fun W => groups_any n e W (by omega) he he2
  have hgm := (grps_mul n e he).2
  have hgk : grps n e ≤ grps n e * e := Nat.le_mul_of_pos_right _ he
  obtain ⟨G, hG⟩ : ∃ G, G = grps n e := ⟨_, rfl⟩
  rw [← hG] at hf hgr hgm hgk
  have hG2 : G ≤ 1000 := by omega
  have H := Lib.hid h; have HB := Lib.hid hb; have HGR := Lib.hid hgr
  clear h hb hck hl hgr hG hgm hgk
  refine (callsIn_wide (n := 3)).1 ?_
  refine callsIn_of_wp_marks Tryz.func5 rfl trivial ?_ rfl
  simp only [Tryz.ntmps5, List.size_toArray, List.length_cons, List.length_nil, Nat.reduceAdd, Nat.reduceSub, Array.replicate_succ, Array.replicate_zero, List.push_toArray, List.append_toArray, List.nil_append, List.cons_append]
  gi_wp2_with (first
    | (refine ⟨trivial, ?_⟩; gi_at_call 22; refine (callsIn_wide.2 (check_ok _ n cap ss _ H.out HB.out)).mono ?_; rintro x w1 ⟨rfl, hb1⟩)
    | (refine ⟨trivial, ?_⟩; gi_at_call 23; refine (callsIn_wide.2 (dblocks_yes e _ (by omega) (by omega))).mono ?_; rintro x w2 ⟨rfl, rfl⟩)
    | (refine ⟨trivial, ?_⟩; gi_at_call 24; refine (callsIn_wide.2 (HGR.out _)).mono ?_; rintro x w2 ⟨rfl, rfl⟩))
  exact ⟨_, results_tmp2 rfl _ _ _, rfl, hb1⟩

def addE (ss : List ByteArray) (e : Int) : Nat := if chk ss ≠ 0 then chk ss else if e < 1 ∨ 16 < e then 1 else if 16 < ss.length + grps ss.length e.toNat then 4 else 0
theorem add_err (a : Option Addr) (n cap : Nat) (ss : List ByteArray) (e : Int) (w : World) (h : StrsAt w a n cap ss) (hb : addE ss e ≠ 0) :
    Calls Tryz.prog 5 #[.slice a n cap, .int .i64 e] w fun x w' => x = .returned (.tuple #[.slice none 0 0, eno (addE ss e)]) ∧ Lat w w' := by
  have hl := h.len
  unfold addE at hb ⊢
  by_cases h1 : chk ss ≠ 0
  · rw [if_pos h1]; exact add_chk a n cap ss e w h h1
  rw [if_neg h1] at hb ⊢
  by_cases h2 : e < 1 ∨ 16 < e
  · rw [if_pos h2]; exact add_range a n cap ss e w h (by omega) h2
  rw [if_neg h2] at hb ⊢
  obtain ⟨k, rfl⟩ : ∃ k : Nat, e = k := ⟨e.toNat, by omega⟩
  rw [Int.toNat_natCast, hl] at hb ⊢
  by_cases h3 : 16 < n + grps n k
  · rw [if_pos h3]; exact add_full a n cap ss k w h (by omega) (by omega) (by omega) h3
  · rw [if_neg h3] at hb; exact absurd rfl hb
end Go.Proofs.YtgcmlpcpkpnfnaaGreatDoor

namespace Go.Proofs.YtgcmlpcpkpnfnaaGreatDoor
open Go.ChangeShapes Go.WideShapes Go.ChangeAt Go.RowKit

def addL (ss : List ByteArray) (e : Int) : List ByteArray := if addE ss e = 0 then addS ss e.toNat else []
theorem addE_zero {ss : List ByteArray} {e : Int} (h : addE ss e = 0) : chk ss = 0 ∧ 1 ≤ e ∧ e ≤ 16 ∧ ss.length + grps ss.length e.toNat ≤ 16 := by
  unfold addE at h
  by_cases h1 : chk ss ≠ 0
  · rw [if_pos h1] at h; exact absurd h h1
  rw [if_neg h1] at h
  by_cases h2 : e < 1 ∨ 16 < e
  · rw [if_pos h2] at h; cases h
  rw [if_neg h2] at h
  by_cases h3 : 16 < ss.length + grps ss.length e.toNat
  · rw [if_pos h3] at h; cases h
  · exact ⟨by omega, by omega, by omega, by omega⟩
theorem add_any (a : Option Addr) (n cap : Nat) (ss : List ByteArray) (e : Int) (w : World) (h : StrsAt w a n cap ss) :
    Calls Tryz.prog 5 #[.slice a n cap, .int .i64 e] w fun x w' => (∃ b k c, x = .returned (.tuple #[.slice b k c, errv (addE ss e)]) ∧ StrsAt w' b k c (addL ss e)) ∧ Lat w w' := by
  by_cases h0 : addE ss e = 0
  · obtain ⟨h1, h2, h3, h4⟩ := addE_zero h0
    obtain ⟨k, rfl⟩ : ∃ k : Nat, e = k := ⟨e.toNat, by omega⟩
    rw [Int.toNat_natCast, h.len] at h4
    have hck := chk_ok h1
    refine (add_ok a n cap ss k w h h1 (by omega) (by omega) h4).mono ?_
    rintro x w' ⟨v, rfl, hov, hb⟩
    obtain ⟨b, c, rfl, hat⟩ := OwnStrs.slice hov (fun s hs => by rw [addS_sizes hck k s hs]; have := hck.eight; unfold maxLen; omega)
    refine ⟨⟨b, _, c, by rw [h0, errv_zero rfl], ?_⟩, hb⟩
    unfold addL
    rw [if_pos h0, Int.toNat_natCast]; exact hat
  · refine (add_err a n cap ss e w h h0).mono ?_
    rintro x w' ⟨rfl, hb⟩
    refine ⟨⟨none, 0, 0, by rw [errv_pos h0], ?_⟩, hb⟩
    unfold addL
    rw [if_neg h0]; exact StrsAt.nil _
def healL (xs : List ByteArray) (lk : List Bool) (e : Int) : List ByteArray := if healE xs lk e = 0 then healS xs lk e else []
theorem healE_chk {xs : List ByteArray} {lk : List Bool} {e : Int} (h : healE xs lk e = 0) : chk xs = 0 := by
  unfold healE at h
  by_cases h1 : chk xs ≠ 0
  · rw [if_pos h1] at h; exact absurd h h1
  · omega
theorem healS_le {xs : List ByteArray} {lk : List Bool} {e : Int} (h : healE xs lk e = 0) : ∀ s ∈ healS xs lk e, s.size ≤ maxLen := fun s hs => by
  have hck := chk_ok (healE_chk h)
  have := hgS_le8 xs lk (szAt xs 0) _ _ (fun s hs => by rw [add_sizes hck s hs]; exact Nat.le_refl _) _ s hs
  have h8 := hck.eight
  unfold maxLen; omega
theorem Heal_all (a : Option Addr) (n cap : Nat) (xs : List ByteArray) (a2 : Option Addr) (n2 c2 : Nat) (lk : List Bool) (e : Int) (w : World) (h : StrsAt w a n cap xs) (h2 : BoolsAt w a2 n2 c2 lk) :
    Calls Tryz.prog 16 #[.slice a n cap, .slice a2 n2 c2, .int .i64 e] w fun x w' => (∃ b k c, x = .returned (.tuple #[.slice b k c, errv (healE xs lk e)]) ∧ StrsAt w' b k c (healL xs lk e)) ∧ Lat w w' := by
  refine (Heal_any a n cap xs a2 n2 c2 lk e w h h2).mono ?_
  rintro x w' ⟨⟨v, rfl, h3, h4⟩, hb⟩
  refine ⟨?_, hb⟩
  unfold healL
  by_cases h0 : healE xs lk e = 0
  · obtain ⟨b, c, rfl, hat⟩ := OwnStrs.slice (h3 h0) (healS_le h0)
    rw [if_pos h0]; exact ⟨_, _, _, rfl, hat⟩
  · rw [h4 h0, if_neg h0]; exact ⟨_, _, _, rfl, StrsAt.nil _⟩
end Go.Proofs.YtgcmlpcpkpnfnaaGreatDoor

namespace Go.Proofs.YtgcmlpcpkpnfnaaGreatDoor
open Go.ChangeShapes Go.WideShapes Go.ChangeAt Go.RowKit

theorem cntT_up (lk : List Bool) (j : Nat) : ∀ k, j ≤ k → cntT lk j ≤ cntT lk k
  | 0, h => by obtain rfl : j = 0 := by omega
               exact Nat.le_refl _
  | k + 1, h => by
    by_cases e : j = k + 1
    · subst e; exact Nat.le_refl _
    · have := cntT_up lk j k (by omega)
      have h2 : cntT lk (k + 1) = if lk.getD k false = true then cntT lk k + 1 else cntT lk k := rfl
      rw [h2]; split <;> omega
theorem cntT_two (lk : List Bool) (k : Nat) (h0 : lk.getD 0 false = true) (hk : lk.getD k false = true) (h1 : 1 ≤ k) : 2 ≤ cntT lk (k + 1) := by
  have h2 : cntT lk (k + 1) = if lk.getD k false = true then cntT lk k + 1 else cntT lk k := rfl
  have h3 : cntT lk 1 = if lk.getD 0 false = true then cntT lk 0 + 1 else cntT lk 0 := rfl
  rw [if_pos hk] at h2
  rw [if_pos h0] at h3
  have := cntT_up lk 1 k h1
  omega
theorem cntT_le_one (lk : List Bool) : ∀ k, (∀ i j, i < k → j < k → lk.getD i false = true → lk.getD j false = true → i = j) → cntT lk k ≤ 1
  | 0, _ => Nat.zero_le _
  | k + 1, h => by
    have ih := cntT_le_one lk k fun i j hi hj => h i j (by omega) (by omega)
    have h2 : cntT lk (k + 1) = if lk.getD k false = true then cntT lk k + 1 else cntT lk k := rfl
    rw [h2]
    by_cases e : lk.getD k false = true
    · rw [if_pos e]
      have h0 : cntT lk k = 0 := by
        by_cases h1 : cntT lk k = 1
        · have h3 := cntT_one lk k h1
          have := h (lstT lk k) k (by omega) (by omega) h3.2 e
          omega
        · omega
      omega
    · rw [if_neg e]; exact ih

theorem healE_go {xs : List ByteArray} {lk : List Bool} {n f : Nat} (hc : chk xs = 0) (hl : lk.length = xs.length) (h1 : 1 ≤ f) (h2 : f ≤ 16) (hn : 1 ≤ n) (hx : xs.length = n + grps n f) :
    healE xs lk f = hgE xs lk (szAt xs 0) n f (grps n f) 0 ∧ healS xs lk f = hgS xs lk (szAt xs 0) n f (grps n f) := by
  have hd : dat xs.length f = n := by rw [hx]; exact dat_eq n f hn h1
  constructor
  · unfold healE
    rw [if_neg (by omega), if_neg (by omega), if_neg (by omega), Int.toNat_natCast, hd, if_neg (by omega)]
  · unfold healS
    rw [Int.toNat_natCast, hd]
theorem healE_two {ls : List ByteArray} {f : Nat} {lk : List Bool} (hok : ChkOk ls) (h1 : 1 ≤ f) (h2 : f ≤ 16) (hfit : ls.length + grps ls.length f ≤ 16) (hlk : lk.length = ls.length + grps ls.length f)
    (h0 : lk.getD 0 false = true) (hn : lk.getD ls.length false = true) : healE (addS ls f) lk f = 8 := by
  obtain ⟨hck, hz⟩ := addS_ok hok f hfit
  have hp := hok.pos
  have hgo := (healE_go (xs := addS ls f) (lk := lk) (n := ls.length) (f := f) (chk_of hck) (by rw [hlk, addS_length]) h1 h2 hp (addS_length ls f)).1
  rw [hgo]
  have hG := grps_pos ls.length f hp h1
  obtain ⟨G, hGe⟩ : ∃ G, grps ls.length f = G + 1 := ⟨grps ls.length f - 1, by omega⟩
  rw [hGe]
  have hgx : (gsG (addS ls f) ls.length f 0).length = min f ls.length + 1 := by
    unfold gsG
    rw [List.length_append, grpAt_len _ _ _ _ (by rw [addS_length]; omega), Nat.zero_mul, Nat.sub_zero]; rfl
  have hk : ∀ j, j ≤ min f ls.length → (lkG lk ls.length f 0).getD j false = lk.getD (ofN ls.length f 0 (min f ls.length) j) false := fun j hj =>
    grp_get false lk ls.length f 0 _ (by omega) (by omega) (by rw [Nat.zero_mul, Nat.sub_zero]) j hj
  have hE : hlE (szAt (addS ls f) 0) (gsG (addS ls f) ls.length f 0) (lkG lk ls.length f 0) = 8 := by
    have hc : 2 ≤ cntT (lkG lk ls.length f 0) (min f ls.length + 1) := by
      refine cntT_two _ _ ?_ ?_ (by omega)
      · rw [hk 0 (by omega)]
        unfold ofN
        rw [if_pos (by omega), Nat.zero_mul]; exact h0
      · rw [hk _ (Nat.le_refl _)]
        unfold ofN
        rw [if_neg (by omega), Nat.add_zero]; exact hn
    unfold hlE
    rw [hgx, if_neg (by omega), if_neg (by omega)]
  show (if hlE _ _ _ = 0 then _ else hlE _ _ _) = 8
  rw [hE]; rfl

theorem gs_ovl {ls : List ByteArray} (hok : ChkOk ls) (f g : Nat) (hg : g < grps ls.length f) : ovl (szAt ls 0) (bts (gsG (addS ls f) ls.length f g)) = noughts (szAt ls 0) := by
  have h1 : grpAt (addS ls f) ls.length f g = grpAt ls ls.length f g := by
    unfold grpAt addS
    rw [List.take_append_of_le_length (Nat.le_refl _)]
  have h2 : (addS ls f).getD (ls.length + g) ByteArray.empty = ovG ls f g := by
    unfold addS
    rw [List.getD_eq_getElem?_getD, List.getElem?_append_right (by omega), Nat.add_sub_cancel_left, List.getElem?_map, List.getElem?_range hg]; rfl
  have hsz : ∀ s ∈ grpAt ls ls.length f g, s.size = szAt ls 0 := fun s hs => add_sizes hok s (List.mem_of_mem_take (List.mem_of_mem_drop (List.mem_of_mem_take hs)))
  have hl := ovl_len (szAt ls 0) (bts_len hsz)
  unfold gsG
  rw [h1, h2]
  have h3 : bts (grpAt ls ls.length f g ++ [ovG ls f g]) = bts (grpAt ls ls.length f g) ++ [ovl (szAt ls 0) (bts (grpAt ls ls.length f g))] := by unfold bts; rw [List.map_append]; rfl
  rw [h3, ovl_append _ (fun b hb => by rw [List.mem_singleton.1 hb]; exact hl)]
  show xorL _ (xorL _ (noughts _)) = _
  obtain ⟨r, hr⟩ : ∃ r, r = ovl (szAt ls 0) (bts (grpAt ls ls.length f g)) := ⟨_, rfl⟩
  rw [← hr] at hl ⊢
  have h4 := xorL_noughts r
  rw [hl] at h4
  rw [h4, xorL_self, hl]
theorem grp_add {ls : List ByteArray} (f g : Nat) : grpAt (addS ls f) ls.length f g = grpAt ls ls.length f g := by
  unfold grpAt addS
  rw [List.take_append_of_le_length (Nat.le_refl _)]
theorem sN_congr (m : Nat) (gs hs : List ByteArray) (lk : List Bool) : ∀ k, (∀ j, j < k → lk.getD j false = false → gs.getD j ByteArray.empty = hs.getD j ByteArray.empty) → sN m gs lk k = sN m hs lk k
  | 0, _ => rfl
  | k + 1, h => by
    rw [sN, sN, sN_congr m gs hs lk k fun j hj => h j (by omega)]
    by_cases e : lk.getD k false = true
    · rw [if_pos e, if_pos e]
    · rw [if_neg e, if_neg e]
      unfold bl
      rw [h k (by omega) (by simpa using e)]
theorem getD_ext {α : Type} {d : α} {l k : List α} (hl : l.length = k.length) (h : ∀ j, j < l.length → l.getD j d = k.getD j d) : l = k := by
  refine List.ext_getElem hl fun j h1 h2 => ?_
  have := h j h1
  rwa [List.getD_eq_getElem?_getD, List.getD_eq_getElem?_getD, List.getElem?_eq_getElem h1, List.getElem?_eq_getElem h2] at this

theorem heal_group {ls zs : List ByteArray} {f g : Nat} {lk : List Bool} (hok : ChkOk ls) (h1 : 1 ≤ f) (hg : g < grps ls.length f) (hzl : zs.length = ls.length + grps ls.length f) (hzs : ∀ s ∈ zs, s.size = szAt ls 0)
    (hlk : lk.length = zs.length) (hc : cntT (lkG lk ls.length f g) (gsG zs ls.length f g).length ≤ 1)
    (hsame : ∀ j, j < (gsG zs ls.length f g).length → (lkG lk ls.length f g).getD j false = false → (gsG zs ls.length f g).getD j ByteArray.empty = (gsG (addS ls f) ls.length f g).getD j ByteArray.empty) :
    hlE (szAt ls 0) (gsG zs ls.length f g) (lkG lk ls.length f g) = 0 ∧ hlG zs lk (szAt ls 0) ls.length f g = grpAt ls ls.length f g := by
  have hq := (grps_lt ls.length f g h1).1 hg
  obtain ⟨t, ht⟩ : ∃ t, t = min f (ls.length - g * f) := ⟨_, rfl⟩
  have hgl : (grpAt zs ls.length f g).length = t := by rw [grpAt_len _ _ _ _ (by omega), ht]
  have hgx : (grpAt (addS ls f) ls.length f g).length = t := by rw [grpAt_len _ _ _ _ (by rw [addS_length]; omega), ht]
  have hgsl : (gsG zs ls.length f g).length = t + 1 := by unfold gsG; rw [List.length_append, hgl]; rfl
  have hgsx : (gsG (addS ls f) ls.length f g).length = t + 1 := by unfold gsG; rw [List.length_append, hgx]; rfl
  have hov := gs_ovl hok f g hg
  have hgss : ∀ s ∈ gsG zs ls.length f g, s.size = szAt ls 0 := fun s hs => by
    rcases List.mem_append.1 hs with hs | hs
    · exact hzs s (List.mem_of_mem_take (List.mem_of_mem_drop (List.mem_of_mem_take hs)))
    · rw [List.mem_singleton.1 hs]
      refine hzs _ ?_
      rw [List.getD_eq_getElem?_getD, List.getElem?_eq_getElem (by omega)]
      exact List.getElem_mem _
  have hxss : ∀ s ∈ gsG (addS ls f) ls.length f g, s.size = szAt ls 0 := fun s hs => by
    rcases List.mem_append.1 hs with hs | hs
    · exact addS_sizes hok f s (List.mem_of_mem_take (List.mem_of_mem_drop (List.mem_of_mem_take hs)))
    · rw [List.mem_singleton.1 hs]
      refine addS_sizes hok f _ ?_
      rw [List.getD_eq_getElem?_getD, List.getElem?_eq_getElem (by rw [addS_length]; omega)]
      exact List.getElem_mem _
  rw [hgsl] at hc hsame
  have htake : ∀ j, j < t → (grpAt zs ls.length f g).getD j ByteArray.empty = (gsG zs ls.length f g).getD j ByteArray.empty := fun j hj => by
    unfold gsG
    rw [List.getD_eq_getElem?_getD, List.getD_eq_getElem?_getD, List.getElem?_append_left (by omega)]
  have htakx : ∀ j, j < t → (grpAt ls ls.length f g).getD j ByteArray.empty = (gsG (addS ls f) ls.length f g).getD j ByteArray.empty := fun j hj => by
    rw [← grp_add f g]
    unfold gsG
    rw [List.getD_eq_getElem?_getD, List.getD_eq_getElem?_getD, List.getElem?_append_left (by omega)]
  have hglx : (grpAt ls ls.length f g).length = t := by rw [← grp_add f g]; exact hgx
  by_cases h0 : cntT (lkG lk ls.length f g) (t + 1) = 0
  · have hno := cntT_zero _ _ h0
    have hgg : gsG zs ls.length f g = gsG (addS ls f) ls.length f g := getD_ext (d := ByteArray.empty) (by rw [hgsl, hgsx]) fun j hj => hsame j (by omega) (hno j (by omega))
    constructor
    · unfold hlE
      rw [hgsl, if_pos h0, hgg, hov, if_pos rfl]
    · rw [hlG_none zs lk _ _ _ _ (by rw [hgsl]; omega)]
      exact getD_ext (d := ByteArray.empty) (by rw [hgl, hglx]) fun j hj => by rw [htake j (by omega), htakx j (by omega), hgg]
  · have hone : cntT (lkG lk ls.length f g) (t + 1) = 1 := by omega
    have hu := cntT_uniq _ _ hone
    have hct := cntT_one _ _ hone
    obtain ⟨i, hi⟩ : ∃ i, i = lstT (lkG lk ls.length f g) (t + 1) := ⟨_, rfl⟩
    have hsn : sN (szAt ls 0) (gsG zs ls.length f g) (lkG lk ls.length f g) (t + 1) = bl (gsG (addS ls f) ls.length f g) i := by
      rw [sN_congr _ _ (gsG (addS ls f) ls.length f g) _ (t + 1) fun j hj => hsame j hj]
      have h3 := sN_one (szAt ls 0) (gsG (addS ls f) ls.length f g) (lkG lk ls.length f g) hxss (by rw [hgsx]; exact hone)
      rw [hgsx, ← hi] at h3
      rw [h3]
      have hil : i < (bts (gsG (addS ls f) ls.length f g)).length := by rw [bts_length, hgsx, hi]; exact hct.1
      have h4 : bts ((gsG (addS ls f) ls.length f g).set i (S (noughts (szAt ls 0)))) = (bts (gsG (addS ls f) ls.length f g)).set i (noughts (szAt ls 0)) := by unfold bts; rw [List.map_set]
      rw [h4, ovl_set _ _ _ (bts_len hxss) hil, hov]
      have hbi : (bts (gsG (addS ls f) ls.length f g))[i] = bl (gsG (addS ls f) ls.length f g) i := by
        have hil2 : i < (gsG (addS ls f) ls.length f g).length := by rw [bts_length] at hil; exact hil
        have e1 : (bts (gsG (addS ls f) ls.length f g))[i]? = some (bl (gsG (addS ls f) ls.length f g) i) := by
          unfold bts bl
          rw [List.getElem?_map, List.getD_eq_getElem?_getD, List.getElem?_eq_getElem hil2]; rfl
        rw [List.getElem?_eq_getElem hil] at e1
        exact Option.some.inj e1
      rw [hbi]
      have hbl : (bl (gsG (addS ls f) ls.length f g) i).length = szAt ls 0 := by rw [← hbi]; exact bts_len hxss _ (List.getElem_mem _)
      have h5 := xorL_noughts (bl (gsG (addS ls f) ls.length f g) i)
      rw [hbl] at h5
      exact h5
    constructor
    · unfold hlE
      rw [hgsl, if_neg h0, if_pos hone]
    · rw [hlG_one zs lk _ _ _ _ (t + 1) hgsl hone hgss, hgl, hsn, ← hi]
      have hothers : ∀ j, j < t → j ≠ i → (grpAt zs ls.length f g).getD j ByteArray.empty = (grpAt ls ls.length f g).getD j ByteArray.empty := fun j hj hji => by
        rw [htake j hj, htakx j hj]
        refine hsame j (by omega) ?_
        cases hb : (lkG lk ls.length f g).getD j false with
        | false => rfl
        | true => exact absurd ((hu j (by omega) hb).trans hi.symm) hji
      by_cases hit : i < t
      · rw [if_pos hit]
        refine getD_ext (d := ByteArray.empty) (by rw [List.length_set, hgl, hglx]) fun j hj => ?_
        rw [List.length_set, hgl] at hj
        rw [List.getD_eq_getElem?_getD, List.getElem?_set]
        by_cases e : i = j
        · subst e
          rw [if_pos rfl, if_pos (by omega), htakx i hit]; rfl
        · rw [if_neg e, ← List.getD_eq_getElem?_getD]
          exact hothers j hj (fun h => e h.symm)
      · rw [if_neg hit]
        exact getD_ext (d := ByteArray.empty) (by rw [hgl, hglx]) fun j hj => hothers j (by omega) (by omega)
theorem hg_all {ls zs : List ByteArray} {lk : List Bool} {m f : Nat} (h : ∀ g, g < grps ls.length f → hlE m (gsG zs ls.length f g) (lkG lk ls.length f g) = 0 ∧ hlG zs lk m ls.length f g = grpAt ls ls.length f g) :
    (∀ k g, k + g = grps ls.length f → hgE zs lk m ls.length f k g = 0) ∧ ∀ g, g ≤ grps ls.length f → hgS zs lk m ls.length f g = (ls.take (g * f)) := by
  constructor
  · intro k
    induction k with
    | zero => intro g _; rfl
    | succ k ih =>
      intro g hg
      rw [hgE, if_pos (h g (by omega)).1]
      exact ih (g + 1) (by omega)
  · intro g
    induction g with
    | zero => intro _; simp [hgS]
    | succ g ih =>
      intro hg
      rw [hgS, ih (by omega), (h g (by omega)).2]
      unfold grpAt
      rw [List.take_of_length_le (Nat.le_refl _), Nat.succ_mul, List.take_add]
theorem heal_all {ls zs : List ByteArray} {f : Nat} {lk : List Bool} (hok : ChkOk ls) (h1 : 1 ≤ f) (h2 : f ≤ 16) (hfit : ls.length + grps ls.length f ≤ 16) (hzl : zs.length = ls.length + grps ls.length f) (hzs : ∀ s ∈ zs, s.size = szAt ls 0) (hlk : lk.length = zs.length)
    (hc : ∀ g, g < grps ls.length f → cntT (lkG lk ls.length f g) (gsG zs ls.length f g).length ≤ 1)
    (hsame : ∀ g, g < grps ls.length f → ∀ j, j < (gsG zs ls.length f g).length → (lkG lk ls.length f g).getD j false = false → (gsG zs ls.length f g).getD j ByteArray.empty = (gsG (addS ls f) ls.length f g).getD j ByteArray.empty) :
    healE zs lk f = 0 ∧ healS zs lk f = ls := by
  have hp := hok.pos
  have hz0 : szAt zs 0 = szAt ls 0 := szAt_mem hzs 0 (by omega)
  have hzc : chk zs = 0 := chk_of ⟨by omega, by omega, by rw [hz0]; exact hok.one, by rw [hz0]; exact hok.eight, fun j hj => by rw [hz0]; exact szAt_mem hzs j hj⟩
  obtain ⟨e1, e2⟩ := healE_go (xs := zs) (lk := lk) (n := ls.length) (f := f) hzc hlk h1 h2 hp hzl
  obtain ⟨h3, h4⟩ := hg_all (m := szAt ls 0) fun g hg => heal_group hok h1 hg hzl hzs hlk (hc g hg) (hsame g hg)
  rw [e1, e2, hz0]
  refine ⟨h3 _ 0 (by omega), ?_⟩
  rw [h4 _ (Nat.le_refl _)]
  exact List.take_of_length_le (grps_mul ls.length f h1).1
end Go.Proofs.YtgcmlpcpkpnfnaaGreatDoor

namespace Go.Proofs.YtgcmlpcpkpnfnaaGreatDoor
open Go.ChangeShapes Go.WideShapes Go.ChangeAt Go.RowKit

def atF (zs : List Int) (n f g : Nat) : Option Nat :=
  if g < zs.length ∧ 0 ≤ zs.getD g 0 ∧ zs.getD g 0 ≤ (f : Int) then some (if zs.getD g 0 = (f : Int) ∨ n ≤ g * f + (zs.getD g 0).toNat then n + g else g * f + (zs.getD g 0).toNat) else none
def lkF (at_ : Nat → Option Nat) (N : Nat) : Nat → List Bool
  | 0 => List.replicate N false
  | k + 1 => match at_ k with
    | none => lkF at_ N k
    | some p => (lkF at_ N k).set p true
def zF (at_ : Nat → Option Nat) (xs : List ByteArray) (b : Bool) (s : ByteArray) : Nat → List ByteArray
  | 0 => xs
  | k + 1 => match at_ k with
    | none => zF at_ xs b s k
    | some p => if b = true then (zF at_ xs b s k).set p s else zF at_ xs b s k
theorem lkF_len (at_ : Nat → Option Nat) (N : Nat) : ∀ k, (lkF at_ N k).length = N
  | 0 => List.length_replicate
  | k + 1 => by
    unfold lkF
    cases at_ k with
    | none => exact lkF_len at_ N k
    | some p => show ((lkF at_ N k).set p true).length = N; rw [List.length_set]; exact lkF_len at_ N k
theorem zF_len (at_ : Nat → Option Nat) (xs : List ByteArray) (b : Bool) (s : ByteArray) : ∀ k, (zF at_ xs b s k).length = xs.length
  | 0 => rfl
  | k + 1 => by
    unfold zF
    cases at_ k with
    | none => exact zF_len at_ xs b s k
    | some p =>
      show (if b = true then (zF at_ xs b s k).set p s else zF at_ xs b s k).length = xs.length
      split
      · rw [List.length_set]; exact zF_len at_ xs b s k
      · exact zF_len at_ xs b s k
theorem lkF_true (at_ : Nat → Option Nat) (N p : Nat) : ∀ k, (lkF at_ N k).getD p false = true → ∃ g, g < k ∧ at_ g = some p
  | 0, h => by
    unfold lkF at h
    rw [List.getD_eq_getElem?_getD, List.getElem?_replicate] at h
    split at h <;> cases h
  | k + 1, h => by
    unfold lkF at h
    cases hk : at_ k with
    | none =>
      rw [hk] at h
      obtain ⟨g, hg, he⟩ := lkF_true at_ N p k h
      exact ⟨g, by omega, he⟩
    | some q =>
      rw [hk] at h
      by_cases e : q = p
      · subst e; exact ⟨k, by omega, hk⟩
      · have h2 : ((lkF at_ N k).set q true).getD p false = true := h
        rw [List.getD_eq_getElem?_getD, List.getElem?_set_ne e, ← List.getD_eq_getElem?_getD] at h2
        obtain ⟨g, hg, he⟩ := lkF_true at_ N p k h2
        exact ⟨g, by omega, he⟩
theorem zF_same (at_ : Nat → Option Nat) (xs : List ByteArray) (b : Bool) (s : ByteArray) (p : Nat) (hp : p < xs.length) : ∀ k, (lkF at_ xs.length k).getD p false = false → (zF at_ xs b s k).getD p ByteArray.empty = xs.getD p ByteArray.empty
  | 0, _ => rfl
  | k + 1, h => by
    unfold lkF at h
    unfold zF
    cases hk : at_ k with
    | none =>
      rw [hk] at h
      exact zF_same at_ xs b s p hp k h
    | some q =>
      rw [hk] at h
      have h2 : ((lkF at_ xs.length k).set q true).getD p false = false := h
      have hne : q ≠ p := by
        rintro rfl
        rw [List.getD_eq_getElem?_getD, List.getElem?_set, if_pos rfl, if_pos (by rw [lkF_len]; exact hp)] at h2
        cases h2
      rw [List.getD_eq_getElem?_getD, List.getElem?_set_ne hne, ← List.getD_eq_getElem?_getD] at h2
      have ih := zF_same at_ xs b s p hp k h2
      show (if b = true then (zF at_ xs b s k).set q s else zF at_ xs b s k).getD p ByteArray.empty = _
      split
      · rw [List.getD_eq_getElem?_getD, List.getElem?_set_ne hne, ← List.getD_eq_getElem?_getD]; exact ih
      · exact ih
theorem zF_sizes (at_ : Nat → Option Nat) (xs : List ByteArray) (b : Bool) (s : ByteArray) (m : Nat) (hx : ∀ x ∈ xs, x.size = m) (hb : b = true → s.size = m) : ∀ k, ∀ x ∈ zF at_ xs b s k, x.size = m
  | 0, x, h => hx x h
  | k + 1, x, h => by
    unfold zF at h
    cases hk : at_ k with
    | none => rw [hk] at h; exact zF_sizes at_ xs b s m hx hb k x h
    | some q =>
      rw [hk] at h
      have h2 : x ∈ (if b = true then (zF at_ xs b s k).set q s else zF at_ xs b s k) := h
      split at h2
      · rename_i hbt
        rcases List.mem_or_eq_of_mem_set h2 with h3 | h3
        · exact zF_sizes at_ xs b s m hx hb k x h3
        · rw [h3]; exact hb hbt
      · exact zF_sizes at_ xs b s m hx hb k x h2
theorem atF_at {zs : List Int} {n f g p : Nat} (h1 : 1 ≤ f) (hg : g < grps n f) (h : atF zs n f g = some p) : p < n + grps n f ∧ (p < n → p / f = g) ∧ (n ≤ p → p = n + g) := by
  unfold atF at h
  by_cases hc : g < zs.length ∧ 0 ≤ zs.getD g 0 ∧ zs.getD g 0 ≤ (f : Int)
  · rw [if_pos hc] at h
    injection h with h
    by_cases hd : zs.getD g 0 = (f : Int) ∨ n ≤ g * f + (zs.getD g 0).toNat
    · rw [if_pos hd] at h; omega
    · rw [if_neg hd] at h
      have hlt : (zs.getD g 0).toNat < f := by omega
      refine ⟨by omega, fun _ => ?_, fun hn => by omega⟩
      rw [← h, Nat.mul_comm, Nat.mul_add_div (by omega), Nat.div_eq_of_lt hlt, Nat.add_zero]
  · rw [if_neg hc] at h; cases h
theorem ofN_at {n f g t j : Nat} (h1 : 1 ≤ f) (hq : g * f < n) (ht : t = min f (n - g * f)) : (ofN n f g t j < n → ofN n f g t j / f = g) ∧ (n ≤ ofN n f g t j → ofN n f g t j = n + g) ∧ (j < t → ofN n f g t j = g * f + j ∧ ofN n f g t j < n) ∧ (j = t → ofN n f g t j = n + g) := by
  unfold ofN
  by_cases h : j < t
  · rw [if_pos h]
    refine ⟨fun _ => ?_, fun hn => by omega, fun _ => ⟨rfl, by omega⟩, fun h2 => by omega⟩
    rw [Nat.mul_comm, Nat.mul_add_div (by omega), Nat.div_eq_of_lt (by omega), Nat.add_zero]
  · rw [if_neg h]
    exact ⟨fun hn => by omega, fun _ => rfl, fun h2 => absurd h2 h, fun _ => rfl⟩
theorem gone_all {ls : List ByteArray} {f : Nat} {zs : List Int} {b : Bool} {s : ByteArray} (hok : ChkOk ls) (h1 : 1 ≤ f) (h2 : f ≤ 16) (hfit : ls.length + grps ls.length f ≤ 16) (hb : b = true → s.size = szAt ls 0) :
    healL (zF (atF zs ls.length f) (addS ls f) b s (grps ls.length f)) (lkF (atF zs ls.length f) (ls.length + grps ls.length f) (grps ls.length f)) f = ls ∧
    healE (zF (atF zs ls.length f) (addS ls f) b s (grps ls.length f)) (lkF (atF zs ls.length f) (ls.length + grps ls.length f) (grps ls.length f)) f = 0 := by
  have hxl := addS_length ls f
  suffices hh : healE (zF (atF zs ls.length f) (addS ls f) b s (grps ls.length f)) (lkF (atF zs ls.length f) (ls.length + grps ls.length f) (grps ls.length f)) f = 0 ∧ healS (zF (atF zs ls.length f) (addS ls f) b s (grps ls.length f)) (lkF (atF zs ls.length f) (ls.length + grps ls.length f) (grps ls.length f)) f = ls by
    unfold healL
    rw [if_pos hh.1]; exact ⟨hh.2, hh.1⟩
  refine heal_all (ls := ls) (f := f) hok h1 h2 hfit (by rw [zF_len, hxl]) (zF_sizes _ _ _ _ _ (addS_sizes hok f) hb _) (by rw [lkF_len, zF_len, hxl]) (fun g hg => ?_) (fun g hg j hj hl => ?_)
  · have hq := (grps_lt ls.length f g h1).1 hg
    obtain ⟨t, ht⟩ : ∃ t, t = min f (ls.length - g * f) := ⟨_, rfl⟩
    have hgsl : (gsG (zF (atF zs ls.length f) (addS ls f) b s (grps ls.length f)) ls.length f g).length = t + 1 := by
      unfold gsG
      rw [List.length_append, grpAt_len _ _ _ _ (by rw [zF_len, hxl]; omega), ← ht]; rfl
    rw [hgsl]
    have hk : ∀ j, j ≤ t → (lkG (lkF (atF zs ls.length f) (ls.length + grps ls.length f) (grps ls.length f)) ls.length f g).getD j false = (lkF (atF zs ls.length f) (ls.length + grps ls.length f) (grps ls.length f)).getD (ofN ls.length f g t j) false :=
      fun j hj => grp_get false _ ls.length f g t (by rw [lkF_len]; omega) hq ht j hj
    have hat : ∀ j, j ≤ t → (lkF (atF zs ls.length f) (ls.length + grps ls.length f) (grps ls.length f)).getD (ofN ls.length f g t j) false = true → atF zs ls.length f g = some (ofN ls.length f g t j) := fun j hj hb => by
      obtain ⟨g1, hg1, he⟩ := lkF_true _ _ _ _ hb
      have ha := atF_at h1 hg1 he
      have ho := ofN_at (n := ls.length) (j := j) h1 hq ht
      have : g1 = g := by
        rcases Nat.lt_or_ge (ofN ls.length f g t j) ls.length with hlt | hge
        · rw [← ha.2.1 hlt, ho.1 hlt]
        · have := ha.2.2 hge; have := ho.2.1 hge; omega
      subst this; exact he
    refine cntT_le_one _ _ fun i j hi hj hbi hbj => ?_
    rw [hk i (by omega)] at hbi
    rw [hk j (by omega)] at hbj
    have e1 := hat i (by omega) hbi
    have e2 := hat j (by omega) hbj
    rw [e1] at e2
    injection e2 with e2
    have oi := ofN_at (n := ls.length) (j := i) h1 hq ht
    have oj := ofN_at (n := ls.length) (j := j) h1 hq ht
    rcases Nat.lt_or_ge i t with hit | hit
    · rcases Nat.lt_or_ge j t with hjt | hjt
      · have := (oi.2.2.1 hit).1; have := (oj.2.2.1 hjt).1; omega
      · have := (oi.2.2.1 hit).2; have := oj.2.2.2 (by omega); omega
    · rcases Nat.lt_or_ge j t with hjt | hjt
      · have := (oj.2.2.1 hjt).2; have := oi.2.2.2 (by omega); omega
      · omega
  · have hq := (grps_lt ls.length f g h1).1 hg
    obtain ⟨t, ht⟩ : ∃ t, t = min f (ls.length - g * f) := ⟨_, rfl⟩
    have hgsl : (gsG (zF (atF zs ls.length f) (addS ls f) b s (grps ls.length f)) ls.length f g).length = t + 1 := by
      unfold gsG
      rw [List.length_append, grpAt_len _ _ _ _ (by rw [zF_len, hxl]; omega), ← ht]; rfl
    rw [hgsl] at hj
    have hk := grp_get false (lkF (atF zs ls.length f) (ls.length + grps ls.length f) (grps ls.length f)) ls.length f g t (by rw [lkF_len]; omega) hq ht j (by omega)
    have hk2 : (lkF (atF zs ls.length f) (ls.length + grps ls.length f) (grps ls.length f)).getD (ofN ls.length f g t j) false = false := by rw [← hk]; exact hl
    have hz := grp_get ByteArray.empty (zF (atF zs ls.length f) (addS ls f) b s (grps ls.length f)) ls.length f g t (by rw [zF_len, hxl]; omega) hq ht j (by omega)
    have hx := grp_get ByteArray.empty (addS ls f) ls.length f g t (by rw [hxl]; omega) hq ht j (by omega)
    unfold gsG
    rw [hz, hx]
    have hof : ofN ls.length f g t j < ls.length + grps ls.length f := by
      have ho := ofN_at (n := ls.length) (j := j) h1 hq ht
      rcases Nat.lt_or_ge j t with h | h
      · have := (ho.2.2.1 h).2; omega
      · have := ho.2.2.2 (by omega); omega
    rw [← hxl] at hk2 hof
    have h3 := zF_same (atF zs ls.length f) (addS ls f) b s _ hof (grps ls.length f) hk2
    exact h3
theorem none_all {ls : List ByteArray} {f : Nat} (hok : ChkOk ls) (h1 : 1 ≤ f) (h2 : f ≤ 16) (hfit : ls.length + grps ls.length f ≤ 16) :
    healL (addS ls f) (List.replicate (ls.length + grps ls.length f) false) f = ls ∧ healE (addS ls f) (List.replicate (ls.length + grps ls.length f) false) f = 0 := by
  have hno : ∀ k, zF (atF [] ls.length f) (addS ls f) false ByteArray.empty k = addS ls f ∧ lkF (atF [] ls.length f) (ls.length + grps ls.length f) k = List.replicate (ls.length + grps ls.length f) false := fun k => by
    induction k with
    | zero => exact ⟨rfl, rfl⟩
    | succ k ih =>
      have ha : atF [] ls.length f k = none := by unfold atF; rw [if_neg (by simp)]
      unfold zF lkF
      rw [ha]; exact ih
  have := gone_all (zs := []) (b := false) (s := ByteArray.empty) hok h1 h2 hfit (fun h => by cases h)
  rw [(hno _).1, (hno _).2] at this
  exact this
end Go.Proofs.YtgcmlpcpkpnfnaaGreatDoor

namespace Go.Proofs.YtgcmlpcpkpnfnaaGreatDoor
open Go.ChangeShapes Go.WideShapes Go.ChangeAt Go.RowKit Go.Shelf

attribute [local go_sem] Oper.semAt_some

def Line (l : List UInt8) : Prop := ∃ b, l = b ++ [10] ∧ ∀ x ∈ b, x ≠ 10
theorem idx_line : ∀ (b rest : List UInt8), (∀ x ∈ b, x ≠ 10) → Lib.indexByte (b ++ 10 :: rest) 10 = b.length
  | [], rest, _ => by simp [Lib.indexByte]
  | x :: b, rest, h => by
    have h1 := idx_line b rest (fun y hy => h y (List.mem_cons_of_mem x hy))
    have hx : (x == 10) = false := beq_eq_false_iff_ne.2 (h x List.mem_cons_self)
    have hn : ((b.length : Int) == -1) = false := beq_eq_false_iff_ne.2 (by omega)
    rw [List.cons_append]
    unfold Lib.indexByte
    rw [hx, h1, hn]
    simp
def KB (B : Nat) (W W' : World) : Prop := W'.cell? ⟨B, 0, none⟩ = W.cell? ⟨B, 0, none⟩
theorem KB.trans {B : Nat} {X Y Z : World} (h : KB B X Y) (k : KB B Y Z) : KB B X Z := Eq.trans k h
theorem KB.put {B m : Nat} (hb : B < m) (W : World) (l : Nat) (o o' : Obj) (hl : m ≤ l) (_ : W.heap[l]? = some o) (_ : o.isCells = false) (_ : o.isWalk = false) : KB B W (W.putObj l o') :=
  World.cell?_of_block (World.putObj_heap_other (by simp only; omega))
def leftL (ls : List (List UInt8)) (k : Nat) : List UInt8 := (ls.drop k).flatten
theorem leftL_step (ls : List (List UInt8)) (k : Nat) (hk : k < ls.length) : leftL ls k = ls.getD k [] ++ leftL ls (k + 1) := by
  unfold leftL
  rw [List.drop_eq_getElem_cons hk, List.flatten_cons, List.getD_eq_getElem?_getD, List.getElem?_eq_getElem hk]; rfl
theorem leftL_end (ls : List (List UInt8)) : leftL ls ls.length = [] := by unfold leftL; rw [List.drop_length]; rfl

set_option maxRecDepth 100000 in
set_option maxHeartbeats 2000000 in
theorem lines1_in (n : Nat) (hn : 1 ≤ n) (l Bs N : Nat) (ls : List (List UInt8)) (hN : N = ls.length) (hls : ∀ x ∈ ls, Line x) (hsz : ls.flatten.length ≤ 1000000) (J : Nat → World → Prop) (hJd : ∀ k W, J k W → J k W.drew)
    (hJs : ∀ k W v, J k W → J k (W.setCell ⟨Bs, 0, none⟩ v))
    (hY : ∀ k W, k < N → J k W → YieldAt Fence.wide (n - 1) Tryz.prog l #[.string (S (ls.getD k []))] W fun e W' =>
      e = .returned (.bool true) ∧ J (k + 1) W' ∧ KB Bs W W' ∧ W'.frozen? ⟨Bs, 0, none⟩ = W.frozen? ⟨Bs, 0, none⟩)
    (W : World) (hBs : W.cell? ⟨Bs, 0, none⟩ = some (.string (S ls.flatten))) (hFs : W.frozen? ⟨Bs, 0, none⟩ = false) (h0 : J 0 W) :
    CallsIn Fence.wide n Tryz.prog 84 #[.func (.yield l) #[] #[], .pointer (some ⟨Bs, 0, none⟩)] W fun e W' => (∃ v, e = .returned v) ∧ J N W' := by
  have hleft : ∀ k, k ≤ N → (leftL ls k).length ≤ 1000000 := fun k _ => by
    have h1 : ls.flatten = (ls.take k).flatten ++ leftL ls k := by unfold leftL; rw [← List.flatten_append, List.take_append_drop]
    rw [h1, List.length_append] at hsz
    omega
  have hidx : ∀ k, k < N → ∃ b, ls.getD k [] = b ++ [10] ∧ Lib.indexByte (leftL ls k) 10 = b.length := fun k hk => by
    obtain ⟨b, hb, hx⟩ := hls (ls.getD k []) (by rw [List.getD_eq_getElem?_getD, List.getElem?_eq_getElem (by omega)]; exact List.getElem_mem (by omega))
    refine ⟨b, hb, ?_⟩
    rw [leftL_step ls k (by omega), hb, List.append_assoc]
    exact idx_line b _ hx
  have HLEFT := Lib.hid hleft; have HIDX := Lib.hid hidx; have HY := Lib.hid hY; have HJD := Lib.hid hJd; have HJS := Lib.hid hJs; have HNL := Lib.hid hN
  clear hleft hidx hY hJd hJs hN hls hsz
  refine callsIn_of_wp Tryz.func84 rfl trivial ?_ rfl
  simp only [Tryz.ntmps84, List.size_toArray, List.length_cons, List.length_nil, Nat.reduceAdd, Nat.reduceSub, Array.replicate_succ, Array.replicate_zero, List.push_toArray, List.append_toArray, List.nil_append, List.cons_append]
  gi_wp2
  gi_loopw [] (fun wr => ∃ (k : Nat), k ≤ N ∧ J k wr ∧ wr.cell? ⟨Bs, 0, none⟩ = some (.string (S (leftL ls k))) ∧ wr.frozen? ⟨Bs, 0, none⟩ = false)
    (fun wr => match wr.cell? ⟨Bs, 0, none⟩ with | some (.string s) => s.size | _ => 0)
  case atStart => exact ⟨0, Nat.zero_le _, h0, hBs, hFs⟩
  case round =>
    obtain ⟨k, hk, hJ1, hc, hfz⟩ := hrel
    have hlf := HLEFT.out k hk
    by_cases hlt : k < N
    · obtain ⟨b, hb, hix⟩ := HIDX.out k hlt
      have hst := leftL_step ls k (by rw [← HNL.out]; exact hlt)
      have hln1 : (ls.getD k []).length = b.length + 1 := by rw [hb, List.length_append]; rfl
      obtain ⟨X, hX⟩ : ∃ X, X = S (leftL ls k) := ⟨_, rfl⟩
      obtain ⟨rn, hrn⟩ : ∃ rn, rn = X.size := ⟨_, rfl⟩
      obtain ⟨bl, hbl⟩ : ∃ bl, bl = b.length := ⟨_, rfl⟩
      have hxs : X.size = rn := hrn.symm
      have hrl : rn = bl + 1 + (leftL ls (k + 1)).length := by rw [hrn, hX, S_size, hst, List.length_append, hln1, hbl]
      have hx0 : X.extract 0 (bl + 1) = S (ls.getD k []) := by
        rw [hX, hst]
        unfold S
        rw [ByteArray.extract_mk]
        congr 1
        have : bl + 1 = (ls.getD k []).length := by rw [hln1, hbl]
        rw [this]
        simp
      have hx1 : X.extract (bl + 1) rn = S (leftL ls (k + 1)) := by
        rw [hX, hst]
        unfold S
        rw [ByteArray.extract_mk]
        congr 1
        have h1 : bl + 1 = (ls.getD k []).length := by rw [hln1, hbl]
        have h2 : rn = (ls.getD k [] ++ leftL ls (k + 1)).length := by rw [List.length_append, ← h1]; omega
        rw [h2, h1]
        simp
      have hidx : ∀ W, Calls Tryz.prog 85 #[.string X, .int .u8 10] W fun e w' => e = .returned (.int .i64 (bl : Nat)) ∧ w' = W := fun W => by
        have h := Tryz.strings_IndexByte X 10 W
        have e : Lib.indexByte X.data.toList ((10 : Int).toNat.toUInt8) = (bl : Int) := by rw [hX, hbl]; exact hix
        rw [e] at h
        exact h
      have hcX : wr.cell? ⟨Bs, 0, none⟩ = some (.string X) := by rw [hX]; exact hc
      clear hc
      obtain ⟨fn, tmps, assign, body, hy, hR⟩ := HY.out k (((wr.setCell ⟨Bs, 0, none⟩ (.string (X.extract (bl + 1) rn)))).drew) hlt (HJD.out _ _ (HJS.out _ _ _ hJ1))
      rw [← hx0] at hy
      have d0 : decide (0 < rn) = true := decide_eq_true (by omega)
      have d0' : 0 < rn := by omega
      have d1 : decide ((0 : Int) ≤ (bl : Int)) = true := decide_eq_true (by omega)
      have i1 : (0 : Int) ≤ (bl : Int) + 1 := by omega
      have i2 : (bl : Int) + 1 ≤ (rn : Int) := by omega
      have i3 : bl + 1 ≤ rn := by omega
      have hrm : rn ≤ 1000000 := by rw [hrn, hX, S_size]; exact hlf
      have hwg : IntKind.i64.wrap ((bl : Int) + 1) = (bl : Int) + 1 := IntWalk.i64_in _ (by omega)
      have n1 : ((bl : Int) + 1).toNat = bl + 1 := by omega
      have HWG := Lib.hid hwg
      clear hwg
      have HID := Lib.hid hidx; have HX1 := Lib.hid hx1; have HRL := Lib.hid hrl; have HJ1 := Lib.hid hJ1; have HFZ := Lib.hid hfz
      clear hidx hx0 hx1 hX hrn hbl hrl hst hln1 hb hix hlf hJ1
      gi_wp2_with (refine ⟨trivial, ?_⟩; gi_at_call 85; refine (callsIn_wide.2 (HID.out _)).mono ?_; rintro x w1 ⟨rfl, rfl⟩)
      refine wpIn_wide.2 ?_
      have hwg := HWG.out
      have hG : w1.drew.cell? ⟨Bs, 0, none⟩ = some (.string X) := hcX
      refine wp_region_gate (fun _ => True) (fun w' => w'.cell? ⟨Bs, 0, none⟩ = some (.string X)) 9 (by kernel_rfl) ?_
      refine gate_takeG (i := 0) (v := ?_) rfl (by kernel_rfl) (by kernel_rfl) (by kernel_rfl) (fun _ _ _ h => h) (by decide) (by kernel_rfl) (by kernel_rfl) ⟨trivial, fun _ => hG⟩ (Or.inl ⟨by kernel_rfl, ?_⟩) ?_
      rotate_left
      · intro wq hSw; obtain ⟨-, s0⟩ := hSw; go_simp; rfl
      simp only [Act.put]
      refine gate_takeF (i := 1) (v := ?_) rfl (by kernel_rfl) (by kernel_rfl) (by kernel_rfl) (fun _ _ _ h => h) (by decide) ⟨trivial, fun _ => hG⟩ (Or.inl ⟨by kernel_rfl, ?_⟩) ?_
      rotate_left
      · intro wq hSw; go_simp; rfl
      simp only [Act.put]
      refine gate_takeF (i := 2) (v := ?_) rfl (by kernel_rfl) (by kernel_rfl) (by kernel_rfl) (fun _ _ _ h => h) (by decide) ⟨trivial, fun _ => hG⟩ (Or.inl ⟨by kernel_rfl, ?_⟩) ?_
      rotate_left
      · intro wq hSw; go_simp; rfl
      simp only [Act.put]
      refine gate_takeF (i := 3) (v := ?_) rfl (by kernel_rfl) (by kernel_rfl) (by kernel_rfl) (fun _ _ _ h => h) (by decide) ⟨trivial, fun _ => hG⟩ (Or.inl ⟨by kernel_rfl, ?_⟩) ?_
      rotate_left
      · intro wq hSw; go_simp; rfl
      simp only [Act.put]
      refine gate_takeG (i := 4) (v := ?_) rfl (by kernel_rfl) (by kernel_rfl) (by kernel_rfl) (fun _ _ _ h => h) (by decide) (by kernel_rfl) (by kernel_rfl) ⟨trivial, fun _ => hG⟩ (Or.inl ⟨by kernel_rfl, ?_⟩) ?_
      rotate_left
      · intro wq hSw; obtain ⟨-, s0⟩ := hSw; go_simp; rfl
      simp only [Act.put]
      refine gate_takeF (i := 5) (v := ?_) rfl (by kernel_rfl) (by kernel_rfl) (by kernel_rfl) (fun _ _ _ h => h) (by decide) ⟨trivial, fun _ => hG⟩ (Or.inl ⟨by kernel_rfl, ?_⟩) ?_
      rotate_left
      · intro wq hSw; go_simp; rfl
      simp only [Act.put]
      refine gate_takeF (i := 6) (v := ?_) rfl (by kernel_rfl) (by kernel_rfl) (by kernel_rfl) (fun _ _ _ h => h) (by decide) ⟨trivial, fun _ => hG⟩ (Or.inl ⟨by kernel_rfl, ?_⟩) ?_
      rotate_left
      · intro wq hSw; go_simp; rfl
      simp only [Act.put]
      refine gate_takeF (i := 7) (v := ?_) rfl (by kernel_rfl) (by kernel_rfl) (by kernel_rfl) (fun _ _ _ h => h) (by decide) ⟨trivial, fun _ => hG⟩ (Or.inl ⟨by kernel_rfl, ?_⟩) ?_
      rotate_left
      · intro wq hSw; go_simp; rfl
      simp only [Act.put]
      refine gate_takeF (i := 8) (v := ?_) rfl (by kernel_rfl) (by kernel_rfl) (by kernel_rfl) (fun _ _ _ h => h) (by decide) ⟨trivial, fun _ => hG⟩ (Or.inl ⟨by kernel_rfl, ?_⟩) ?_
      rotate_left
      · intro wq hSw; go_simp; rfl
      simp only [Act.put]
      refine gate_one (i := 9) (by kernel_rfl) rfl (fun K hK => ?_)
      go_simp
      refine hK _ _ (FG.past (by kernel_rfl) trivial) ?_
      clear hK K
      refine gate_done (by kernel_rfl) ?_ _
      try simp only [List.getElem_toArray, List.getElem_cons_succ, List.getElem_cons_zero]
      clear hwg
      gi_wp2
      refine hR.mono ?_
      rintro x W3 ⟨rfl, hJ3, hk3, hf3⟩
      · have hc3 : W3.cell? ⟨Bs, 0, none⟩ = some (.string (S (leftL ls (k + 1)))) := by
          rw [← HX1.out]
          exact Eq.trans hk3 (World.cell?_setCell_same _ _ _ hcX)
        have hz3 : W3.frozen? ⟨Bs, 0, none⟩ = false := by
          rw [hf3]
          show ((w1.setCell ⟨Bs, 0, none⟩ (.string (X.extract (bl + 1) rn)))).frozen? ⟨Bs, 0, none⟩ = false
          rw [World.frozen?_setCell]; exact HFZ.out
        gi_wp2
        go_roundw
        case rel => exact ⟨k + 1, by omega, hJ3, hc3, hz3⟩
        case measure =>
          rw [hc3, hcX]
          simp only [S_size]
          have := HRL.out
          omega
    · obtain rfl : k = N := by omega
      have hz : leftL ls k = [] := by rw [HNL.out]; exact leftL_end ls
      rw [hz] at hc
      have d0 : decide (0 < 0) = false := by decide
      gi_wp2
      go_end0
      exact ⟨⟨_, rfl⟩, hJ1⟩

theorem lines_range {n : Nat} (h2 : 2 ≤ n) {g : Operand} {p : Tmp} {assign body : Code} {Q : Exit → Act → World → Prop} {a : Act} {w : World} {Bs D N : Nat} {ls : List (List UInt8)}
    (hg : a.eval g = .func (.func 84) #[] #[.pointer (some ⟨Bs, 0, none⟩)]) (hN : N = ls.length) (hls : ∀ x ∈ ls, Line x) (hsz : ls.flatten.length ≤ 1000000) (hD : D = w.heap.size)
    (hBs : w.cell? ⟨Bs, 0, none⟩ = some (.string (S ls.flatten))) (hFs : w.frozen? ⟨Bs, 0, none⟩ = false)
    (I : Nat → World → Prop) (h0 : ∀ o o', I 0 ((w.alloc o).alloc o')) (hId : ∀ k W, I k W → I k W.drew) (hIs : ∀ k W v, I k W → I k (W.setCell ⟨Bs, 0, none⟩ v))
    (hIp : ∀ k W l o, (l = D ∨ l = D + 1) → I k W → I k (W.putObj l o)) (a₁ : Nat → Act)
    (hassign : ∀ (l k : Nat) (W : World) (K : Act → World → Prop), K (a₁ k) W → assign.wpIn (Fence.wide.inRound l) (n - 1 - 1) Tryz.prog (Exit.then K (fun _ _ _ => False)) { tmps := a.tmps.setIfInBounds p (.string (S (ls.getD k []))), defers := [] } W)
    (hbody : ∀ (l k : Nat) (W : World), k < N → I k W → body.wpIn (Fence.wide.inRound l) (n - 1 - 1) Tryz.prog (fun e _ W' => e = .normal ∧ I (k + 1) W' ∧ (∀ i, i = D ∨ i = D + 1 → W'.heap[i]? = W.heap[i]?) ∧ KB Bs W W' ∧ W'.frozen? ⟨Bs, 0, none⟩ = W.frozen? ⟨Bs, 0, none⟩) (a₁ k) W)
    (hdone : ∀ W, I N W → W.heap[D]? = some (.deferred (some [])) → Q .normal { a with defers := { target := .collected D, args := #[] } :: a.defers } W) :
    (Code.rangeFunc g #[p] assign body).wpIn Fence.wide n Tryz.prog Q a w := by
  have hBlt : Bs < D := by rw [hD]; exact World.block_lt_of_cell? _ _ hBs
  refine wpIn_rangeFunc fun fn hfn => ?_
  obtain ⟨rec, hrec⟩ : ∃ rec : LoopState → Option Code → Loop, rec = fun st pe => { state := st, pending := pe, fn, tmps := a.tmps, params := #[p], assign, body, defers := w.heap.size } := ⟨_, rfl⟩
  obtain ⟨W1, hW1⟩ : ∃ W1, W1 = (w.alloc (.deferred (some []))).alloc (.loop (rec .ready none)) := ⟨_, rfl⟩
  have hs1 : (w.alloc (.deferred (some []))).heap.size = D + 1 := by rw [hD]; simp
  have hL1 : W1.heap[D + 1]? = some (.loop (rec .ready none)) := by rw [hW1, ← hs1]; exact World.alloc_heap_new _ _
  have hK1 : W1.heap[D]? = some (.deferred (some [])) := by
    rw [hW1]
    exact (Below.heap_alloc _ _ _ (by rw [hs1]; omega)).trans (by rw [hD]; exact World.alloc_heap_new _ _)
  have hlat : Lat w W1 := by rw [hW1]; exact (Lat.alloc _ _).trans (Lat.alloc _ _)
  refine ⟨w.heap.size + 1, [{ target := .collected w.heap.size, args := #[] }], W1, { target := .fn (.func 84) #[.pointer (some ⟨Bs, 0, none⟩)], args := #[.func (.yield (w.heap.size + 1)) #[] #[]] }, W1, 84, #[.func (.yield (w.heap.size + 1)) #[] #[]] ++ #[.pointer (some ⟨Bs, 0, none⟩)], W1, ?_, ?_, fun _ _ => trivial, ?_, fun _ => by omega, ?_⟩
  · rw [hW1, hrec]; exact run_enterLoop_outer _ _ _ _ _
  · simp only [resolve, hg]
    simp [go_sem]
  · skip
    simp [invoke, go_sem]
  rw [← hD]
  have put_at : ∀ (W : World) (i : Nat) (o : Obj) (v : Loop), W.heap[i]? = some (.loop v) → (W.putObj i o).heap[i]? = some o := fun W i o v h => World.putObj_heap_same (Array.getElem?_eq_some_iff.1 h).1
  have hDD : w.heap.size = D := hD.symm
  refine (lines1_in (n - 1) (by omega) (D + 1) Bs N ls hN hls hsz (fun k W => I k W ∧ W.heap[D + 1]? = some (.loop (rec .ready none)) ∧ W.heap[D]? = some (.deferred (some [])))
    (fun k W h => ⟨hId k W h.1, h.2⟩) (fun k W v h => ⟨hIs k W v h.1, (Below.heap_setCell W ⟨Bs, 0, none⟩ v _ (by show D + 1 ≠ Bs; omega)).trans h.2.1, (Below.heap_setCell W ⟨Bs, 0, none⟩ v _ (by show D ≠ Bs; omega)).trans h.2.2⟩) ?_
    W1 (hlat.cell_at hBs) (hlat.free_at (World.block_lt_of_cell? _ _ hBs) hFs) ⟨by rw [hW1]; exact h0 _ _, hL1, hK1⟩).mono ?_
  · rintro k W hk ⟨hi, hl, hd⟩
    have hy := run_yield (P := Tryz.prog) (args := #[.string (S (ls.getD k []))]) hl (by rw [hrec]; rfl)
    rw [hrec] at hy
    refine ⟨fn, _, assign, body, hy, roundIn_of_wpIn hfn ?_⟩
    have key : ∀ (K : Act → World → Prop), K (a₁ k) W → assign.wpIn (Fence.wide.inRound (D + 1)) (n - 1 - 1) Tryz.prog (Exit.then K (fun _ _ _ => False)) { tmps := (#[p].zip #[Value.string (S (ls.getD k []))]).foldl (fun t (p, v) => t.setIfInBounds p v) a.tmps, defers := [] } W := fun K hK => by
      have ez : (#[p].zip #[Value.string (S (ls.getD k []))]).foldl (fun t (p, v) => t.setIfInBounds p v) a.tmps = a.tmps.setIfInBounds p (.string (S (ls.getD k []))) := by simp
      rw [ez]
      exact hassign _ k W K hK
    refine key _ ?_
    refine ⟨_, run_beginRound hl (by rw [hrec]), ?_⟩
    obtain ⟨V, hV⟩ : ∃ V, V = W.putObj (D + 1) (.loop { rec .ready none with state := .busy }) := ⟨_, rfl⟩
    have hlV : V.heap[D + 1]? = some (.loop { rec .ready none with state := .busy }) := by rw [hV]; exact put_at W (D + 1) _ _ hl
    have hdV : V.heap[D]? = some (.deferred (some [])) := by rw [hV]; exact (World.putObj_heap_other (by omega)).trans hd
    have hcV : KB Bs W V := by rw [hV]; exact World.cell?_of_block (World.putObj_heap_other (by show Bs ≠ D + 1; omega))
    have hfV : V.frozen? ⟨Bs, 0, none⟩ = W.frozen? ⟨Bs, 0, none⟩ := by rw [hV]; exact World.frozen?_of_block (World.putObj_heap_other (by show Bs ≠ D + 1; omega))
    have hiV : I k V := by rw [hV]; exact hIp k W _ _ (.inr rfl) hi
    rw [← hV]
    refine wpIn_mono (hbody _ k V hk hiV) ?_
    rintro e a3 W3 ⟨rfl, hi3, hkp, hc3, hf3⟩
    have hl3 := (hkp (D + 1) (.inr rfl)).trans hlV
    have hd3 := (hkp D (.inl rfl)).trans hdV
    have hend := run_endRound (P := Tryz.prog) none hl3
    refine ⟨_, _, hend, rfl, ⟨hIp _ W3 _ _ (.inr rfl) hi3, ?_, (World.putObj_heap_other (by omega)).trans hd3⟩, ?_, ?_⟩
    · have h9 := put_at W3 (D + 1) (.loop (rec .ready none)) _ hl3
      rw [hrec] at h9 ⊢
      exact h9
    · exact KB.trans (KB.trans hcV hc3) (World.cell?_of_block (World.putObj_heap_other (by show Bs ≠ D + 1; omega)))
    · exact (World.frozen?_of_block (World.putObj_heap_other (by show Bs ≠ D + 1; omega))).trans (hf3.trans hfV)
  · rintro e W2 ⟨⟨v, rfl⟩, hi, hl, hd⟩
    have h9 := run_endLoop (P := Tryz.prog) hl (by rw [hrec]; simp)
    rw [hrec] at h9
    exact ⟨none, _, h9, hdone _ (hIp _ W2 _ _ (.inr rfl) hi) ((World.putObj_heap_other (by omega)).trans hd)⟩
end Go.Proofs.YtgcmlpcpkpnfnaaGreatDoor

namespace Go.Proofs.YtgcmlpcpkpnfnaaGreatDoor
open Go.ChangeShapes Go.WideShapes Go.ChangeAt Go.RowKit Go.Shelf

attribute [local go_sem] Oper.semAt_some

theorem wp_only {P : Program} {c : Code} {K : Act → World → Prop} {Q' : Exit → Act → World → Prop} {a : Act} {w : World} (h : c.wp P (Exit.then K (fun _ _ _ => False)) a w) : c.wp P (Exit.then K Q') a w :=
  wp_mono h fun e a' w' hq => by
    cases e with
    | normal => exact hq
    | exit id => exact False.elim hq
    | goto l => exact False.elim hq
    | ret => exact False.elim hq
    | panic ch => exact False.elim hq
    | outgrown => exact False.elim hq
theorem lines_make (s : ByteArray) (w : World) : Calls Tryz.prog 66 #[.string s] w fun e w' => e = .returned (.func (.func 84) #[] #[.pointer (some ⟨w.heap.size, 0, none⟩)]) ∧ w' = w.alloc (.cells #[.string s] 9) := by
  go_enter Tryz.func66, Tryz.ntmps66
  go_wp2
  go_ret
  exact ⟨rfl, rfl⟩
theorem Fr.put (W : World) (l : Nat) (o : Obj) : Fr (fun i => i = l) W (W.putObj l o) := ⟨rfl, rfl, rfl, by simp, fun _ _ hne => World.putObj_heap_other hne⟩
def dsOf (ps : List (Nat × Bts)) : List Dr := ps.map fun p => ⟨(p.1 : Int), S p.2⟩
def lsOf (ps : List (Nat × Bts)) : List (List UInt8) := ps.map fun p => recB (p.1 : Int) p.2
theorem lsOf_line (ps : List (Nat × Bts)) : ∀ x ∈ lsOf ps, Line x := fun x hx => by
  obtain ⟨p, _, rfl⟩ := List.mem_map.1 hx
  exact ⟨_, rfl, fun b hb => (rec_body p.1 p.2 b hb).1⟩
theorem lsOf_get (ps : List (Nat × Bts)) (k : Nat) (hk : k < ps.length) : (lsOf ps).getD k [] = recB ((ps.getD k (0, [])).1 : Int) (ps.getD k (0, [])).2 := by
  unfold lsOf
  rw [List.getD_eq_getElem?_getD, List.getElem?_map, List.getElem?_eq_getElem hk, List.getD_eq_getElem?_getD, List.getElem?_eq_getElem hk]; rfl
theorem dsOf_take (ps : List (Nat × Bts)) (k : Nat) (hk : k < ps.length) : dsOf (ps.take (k + 1)) = dsOf (ps.take k) ++ [⟨((ps.getD k (0, [])).1 : Int), S (ps.getD k (0, [])).2⟩] := by
  unfold dsOf
  rw [List.take_succ_eq_append_getElem hk, List.map_append, List.getD_eq_getElem?_getD, List.getElem?_eq_getElem hk]; rfl
theorem dsOf_new {ps : List (Nat × Bts)} (hnd : (ps.map Prod.fst).Nodup) {k : Nat} (hk : k < ps.length) : (((ps.getD k (0, [])).1 : Nat) : Int) ∉ (dsOf (ps.take k)).map Dr.s := fun hm => by
  obtain ⟨d, hd, hde⟩ := List.mem_map.1 hm
  obtain ⟨p, hp, rfl⟩ := List.mem_map.1 hd
  have e1 : (p.1 : Int) = ((ps.getD k (0, [])).1 : Nat) := hde
  have e2 : p.1 = (ps.getD k (0, [])).1 := by omega
  obtain ⟨i, hi, rfl⟩ := List.getElem_of_mem hp
  rw [List.length_take] at hi
  rw [List.getElem_take, List.getD_eq_getElem?_getD, List.getElem?_eq_getElem hk, Option.getD_some] at e2
  have h3 := (List.pairwise_iff_getElem.1 hnd) i k (by rw [List.length_map]; omega) (by rw [List.length_map]; exact hk) (by omega)
  exact h3 (by simpa using e2)

structure RE (w : World) (eb Bs D y k m n : Nat) (ds : List Dr) (W : World) : Prop where
  ear : ∃ G q K L, EarO G y k m n q K L ds W ∧ ∀ i, G i → w.heap.size + 1 < i ∧ i ≠ eb ∧ i ≠ Bs ∧ i ≠ D ∧ i ≠ D + 1
  box : W.cell? ⟨eb, 0, none⟩ = some (.pointer (some ⟨y, 0, none⟩))
  ord : w.heap.size + 1 < eb ∧ eb < Bs ∧ Bs < D
  lat : Lat w W
  r0 : W.cell? ⟨w.heap.size, 0, none⟩ = some (.pointer none)
  r1 : W.cell? ⟨w.heap.size + 1, 0, none⟩ = some .nilIface
  g0 : W.frozen? ⟨w.heap.size, 0, none⟩ = false
  g1 : W.frozen? ⟨w.heap.size + 1, 0, none⟩ = false
  big : D + 1 < W.heap.size
theorem RE.fr {w : World} {eb Bs D y k m n : Nat} {ds : List Dr} {W W' : World} {H : Nat → Prop} (h : RE w eb Bs D y k m n ds W) (hf : Fr H W W') (hH : ∀ i, H i → i = Bs ∨ i = D ∨ i = D + 1) : RE w eb Bs D y k m n ds W' := by
  obtain ⟨G, q, K, L, he, hG⟩ := h.ear
  obtain ⟨o1, o2, o3⟩ := h.ord
  have hs := h.lat.size
  have big := h.big
  have hn : ∀ j, j < Bs → ¬ H j := fun j hj e => by have := hH j e; omega
  exact ⟨⟨G, q, K, L, he.fr hf (fun i hi e => by have := hG i hi; have := hH i e; omega), hG⟩, hf.cell_at h.box (hn eb o2), h.ord, hf.lat_of h.lat (fun i hi => by have := hH i hi; omega), hf.cell_at h.r0 (hn w.heap.size (by omega)), hf.cell_at h.r1 (hn (w.heap.size + 1) (by omega)),
    hf.free_at (by show w.heap.size < _; omega) h.g0 (hn w.heap.size (by omega)), hf.free_at (by show w.heap.size + 1 < _; omega) h.g1 (hn (w.heap.size + 1) (by omega)), Nat.lt_of_lt_of_le big hf.size⟩
theorem RE.keep {w : World} {eb Bs D y k m n : Nat} {ds : List Dr} {W W' : World} (h : RE w eb Bs D y k m n ds W) (hb : Lat W W') : RE w eb Bs D y k m n ds W' := h.fr (H := fun _ => False) (Fr.lat hb) (fun _ e => e.elim)
theorem RE.hear {w : World} {eb Bs D y k m n : Nat} {ds ds' : List Dr} {W W' : World} {G : Nat → Prop} {q' : Int} {K' : Kn} {L' : List Wt} (h : RE w eb Bs D y k m n ds W) (hG : ∀ i, G i → w.heap.size + 1 < i ∧ i ≠ eb ∧ i ≠ Bs ∧ i ≠ D ∧ i ≠ D + 1) (hs : EarStep G y k m n q' K' L' ds' W W') : RE w eb Bs D y k m n ds' W' := by
  obtain ⟨G', ho, hG'⟩ := hs.obj
  obtain ⟨o1, o2, o3⟩ := h.ord
  have hsz := h.lat.size
  have big := h.big
  have hf := hs.fr
  have nR : ∀ j, j ≤ w.heap.size + 1 → ¬ G j := fun j hj e => by have := hG j e; omega
  exact ⟨⟨G', _, _, _, ho, fun i hi => by
    rcases hG' i hi with e | e
    · exact hG i e
    · omega⟩, hf.cell_at h.box (fun e => (hG eb e).2.1 rfl), h.ord, hf.lat_of h.lat (fun i hi => by have := hG i hi; omega), hf.cell_at h.r0 (nR w.heap.size (by omega)), hf.cell_at h.r1 (nR (w.heap.size + 1) (by omega)), hf.free_at (by show w.heap.size < _; omega) h.g0 (nR w.heap.size (by omega)), hf.free_at (by show w.heap.size + 1 < _; omega) h.g1 (nR (w.heap.size + 1) (by omega)), Nat.lt_of_lt_of_le big hf.size⟩

set_option maxHeartbeats 8000000 in
set_option maxRecDepth 100000 in
theorem redo_ok (G : Nat → Prop) (x k m n : Nat) (ds : List Dr) (B : ByteArray) (sf lf : Int) (st : Bool) (ps : List (Nat × Bts)) (w : World) (h : LogO G x k m n ds B sf lf st w) (hp : SpTab w) (h1 : 1 ≤ k) (h2 : k ≤ 16) (h3 : 1 ≤ m) (h4 : m ≤ 8) (h5 : n ≤ 120) (h6 : many n m = k)
    (hok : ∀ p ∈ ps, drpE k m p.1 (S p.2) = 0) (hl : ps.length ≤ 60) (hnd : (ps.map Prod.fst).Nodup) :
    Calls Tryz.prog 36 #[.pointer (some ⟨x, 0, none⟩), .string (S (lsOf ps).flatten)] w fun e w' => ∃ y Ge q K L, e = .returned (.tuple #[.pointer (some ⟨y, 0, none⟩), .nilIface]) ∧ EarO Ge y k m n q K L (dsOf ps) w' ∧ (∀ i, Ge i → w.heap.size ≤ i) ∧ Lat w w' := by
  obtain ⟨Ge0, y0, q0, K0, L0, h⟩ := h
  have c0 : w.cell? ⟨x, 0, none⟩ = some (.int .i64 k) := h.blk.cell 0 (by decide)
  have c1 : w.cell? ⟨x, 1, none⟩ = some (.int .i64 m) := h.blk.cell 1 (by decide)
  have c2 : w.cell? ⟨x, 2, none⟩ = some (.int .i64 n) := h.blk.cell 2 (by decide)
  have hxl : x < w.heap.size := h.lt x h.gx
  have hnew := fun W => ear_new_ok k m n W h1 h2 h3 h4 h5 h6
  obtain ⟨T, hT⟩ : ∃ T, T = S (lsOf ps).flatten := ⟨_, rfl⟩
  rw [← hT]
  have HNEW := Lib.hid hnew; have HT := Lib.hid hT
  clear h hnew h6 hT
  refine (callsIn_wide (n := 4)).1 ?_
  refine callsIn_of_wp_marks Tryz.func36 rfl trivial ?_ rfl
  simp only [Tryz.ntmps36, List.size_toArray, List.length_cons, List.length_nil, Nat.reduceAdd, Nat.reduceSub, Array.replicate_succ, Array.replicate_zero, List.push_toArray, List.append_toArray, List.nil_append, List.cons_append]
  refine wpIn_wide.2 ?_
  go_upto_region 1 with fail
  obtain ⟨W0, hW0⟩ : ∃ W0, W0 = (w.alloc (.cells #[.pointer none] 50)).alloc (.cells #[.nilIface] 25) := ⟨_, rfl⟩
  have hl0 : Lat w W0 := by rw [hW0]; exact (Lat.alloc _ _).trans (Lat.alloc _ _)
  have hs1 : (w.alloc (.cells #[.pointer none] 50)).heap.size = w.heap.size + 1 := by simp
  have hs0 : W0.heap.size = w.heap.size + 2 := by rw [hW0]; simp
  have r0 : W0.cell? ⟨w.heap.size, 0, none⟩ = some (.pointer none) := by rw [hW0]; exact (Lat.alloc _ _).cell_at (by simp)
  have g0 : W0.frozen? ⟨w.heap.size, 0, none⟩ = false := by rw [hW0]; exact (Lat.alloc _ _).free_at (by simp) (by simp)
  have r1 : W0.cell? ⟨w.heap.size + 1, 0, none⟩ = some .nilIface := by rw [hW0, ← hs1]; simp
  have g1 : W0.frozen? ⟨w.heap.size + 1, 0, none⟩ = false := by rw [hW0, ← hs1]; simp
  rw [← hW0]
  have HL0 := Lib.hid hl0; have HS0 := Lib.hid hs0; have HR0 := Lib.hid r0; have HG0 := Lib.hid g0; have HR1 := Lib.hid r1; have HG1 := Lib.hid g1
  have x0 := hl0.cell_at c0
  have x1 := hl0.cell_at c1
  have x2 := hl0.cell_at c2
  clear hW0 hl0 hs1 hs0 r0 g0 r1 g1 c0 c1 c2
  go_cut [6, 7] from 13 (fun v6 v7 wx => ∃ eb y, v6 = .pointer (some ⟨eb, 0, none⟩) ∧ v7 = .nilIface ∧ Hid (∃ G, EarO G y k m n 0 (fun _ => none) [] [] wx ∧ (∀ i, G i → w.heap.size + 1 < i ∧ i ≠ eb) ∧ wx.cell? ⟨eb, 0, none⟩ = some (.pointer (some ⟨y, 0, none⟩)) ∧ w.heap.size + 1 < eb ∧ eb < wx.heap.size ∧ Lat W0 wx))
  case first =>
    refine wp_only ?_
    have hF : W0.drew.cell? ⟨x, 0, none⟩ = some (.int .i64 k) ∧ W0.drew.cell? ⟨x, 1, none⟩ = some (.int .i64 m) ∧ W0.drew.cell? ⟨x, 2, none⟩ = some (.int .i64 n) := ⟨x0, x1, x2⟩
    refine wp_region_gate (fun w' => w'.cell? ⟨x, 0, none⟩ = some (.int .i64 k) ∧ w'.cell? ⟨x, 1, none⟩ = some (.int .i64 m) ∧ w'.cell? ⟨x, 2, none⟩ = some (.int .i64 n)) (fun _ => True) 1000 (by kernel_rfl) ?_
    refine gate_takeF (i := 0) (v := ?_) rfl (by kernel_rfl) (by kernel_rfl) (by kernel_rfl) (fun _ _ _ h => h) (by decide) ⟨hF, fun _ => trivial⟩ (Or.inl ⟨by kernel_rfl, ?_⟩) ?_
    rotate_left
    · intro wq hSw; obtain ⟨s0, s1, s2⟩ := hSw; go_simp; rfl
    simp only [Act.put]
    refine gate_takeF (i := 1) (v := ?_) rfl (by kernel_rfl) (by kernel_rfl) (by kernel_rfl) (fun _ _ _ h => h) (by decide) ⟨hF, fun _ => trivial⟩ (Or.inl ⟨by kernel_rfl, ?_⟩) ?_
    rotate_left
    · intro wq hSw; obtain ⟨s0, s1, s2⟩ := hSw; go_simp; rfl
    simp only [Act.put]
    refine gate_takeF (i := 2) (v := ?_) rfl (by kernel_rfl) (by kernel_rfl) (by kernel_rfl) (fun _ _ _ h => h) (by decide) ⟨hF, fun _ => trivial⟩ (Or.inl ⟨by kernel_rfl, ?_⟩) ?_
    rotate_left
    · intro wq hSw; obtain ⟨s0, s1, s2⟩ := hSw; go_simp; rfl
    simp only [Act.put]
    refine gate_takeF (i := 3) (v := ?_) rfl (by kernel_rfl) (by kernel_rfl) (by kernel_rfl) (fun _ _ _ h => h) (by decide) ⟨hF, fun _ => trivial⟩ (Or.inl ⟨by kernel_rfl, ?_⟩) ?_
    rotate_left
    · intro wq hSw; obtain ⟨s0, s1, s2⟩ := hSw; go_simp; rfl
    simp only [Act.put]
    refine gate_takeF (i := 4) (v := ?_) rfl (by kernel_rfl) (by kernel_rfl) (by kernel_rfl) (fun _ _ _ h => h) (by decide) ⟨hF, fun _ => trivial⟩ (Or.inl ⟨by kernel_rfl, ?_⟩) ?_
    rotate_left
    · intro wq hSw; obtain ⟨s0, s1, s2⟩ := hSw; go_simp; rfl
    simp only [Act.put]
    refine gate_takeF (i := 5) (v := ?_) rfl (by kernel_rfl) (by kernel_rfl) (by kernel_rfl) (fun _ _ _ h => h) (by decide) ⟨hF, fun _ => trivial⟩ (Or.inl ⟨by kernel_rfl, ?_⟩) ?_
    rotate_left
    · intro wq hSw; obtain ⟨s0, s1, s2⟩ := hSw; go_simp; rfl
    simp only [Act.put]
    refine gate_takeF (i := 6) (v := ?_) rfl (by kernel_rfl) (by kernel_rfl) (by kernel_rfl) (fun _ _ _ h => h) (by decide) ⟨hF, fun _ => trivial⟩ (Or.inl ⟨by kernel_rfl, ?_⟩) ?_
    rotate_left
    · intro wq hSw; obtain ⟨s0, s1, s2⟩ := hSw; go_simp; rfl
    simp only [Act.put]
    refine gate_takeF (i := 7) (v := ?_) rfl (by kernel_rfl) (by kernel_rfl) (by kernel_rfl) (fun _ _ _ h => h) (by decide) ⟨hF, fun _ => trivial⟩ (Or.inl ⟨by kernel_rfl, ?_⟩) ?_
    rotate_left
    · intro wq hSw; obtain ⟨s0, s1, s2⟩ := hSw; go_simp; rfl
    simp only [Act.put]
    refine gate_takeF (i := 8) (v := ?_) rfl (by kernel_rfl) (by kernel_rfl) (by kernel_rfl) (fun _ _ _ h => h) (by decide) ⟨hF, fun _ => trivial⟩ (Or.inl ⟨by kernel_rfl, ?_⟩) ?_
    rotate_left
    · intro wq hSw; obtain ⟨s0, s1, s2⟩ := hSw; go_simp; rfl
    simp only [Act.put]
    refine gate_takeF (i := 9) (v := ?_) rfl (by kernel_rfl) (by kernel_rfl) (by kernel_rfl) (fun _ _ _ h => h) (by decide) ⟨hF, fun _ => trivial⟩ (Or.inl ⟨by kernel_rfl, ?_⟩) ?_
    rotate_left
    · intro wq hSw; obtain ⟨s0, s1, s2⟩ := hSw; go_simp; rfl
    simp only [Act.put]
    refine gate_takeF (i := 10) (v := ?_) rfl (by kernel_rfl) (by kernel_rfl) (by kernel_rfl) (fun _ _ _ h => h) (by decide) ⟨hF, fun _ => trivial⟩ (Or.inl ⟨by kernel_rfl, ?_⟩) ?_
    rotate_left
    · intro wq hSw; obtain ⟨s0, s1, s2⟩ := hSw; go_simp; rfl
    simp only [Act.put]
    refine gate_takeF (i := 11) (v := ?_) rfl (by kernel_rfl) (by kernel_rfl) (by kernel_rfl) (fun _ _ _ h => h) (by decide) ⟨hF, fun _ => trivial⟩ (Or.inl ⟨by kernel_rfl, ?_⟩) ?_
    rotate_left
    · intro wq hSw; obtain ⟨s0, s1, s2⟩ := hSw; go_simp; rfl
    simp only [Act.put]
    refine gate_two (i := 12) (j := 16) (by kernel_rfl) rfl rfl (fun K hK => ?_) (fun K hK => ?_)
    · go_simp
      refine (HNEW.out W0.drew).mono ?_
      rintro e w3 ⟨y, G3, rfl, he, hG, hl⟩
      have hF' : w3.cell? ⟨x, 0, none⟩ = some (.int .i64 k) ∧ w3.cell? ⟨x, 1, none⟩ = some (.int .i64 m) ∧ w3.cell? ⟨x, 2, none⟩ = some (.int .i64 n) := ⟨hl.cell_at hF.1, hl.cell_at hF.2.1, hl.cell_at hF.2.2⟩
      refine hK _ _ ⟨hF', fun _ => trivial⟩ ?_
      clear hK K hF
      have hF := hF'
      clear hF'
      refine gate_takeF (i := 13) (v := ?_) rfl (by kernel_rfl) (by kernel_rfl) (by kernel_rfl) (fun _ _ _ h => h) (by decide) ⟨hF, fun _ => trivial⟩ (Or.inl ⟨by kernel_rfl, ?_⟩) ?_
      rotate_left
      · intro wq hSw; obtain ⟨s0, s1, s2⟩ := hSw; go_simp; rfl
      simp only [Act.put]
      refine gate_takeF (i := 14) (v := ?_) rfl (by kernel_rfl) (by kernel_rfl) (by kernel_rfl) (fun _ _ _ h => h) (by decide) ⟨hF, fun _ => trivial⟩ (Or.inl ⟨by kernel_rfl, ?_⟩) ?_
      rotate_left
      · intro wq hSw; obtain ⟨s0, s1, s2⟩ := hSw; go_simp; rfl
      simp only [Act.put]
      refine gate_takeF (i := 15) (v := ?_) rfl (by kernel_rfl) (by kernel_rfl) (by kernel_rfl) (fun _ _ _ h => h) (by decide) ⟨hF, fun _ => trivial⟩ (Or.inl ⟨by kernel_rfl, ?_⟩) ?_
      rotate_left
      · intro wq hSw; obtain ⟨s0, s1, s2⟩ := hSw; go_simp; rfl
      simp only [Act.put]
      have HFIN : Hid (∃ G, EarO G y k m n 0 (fun _ => none) [] [] (w3.alloc (.cells #[.pointer (some ⟨y, 0, none⟩)] 50)) ∧ (∀ i, G i → w.heap.size + 1 < i ∧ i ≠ w3.heap.size) ∧ (w3.alloc (.cells #[.pointer (some ⟨y, 0, none⟩)] 50)).cell? ⟨w3.heap.size, 0, none⟩ = some (.pointer (some ⟨y, 0, none⟩)) ∧ w.heap.size + 1 < w3.heap.size ∧ w3.heap.size < (w3.alloc (.cells #[.pointer (some ⟨y, 0, none⟩)] 50)).heap.size ∧ Lat W0 (w3.alloc (.cells #[.pointer (some ⟨y, 0, none⟩)] 50))) :=
        ⟨G3, he.keep (Lat.alloc _ _), fun i hi => ⟨by have h1 : W0.heap.size ≤ i := hG i hi; have := HS0.out; omega, by have := he.lt i hi; omega⟩, by simp, by have h1 : W0.heap.size ≤ w3.heap.size := hl.size; have := HS0.out; omega, by simp, ((Lat.drew W0).trans hl).trans (Lat.alloc _ _)⟩
      clear he hG hl
      refine gate_one (i := 16) (by kernel_rfl) rfl (fun K hK => ?_)
      go_simp
      refine hK _ _ ⟨⟨(Lat.alloc _ _).cell_at hF.1, (Lat.alloc _ _).cell_at hF.2.1, (Lat.alloc _ _).cell_at hF.2.2⟩, fun _ => trivial⟩ ?_
      clear hK K
      refine gate_one (i := 17) (by kernel_rfl) rfl (fun K hK => ?_)
      go_simp
      refine hK _ _ ⟨⟨(Lat.alloc _ _).cell_at hF.1, (Lat.alloc _ _).cell_at hF.2.1, (Lat.alloc _ _).cell_at hF.2.2⟩, fun _ => trivial⟩ ?_
      clear hK K
      refine gate_one (i := 18) (by kernel_rfl) rfl (fun K hK => ?_)
      go_simp
      refine hK _ _ ⟨⟨(Lat.alloc _ _).cell_at hF.1, (Lat.alloc _ _).cell_at hF.2.1, (Lat.alloc _ _).cell_at hF.2.2⟩, fun _ => trivial⟩ ?_
      clear hK K
      refine gate_done (by kernel_rfl) ?_ _
      clear hF
      try simp only [List.getElem_toArray, List.getElem_cons_succ, List.getElem_cons_zero]
      go_simp
      go_step
      go_meet
      case rel => exact ⟨w3.heap.size, y, rfl, rfl, HFIN.out⟩
    · go_simp
      refine hK _ _ ⟨⟨(Lat.alloc _ _).cell_at hF.1, (Lat.alloc _ _).cell_at hF.2.1, (Lat.alloc _ _).cell_at hF.2.2⟩, fun _ => trivial⟩ ?_
      clear hK K
      obtain ⟨W4, hW4⟩ : ∃ W, W = (W0.alloc (.cells #[.pointer none] 50)).drew := ⟨_, rfl⟩
      obtain ⟨gc, hgc⟩ : ∃ g, g = W0.heap.size := ⟨_, rfl⟩
      have hl4 : Lat W0 W4 := by rw [hW4]; exact (Lat.alloc W0 _).trans (Lat.drew _)
      have hc4 : W4.cell? ⟨gc, 0, none⟩ = some (.pointer none) := by rw [hW4, hgc]; exact (Lat.drew _).cell_at (by simp)
      have hz4 : W4.frozen? ⟨gc, 0, none⟩ = false := by rw [hW4, hgc]; exact (Lat.drew _).free_at (by simp) (by simp)
      have hs4 : W4.heap.size = gc + 1 := by
        rw [hW4, hgc]
        show (W0.alloc (.cells #[.pointer none] 50)).heap.size = _
        simp
      have hF4 : W4.cell? ⟨x, 0, none⟩ = some (.int .i64 k) ∧ W4.cell? ⟨x, 1, none⟩ = some (.int .i64 m) ∧ W4.cell? ⟨x, 2, none⟩ = some (.int .i64 n) := ⟨hl4.cell_at x0, hl4.cell_at x1, hl4.cell_at x2⟩
      rw [← hW4, ← hgc]
      have HGC := Lib.hid hgc; have HL4 := Lib.hid hl4; have HC4 := Lib.hid hc4; have HZ4 := Lib.hid hz4; have HS4 := Lib.hid hs4
      clear hW4 hgc hl4 hc4 hz4 hs4 hF
      have hF := hF4
      clear hF4
      refine gate_one (i := 12) (by kernel_rfl) rfl (fun K hK => ?_)
      go_simp
      refine (HNEW.out W4).mono ?_
      rintro e w3 ⟨y, G3, rfl, he, hG, hl⟩
      have hF' : w3.cell? ⟨x, 0, none⟩ = some (.int .i64 k) ∧ w3.cell? ⟨x, 1, none⟩ = some (.int .i64 m) ∧ w3.cell? ⟨x, 2, none⟩ = some (.int .i64 n) := ⟨hl.cell_at hF.1, hl.cell_at hF.2.1, hl.cell_at hF.2.2⟩
      refine hK _ _ ⟨hF', fun _ => trivial⟩ ?_
      clear hK K hF
      have hF := hF'
      clear hF'
      refine gate_takeF (i := 13) (v := ?_) rfl (by kernel_rfl) (by kernel_rfl) (by kernel_rfl) (fun _ _ _ h => h) (by decide) ⟨hF, fun _ => trivial⟩ (Or.inl ⟨by kernel_rfl, ?_⟩) ?_
      rotate_left
      · intro wq hSw; obtain ⟨s0, s1, s2⟩ := hSw; go_simp; rfl
      simp only [Act.put]
      refine gate_takeF (i := 14) (v := ?_) rfl (by kernel_rfl) (by kernel_rfl) (by kernel_rfl) (fun _ _ _ h => h) (by decide) ⟨hF, fun _ => trivial⟩ (Or.inl ⟨by kernel_rfl, ?_⟩) ?_
      rotate_left
      · intro wq hSw; obtain ⟨s0, s1, s2⟩ := hSw; go_simp; rfl
      simp only [Act.put]
      refine gate_takeF (i := 15) (v := ?_) rfl (by kernel_rfl) (by kernel_rfl) (by kernel_rfl) (fun _ _ _ h => h) (by decide) ⟨hF, fun _ => trivial⟩ (Or.inl ⟨by kernel_rfl, ?_⟩) ?_
      rotate_left
      · intro wq hSw; obtain ⟨s0, s1, s2⟩ := hSw; go_simp; rfl
      simp only [Act.put]
      have p0 := hl.cell_at HC4.out
      have f0 := hl.free_at (World.block_lt_of_cell? _ _ HC4.out) HZ4.out
      have hfr : Fr (fun i => i = gc) w3 (w3.setCell ⟨gc, 0, none⟩ (.pointer (some ⟨y, 0, none⟩))) := Fr.set (S := fun i => i = gc) w3 ⟨gc, 0, none⟩ _ rfl
      have hgx : ¬ x = gc := by have := HGC.out; have := HS0.out; omega
      have HF9 : Hid ((w3.setCell ⟨gc, 0, none⟩ (.pointer (some ⟨y, 0, none⟩))).cell? ⟨x, 0, none⟩ = some (.int .i64 k) ∧ (w3.setCell ⟨gc, 0, none⟩ (.pointer (some ⟨y, 0, none⟩))).cell? ⟨x, 1, none⟩ = some (.int .i64 m) ∧ (w3.setCell ⟨gc, 0, none⟩ (.pointer (some ⟨y, 0, none⟩))).cell? ⟨x, 2, none⟩ = some (.int .i64 n)) := ⟨hfr.cell_at hF.1 hgx, hfr.cell_at hF.2.1 hgx, hfr.cell_at hF.2.2 hgx⟩
      have HFIN : Hid (∃ G, EarO G y k m n 0 (fun _ => none) [] [] (w3.setCell ⟨gc, 0, none⟩ (.pointer (some ⟨y, 0, none⟩))) ∧ (∀ i, G i → w.heap.size + 1 < i ∧ i ≠ gc) ∧ (w3.setCell ⟨gc, 0, none⟩ (.pointer (some ⟨y, 0, none⟩))).cell? ⟨gc, 0, none⟩ = some (.pointer (some ⟨y, 0, none⟩)) ∧ w.heap.size + 1 < gc ∧ gc < (w3.setCell ⟨gc, 0, none⟩ (.pointer (some ⟨y, 0, none⟩))).heap.size ∧ Lat W0 (w3.setCell ⟨gc, 0, none⟩ (.pointer (some ⟨y, 0, none⟩)))) := by
        have hG2 : ∀ i, G3 i → gc + 1 ≤ i := fun i hi => by have := hG i hi; have := HS4.out; omega
        have hgc2 := HGC.out
        have hs2 := HS0.out
        refine ⟨G3, he.fr hfr (fun i hi e => by have := hG2 i hi; have e2 : i = gc := e; omega), fun i hi => by have := hG2 i hi; omega, World.cell?_setCell_same _ _ _ p0, by omega, Nat.lt_of_lt_of_le (World.block_lt_of_cell? _ _ p0) hfr.size, hfr.lat_of (HL4.out.trans hl) (fun i hi => by have e2 : i = gc := hi; omega)⟩
      clear he hG hl hfr hgx
      refine gate_one (i := 17) (by kernel_rfl) rfl (fun K hK => ?_)
      go_simp
      refine hK _ _ ⟨HF9.out, fun _ => trivial⟩ ?_
      clear hK K hF p0 f0
      refine gate_one (i := 18) (by kernel_rfl) rfl (fun K hK => ?_)
      go_simp
      refine hK _ _ ⟨HF9.out, fun _ => trivial⟩ ?_
      clear hK K
      refine gate_done (by kernel_rfl) ?_ _
      try simp only [List.getElem_toArray, List.getElem_cons_succ, List.getElem_cons_zero]
      go_simp
      go_step
      go_meet
      case rel => exact ⟨gc, y, rfl, rfl, HFIN.out⟩
  case rest =>
  obtain ⟨eb, y, rfl, rfl, hrel⟩ := hcut
  clear x0 x1 x2
  have HREL := Lib.hid hrel.out
  clear hrel
  obtain ⟨G1, he, hG1, hbx, hebl, heb2, hlW⟩ := HREL.out
  have hlw := HL0.out.trans hlW
  have hr0 := hlW.cell_at HR0.out
  have hr1 := hlW.cell_at HR1.out
  have hg0 := hlW.free_at (by show w.heap.size < W0.heap.size; have := HS0.out; omega) HG0.out
  have hg1 := hlW.free_at (by show w.heap.size + 1 < W0.heap.size; have := HS0.out; omega) HG1.out
  clear HREL HR0 HR1 HG0 HG1
  have hsz : (lsOf ps).flatten.length ≤ 1000000 := by
    have h9 : ∀ (qs : List (Nat × Bts)), (∀ p ∈ qs, drpE k m p.1 (S p.2) = 0) → (lsOf qs).flatten.length ≤ qs.length * 55 := fun qs => by
      induction qs with
      | nil => intro _; simp [lsOf]
      | cons q qs ih =>
        intro hq
        have h1 := ih (fun p hp => hq p (List.mem_cons_of_mem q hp))
        have hd := drpE_zero (hq q List.mem_cons_self)
        have hle : q.2.length ≤ 8 := by
          have h8 : ((S q.2).size : Int) = m := hd.2.2.2.2.2.2
          rw [S_size] at h8; omega
        have hs := rec_short (s := q.1) (t := q.2) (by omega) hle
        unfold lsOf at h1 ⊢
        rw [List.map_cons, List.flatten_cons, List.length_append, List.length_cons]
        have e : (qs.length + 1) * 55 = qs.length * 55 + 55 := by omega
        omega
    have := h9 ps hok
    omega
  have HSZ := Lib.hid hsz
  have HE := Lib.hid he; have HGG := Lib.hid hG1; have HBX := Lib.hid hbx; have HLW := Lib.hid hlw; have HR := Lib.hid (And.intro hr0 hr1); have HGZ := Lib.hid (And.intro hg0 hg1)
  clear he hG1 hbx hlW hlw hr0 hr1 hg0 hg1 hsz
  go_wp2_with fail
  refine (lines_make T wc).mono ?_
  rintro e w4 ⟨rfl, hw4⟩
  obtain ⟨Bs, hBs⟩ : ∃ Bs, Bs = wc.heap.size := ⟨_, rfl⟩
  have hl4 : Lat wc w4 := by rw [hw4]; exact Lat.alloc _ _
  have hc4 : w4.cell? ⟨Bs, 0, none⟩ = some (.string T) := by rw [hw4, hBs]; simp
  have hz4 : w4.frozen? ⟨Bs, 0, none⟩ = false := by rw [hw4, hBs]; simp
  have hs4 : w4.heap.size = Bs + 1 := by rw [hw4, hBs]; simp
  rw [← hBs]
  obtain ⟨D, hD⟩ : ∃ D, D = w4.heap.size := ⟨_, rfl⟩
  have hre : ∀ o o', RE w eb Bs D y k m n (dsOf (ps.take 0)) ((w4.alloc o).alloc o') := fun o o' => by
    have hb : Lat wc ((w4.alloc o).alloc o') := (hl4.trans (Lat.alloc _ _)).trans (Lat.alloc _ _)
    have hsw := HLW.out.size
    refine ⟨⟨G1, 0, _, _, HE.out.keep hb, fun i hi => ?_⟩, hb.cell_at HBX.out, ⟨hebl, by omega, by omega⟩, HLW.out.trans hb, hb.cell_at HR.out.1, hb.cell_at HR.out.2, hb.free_at (World.block_lt_of_cell? _ _ HR.out.1) HGZ.out.1, hb.free_at (World.block_lt_of_cell? _ _ HR.out.2) HGZ.out.2, ?_⟩
    · have h1 := HGG.out i hi
      have h2 := HE.out.lt i hi
      omega
    · simp; omega
  have HRE := Lib.hid hre; have HC4 := Lib.hid hc4; have HZ4 := Lib.hid hz4
  have hwD : w.heap.size + 1 < D := by have := HLW.out.size; omega
  have hbD : Bs < D := by omega
  have hD' := hD
  clear hw4 hl4 hc4 hz4 hs4 hre hBs heb2
  go_wp2_with fail
  refine wpIn_wide.1 (lines_range (n := 4) (by omega) (Bs := Bs) (D := D) rfl rfl (lsOf_line ps) HSZ.out hD' (by rw [← HT.out]; exact HC4.out) HZ4.out (fun j W => RE w eb Bs D y k m n (dsOf (ps.take j)) W) HRE.out (fun j W hI => hI.keep (Lat.drew W)) (fun j W v hI => hI.fr (Fr.set (S := fun i => i = Bs) W ⟨Bs, 0, none⟩ v rfl) (fun i hi => .inl hi)) (fun j W l o hl hI => hI.fr (Fr.put W l o) (fun i hi => .inr (by have e : i = l := hi; rw [e]; exact hl)))
    (fun j => { tmps := #[.pointer (some ⟨x, 0, none⟩), .string T, undef, undef, .pointer (some ⟨w.heap.size, 0, none⟩), .pointer (some ⟨w.heap.size + 1, 0, none⟩), .pointer (some ⟨eb, 0, none⟩), .nilIface, .string (S ((lsOf ps).getD j [])), undef, undef, undef, undef, u13, u14, u15, u16, u17, u18, u19, u20, u21, u22, u23, u24, u25, u26, u27, u28, .nilIface, .bool false, u31, .string T, .func (.func 84) #[] #[.pointer (some ⟨Bs, 0, none⟩)], .string (S ((lsOf ps).getD j [])), u35, u36, u37, u38, u39, u40, u41, u42, u43, u44, u45, u46, u47, u48, u49, u50, u51, u52], defers := [] }) ?assign ?body ?done)
  case assign =>
    intro l j W K hK
    gi_wp2
    exact hK
  case body =>
    intro l j W hj hI
    clear hD hD'
    have hjp : j < ps.length := by unfold lsOf at hj; rw [List.length_map] at hj; exact hj
    have hlg := lsOf_get ps j hjp
    have hdn := dsOf_take ps j hjp
    have hnw := dsOf_new hnd hjp
    have hpm : ps.getD j (0, []) ∈ ps := by rw [List.getD_eq_getElem?_getD, List.getElem?_eq_getElem hjp]; exact List.getElem_mem hjp
    have hdk := hok _ hpm
    obtain ⟨s, hs⟩ : ∃ s, s = (ps.getD j (0, [])).1 := ⟨_, rfl⟩
    obtain ⟨t, ht⟩ : ∃ t, t = (ps.getD j (0, [])).2 := ⟨_, rfl⟩
    rw [← hs, ← ht] at hlg hdn hdk
    rw [← hs] at hnw
    rw [hlg]
    have hdz := drpE_zero hdk
    have hs1 : s ≤ 10000 := by omega
    have ht8 : t.length ≤ 8 := by
      have h8 : ((S t).size : Int) = m := hdz.2.2.2.2.2.2
      rw [S_size] at h8; omega
    have hrd := read_any s t W (hp.keep hI.lat) hs1 ht8
    obtain ⟨Ge, q, K, L, hear, hGe⟩ := hI.ear
    have hlen : (dsOf (ps.take j)).length < 60 := by unfold dsOf; rw [List.length_map, List.length_take]; omega
    have hhe := fun V (hV : Lat W V) => ear_hear_any Ge y k m n q K L (dsOf (ps.take j)) s t V (hear.keep hV) hdk hlen _ rfl
    rw [hds_new hnw, ← hdn] at hhe
    obtain ⟨NL, hNL⟩ : ∃ NL, NL = (dsOf (ps.take (j + 1))).length := ⟨_, rfl⟩
    rw [← hNL] at hhe
    have HRD := Lib.hid hrd; have HHE := Lib.hid hhe; have HI := Lib.hid hI; have HGE := Lib.hid hGe
    clear hlg hdn hnw hpm hdk hs ht hdz hs1 ht8 hrd hear hGe hlen hhe hNL hI
    gi_wp2_with (refine ⟨trivial, ?_⟩; gi_at_call 67; refine (CallsIn.inRound l (callsIn_wide.2 HRD.out)).mono ?_; rintro e5 W2 ⟨rfl, hb2⟩; have hb3 : Lat W (W2.alloc (.cells #[.int .i64 s, .string (S t)] 32)) := hb2.trans (Lat.alloc _ _); have hbx3 := (HI.out.keep hb3).box)
    have HB3 := Lib.hid hb3
    clear hb2 hb3
    gi_wp2_with (refine ⟨trivial, ?_⟩; gi_at_call 19; refine (CallsIn.inRound l (callsIn_wide.2 (HHE.out _ HB3.out))).mono ?_; rintro e6 W5 ⟨r, K3, L3, -, rfl, hst⟩)
    have hb6 : Lat W5 (W5.alloc (.cells #[.int .i64 (wrap64 (q + 1)), .int .i64 (NL : Nat), .int .i64 (r : Nat)] 54)) := Lat.alloc _ _
    have hfr : Fr Ge W (W5.alloc (.cells #[.int .i64 (wrap64 (q + 1)), .int .i64 (NL : Nat), .int .i64 (r : Nat)] 54)) := (((Fr.lat HB3.out : Fr Ge W _).trans hst.fr (fun _ _ e => e))).next hb6
    have hre2 := ((HI.out.keep HB3.out).hear HGE.out hst).keep hb6
    have hbig := HI.out.big
    have hblk : ∀ i, i = D ∨ i = D + 1 ∨ i = Bs → (W5.alloc (.cells #[.int .i64 (wrap64 (q + 1)), .int .i64 (NL : Nat), .int .i64 (r : Nat)] 54)).heap[i]? = W.heap[i]? := fun i hi => hfr.block i (by omega) (fun e => by have := HGE.out i e; omega)
    exact ⟨hre2, ⟨hblk D (.inl rfl), hblk (D + 1) (.inr (.inl rfl))⟩, World.cell?_of_block (hblk Bs (.inr (.inr rfl))), World.frozen?_of_block (hblk Bs (.inr (.inr rfl)))⟩
  case done =>
    intro W hI hK
    have hN : (lsOf ps).length = ps.length := by unfold lsOf; rw [List.length_map]
    have hI : RE w eb Bs D y k m n (dsOf ps) W := by
      have h9 := hI
      rw [hN, List.take_length] at h9
      exact h9
    obtain ⟨G9, q9, K9, L9, he9, hG9⟩ := hI.ear
    have bx := hI.box
    have r0 := hI.r0
    have r1 := hI.r1
    have g0 := hI.g0
    have g1 := hI.g1
    have HI := Lib.hid hI; have HE9 := Lib.hid he9; have HG9 := Lib.hid hG9; have HKD := Lib.hid hK
    clear hI he9 hG9 hK hN
    have hRD : w.heap.size ≠ D := by omega
    have hRE : w.heap.size + 1 ≠ D := by omega
    go_wp2_with fail
    obtain ⟨W8, hW8⟩ : ∃ W8, W8 = (W.setCell ⟨w.heap.size, 0, none⟩ (.pointer (some ⟨y, 0, none⟩))).setCell ⟨w.heap.size + 1, 0, none⟩ .nilIface := ⟨_, rfl⟩
    have hf8 : Fr (fun i => i = w.heap.size ∨ i = w.heap.size + 1) W W8 := by
      rw [hW8]
      exact (Fr.set (S := fun i => i = w.heap.size ∨ i = w.heap.size + 1) W ⟨w.heap.size, 0, none⟩ (.pointer (some ⟨y, 0, none⟩)) (.inl rfl)).then_set ⟨w.heap.size + 1, 0, none⟩ .nilIface (.inl (.inr rfl))
    have hsw := HI.out.lat.size
    have hbig := HI.out.big
    have hD8 : W8.heap[D]? = some (.deferred (some [])) := (hf8.block D (by omega) (fun e => by rcases e with e | e <;> omega)).trans HKD.out
    have q0 : W8.cell? ⟨w.heap.size, 0, none⟩ = some (.pointer (some ⟨y, 0, none⟩)) := by
      rw [hW8, World.cell?_setCell_other _ _ _ _ (by simp)]
      exact World.cell?_setCell_same _ _ _ r0
    have q1 : W8.cell? ⟨w.heap.size + 1, 0, none⟩ = some .nilIface := by
      rw [hW8]
      exact World.cell?_setCell_same _ _ _ ((World.cell?_setCell_other _ _ _ _ (by simp)).trans r1)
    rw [← hW8]
    refine ⟨by simp, .inl ⟨_, _, rfl, run_takeDeferred hD8, ?_⟩⟩
    have hf9 : ∀ o, Fr (fun i => i = w.heap.size ∨ i = w.heap.size + 1 ∨ i = D) W (W8.putObj D o) := fun o => (hf8.mono (T := fun i => i = w.heap.size ∨ i = w.heap.size + 1 ∨ i = D) (fun i _ e => e.imp id .inl)).trans (Fr.put W8 D o) (fun i _ e => .inr (.inr e))
    have p0 : ∀ o, (W8.putObj D o).cell? ⟨w.heap.size, 0, none⟩ = some (.pointer (some ⟨y, 0, none⟩)) := fun o => (Fr.put W8 D o).cell_at q0 hRD
    have p1 : ∀ o, (W8.putObj D o).cell? ⟨w.heap.size + 1, 0, none⟩ = some .nilIface := fun o => (Fr.put W8 D o).cell_at q1 hRE
    refine ⟨.tuple #[.pointer (some ⟨y, 0, none⟩), .nilIface], by simp [results, Tryz.results36, go_sem, p0, p1], y, G9, q9, K9, L9, rfl, HE9.out.fr (hf9 _) (fun i hi e => ?_), fun i hi => ?_, (hf9 _).lat_of HI.out.lat (fun i hi => ?_)⟩
    · have := HG9.out i hi
      rcases e with e | e | e <;> omega
    · have := HG9.out i hi
      omega
    · rcases hi with e | e | e <;> omega
end Go.Proofs.YtgcmlpcpkpnfnaaGreatDoor

namespace Go.Proofs.YtgcmlpcpkpnfnaaGreatDoor
open Go.ChangeShapes Go.WideShapes Go.ChangeAt Go.RowKit

theorem S_at (l : List UInt8) (i : Nat) (h : i < l.length) : (S l).data[i]! = l[i] := by
  show l.toArray[i]! = l[i]
  simp [h]
theorem last_line (A r : List UInt8) (hA : A = [] ∨ ∃ b, A = b ++ [10]) (hr : ∀ x ∈ r, x ≠ 10) : Lib.lastIndexByte (S (A ++ r)) 10 + 1 = A.length := by
  have hsz : (S (A ++ r)).size = A.length + r.length := by rw [S_size, List.length_append]
  have hrest : ∀ i, A.length ≤ i → i < A.length + r.length → (((S (A ++ r)).data[i]!).toNat : Int) ≠ 10 := fun i h1 h2 e => by
    rw [S_at _ _ (by rw [List.length_append]; exact h2), List.getElem_append_right h1] at e
    have hm := hr _ (List.getElem_mem (by omega : i - A.length < r.length))
    exact hm (UInt8.toNat_inj.1 (by show _ = 10; omega))
  rcases Lib.lastIndexByte_spec (S (A ++ r)) 10 with ⟨e, hn⟩ | ⟨i, hi, e, hc, hn⟩
  · rcases hA with rfl | ⟨b, rfl⟩
    · rw [e]; rfl
    · exfalso
      refine hn b.length (by rw [hsz, List.length_append]; simp only [List.length_cons, List.length_nil]; omega) ?_
      rw [S_at _ _ (by rw [List.length_append, List.length_append]; simp only [List.length_cons, List.length_nil]; omega)]
      simp
  · rw [hsz] at hi hn
    have hlt : i < A.length := by
      rcases Nat.lt_or_ge i A.length with h | h
      · exact h
      · exact absurd hc (hrest i h hi)
    rcases hA with rfl | ⟨b, rfl⟩
    · simp at hlt
    · rw [List.length_append] at hlt hn ⊢
      simp only [List.length_cons, List.length_nil] at hlt hn ⊢
      have : i = b.length := by
        rcases Nat.lt_or_ge i b.length with h | h
        · exfalso
          refine hn b.length h (by omega) ?_
          rw [S_at _ _ (by rw [List.length_append, List.length_append]; simp only [List.length_cons, List.length_nil]; omega)]
          simp
        · omega
      rw [e, this]; rfl
theorem cut_lines : ∀ (ls : List (List UInt8)) (half : List UInt8), (∀ x ∈ ls, Line x) → (∀ x ∈ half, x ≠ 10) → ∀ c, c ≤ (ls.flatten ++ half).length →
    ∃ q r, q ≤ ls.length ∧ (ls.flatten ++ half).take c = (ls.take q).flatten ++ r ∧ (∀ x ∈ r, x ≠ 10) ∧ (ls.flatten.length ≤ c → q = ls.length)
  | [], half, _, hh, c, _ => ⟨0, half.take c, Nat.le_refl _, by simp, fun x hx => hh x (List.mem_of_mem_take hx), fun _ => rfl⟩
  | l :: ls, half, hl, hh, c, hc => by
    obtain ⟨b, hb, hx⟩ := hl l List.mem_cons_self
    have hll : l.length = b.length + 1 := by rw [hb, List.length_append]; rfl
    by_cases h : c < l.length
    · refine ⟨0, l.take c, Nat.zero_le _, ?_, fun x hm => ?_, fun h2 => ?_⟩
      · rw [List.flatten_cons, List.append_assoc, List.take_append_of_le_length (by omega)]; rfl
      · rw [hb, List.take_append_of_le_length (by omega)] at hm
        exact hx x (List.mem_of_mem_take hm)
      · rw [List.flatten_cons, List.length_append] at h2; omega
    · have hc2 : c - l.length ≤ (ls.flatten ++ half).length := by rw [List.flatten_cons, List.append_assoc, List.length_append] at hc; omega
      obtain ⟨q, r, h1, h2, h3, h4⟩ := cut_lines ls half (fun x hm => hl x (List.mem_cons_of_mem l hm)) hh (c - l.length) hc2
      refine ⟨q + 1, r, by rw [List.length_cons]; omega, ?_, h3, fun h5 => ?_⟩
      · rw [List.flatten_cons, List.append_assoc, List.take_append, List.take_of_length_le (by omega), h2, List.take_succ_cons, List.flatten_cons, List.append_assoc]
      · rw [List.flatten_cons, List.length_append] at h5
        rw [List.length_cons, h4 (by omega)]
theorem flat_end : ∀ (ls : List (List UInt8)), (∀ x ∈ ls, Line x) → ls.flatten = [] ∨ ∃ b, ls.flatten = b ++ [10]
  | [], _ => .inl rfl
  | l :: ls, h => by
    obtain ⟨b, hb, _⟩ := h l List.mem_cons_self
    rcases flat_end ls (fun x hx => h x (List.mem_cons_of_mem l hx)) with e | ⟨b2, e⟩
    · exact .inr ⟨b, by rw [List.flatten_cons, e, List.append_nil, hb]⟩
    · exact .inr ⟨l ++ b2, by rw [List.flatten_cons, e, List.append_assoc]⟩
theorem lsOf_take (ps : List (Nat × Bts)) (q : Nat) : (lsOf ps).take q = lsOf (ps.take q) := by unfold lsOf; rw [List.map_take]

set_option maxHeartbeats 8000000 in
set_option maxRecDepth 100000 in
theorem crash_ok (G : Nat → Prop) (x k m n : Nat) (ds : List Dr) (half : Bts) (sfn : Nat) (lf : Int) (st : Bool) (ps : List (Nat × Bts)) (kp : Int) (w : World) (h : LogO G x k m n ds (S ((lsOf ps).flatten ++ half)) sfn lf st w) (hp : SpTab w) (h1 : 1 ≤ k) (h2 : k ≤ 16) (h3 : 1 ≤ m) (h4 : m ≤ 8) (h5 : n ≤ 120) (h6 : many n m = k)
    (hok : ∀ p ∈ ps, drpE k m p.1 (S p.2) = 0) (hl : ps.length ≤ 60) (hnd : (ps.map Prod.fst).Nodup) (hhf : ∀ x ∈ half, x ≠ 10) (hsf : sfn ≤ ((lsOf ps).flatten ++ half).length) (hbig : ((lsOf ps).flatten ++ half).length ≤ 1000000) :
    Calls Tryz.prog 10 #[.pointer (some ⟨x, 0, none⟩), .int .i64 kp] w fun e w' => ∃ q, q ≤ ps.length ∧ ((lsOf ps).flatten.length ≤ sfn → q = ps.length) ∧ e = .returned (.tuple #[]) ∧ Fr G w w' ∧ ∃ G', LogO G' x k m n (dsOf (ps.take q)) (S (lsOf (ps.take q)).flatten) ((lsOf (ps.take q)).flatten.length : Nat) (-1) false w' ∧ ∀ i, G' i → G i ∨ w.heap.size ≤ i := by
  have hlog := h
  obtain ⟨Ge0, y0, q0, K0, L0, h⟩ := h
  obtain ⟨T, hT⟩ : ∃ T, T = (lsOf ps).flatten ++ half := ⟨_, rfl⟩
  rw [← hT] at h hlog hsf hbig
  obtain ⟨bn, hbn⟩ : ∃ bn, bn = T.length := ⟨_, rfl⟩
  obtain ⟨X, hX⟩ : ∃ X, X = S T := ⟨_, rfl⟩
  have hXs : X.size = bn := by rw [hX, S_size, hbn]
  obtain ⟨d, hd⟩ : ∃ d, d = bn - sfn := ⟨_, rfl⟩
  obtain ⟨mI, hmI⟩ : ∃ mI, min kp (d : Int) = mI := ⟨_, rfl⟩
  obtain ⟨e0, he0⟩ : ∃ e0 : Nat, max 0 mI = (e0 : Int) := ⟨(max 0 mI).toNat, by omega⟩
  have hed : e0 ≤ d := by omega
  obtain ⟨c, hc⟩ : ∃ c, c = sfn + e0 := ⟨_, rfl⟩
  have hcb : c ≤ bn := by omega
  obtain ⟨q, r, hq1, hq2, hq3, hq4⟩ := cut_lines (lsOf ps) half (lsOf_line ps) hhf c (by rw [← hT, ← hbn]; exact hcb)
  rw [← hT] at hq2
  rw [lsOf_take] at hq2
  have hlen : (lsOf ps).length = ps.length := by unfold lsOf; rw [List.length_map]
  rw [hlen] at hq1 hq4
  obtain ⟨A, hA⟩ : ∃ A, A = (lsOf (ps.take q)).flatten := ⟨_, rfl⟩
  rw [← hA] at hq2
  have hxc : X.extract 0 c = S (A ++ r) := by
    rw [hX, ← hq2]
    unfold S
    rw [ByteArray.extract_mk] <;> simp
  have hla := last_line A r (by rw [hA]; exact flat_end _ (lsOf_line _)) hq3
  obtain ⟨an, han⟩ : ∃ an, an = A.length := ⟨_, rfl⟩
  rw [← han] at hla
  have hac : an ≤ c := by
    have h9 := congrArg List.length hq2
    rw [List.length_take, List.length_append, ← hbn] at h9
    omega
  obtain ⟨Y, hY⟩ : ∃ Y, Y = X.extract 0 c := ⟨_, rfl⟩
  have hYs : Y.size = c := by rw [hY, ByteArray.size_extract, hXs]; omega
  have hlix : ∀ W, Calls Tryz.prog 35 #[.string Y, .string { data := #[10] }] W fun e w' => e = .returned (.int .i64 ((an : Int) - 1)) ∧ w' = W := fun W => by
    have h9 := Tryz.strings_LastIndex_one Y ⟨#[10]⟩ rfl (by omega) W
    have e9 : Lib.lastIndexByte Y (((⟨#[10]⟩ : ByteArray)[0]'(by decide)).toNat : Int) = (an : Int) - 1 := by
      show Lib.lastIndexByte Y 10 = _
      rw [hY, hxc]; omega
    rw [e9] at h9
    exact h9
  have hya : Y.extract 0 an = S A := by
    rw [hY, hxc]; unfold S; rw [ByteArray.extract_mk, han]; congr 1; simp
  have hok2 : ∀ p ∈ ps.take q, drpE k m p.1 (S p.2) = 0 := fun p hm => hok p (List.mem_of_mem_take hm)
  have hnd2 : ((ps.take q).map Prod.fst).Nodup := by rw [List.map_take]; exact List.Pairwise.sublist (List.take_sublist _ _) hnd
  have hrd := fun W (hW : Lat w W) => redo_ok G x k m n ds X sfn lf st (ps.take q) W (by rw [hX]; exact hlog.keep hW) (hp.keep hW) h1 h2 h3 h4 h5 h6 hok2 (by rw [List.length_take]; omega) hnd2
  rw [← hA] at hrd
  have c4 : w.cell? ⟨x, 4, none⟩ = some (.string X) := by rw [hX]; exact h.blk.cell 4 (by decide)
  have c5 : w.cell? ⟨x, 5, none⟩ = some (.int .i64 sfn) := h.blk.cell 5 (by decide)
  have hq5 : (lsOf ps).flatten.length ≤ sfn → q = ps.length := fun h9 => hq4 (by omega)
  have hsub : IntKind.i64.wrap ((bn : Int) - (sfn : Int)) = (d : Int) := by rw [IntWalk.i64_in _ (by omega)]; omega
  have hadd : IntKind.i64.wrap ((sfn : Int) + (e0 : Int)) = (c : Int) := by rw [IntWalk.i64_in _ (by omega)]; omega
  have i1 : (0 : Int) ≤ (c : Int) := by omega
  have i2 : (c : Int) ≤ (bn : Int) := by omega
  have i4 : (0 : Int) ≤ (an : Int) := by omega
  have i5 : (an : Int) ≤ (c : Int) := by omega
  have hwa : (an : Int) - 1 + 1 = (an : Int) := by omega
  have haw : wrap64 (an : Int) = (an : Int) := by rw [← IntWalk.i64_left]; exact IntWalk.i64_in _ (by omega)
  have HAW := Lib.hid haw
  clear haw
  have HH := Lib.hid h; have HLX := Lib.hid hlix; have HRD := Lib.hid hrd; have HYA := Lib.hid hya; have HQ1 := Lib.hid hq1; have HQ5 := Lib.hid hq5; have HA := Lib.hid hA; have HWA := Lib.hid hwa; have HAN := Lib.hid han
  have HYD : Hid (X.extract 0 c = Y) := hY.symm
  have HSUB := Lib.hid hsub; have HADD := Lib.hid hadd; have HMI := Lib.hid hmI; have HE0 := Lib.hid he0
  clear h hlog hT hbn hX hd hc hed hcb hq1 hq2 hq3 hq4 hlen hA hxc hla han hac hY hlix hya hok hok2 hnd hnd2 hrd hq5 hsub hadd hwa hmI he0 hp h6 hl hhf hsf hbig
  go_enter Tryz.func10, Tryz.ntmps10
  go_upto_region 0 with fail
  have hF : w.drew.cell? ⟨x, 4, none⟩ = some (.string X) ∧ w.drew.cell? ⟨x, 5, none⟩ = some (.int .i64 sfn) := ⟨c4, c5⟩
  refine wp_region_gate (fun w' => w'.cell? ⟨x, 4, none⟩ = some (.string X) ∧ w'.cell? ⟨x, 5, none⟩ = some (.int .i64 sfn)) (fun _ => True) 1000 (by kernel_rfl) ?_
  refine gate_takeF (i := 0) (v := ?_) rfl (by kernel_rfl) (by kernel_rfl) (by kernel_rfl) (fun _ _ _ h => h) (by decide) ⟨hF, fun _ => trivial⟩ (Or.inl ⟨by kernel_rfl, ?_⟩) ?_
  rotate_left
  · intro wq hSw; obtain ⟨s0, s1⟩ := hSw; go_simp; rfl
  simp only [Act.put]
  refine gate_takeF (i := 1) (v := ?_) rfl (by kernel_rfl) (by kernel_rfl) (by kernel_rfl) (fun _ _ _ h => h) (by decide) ⟨hF, fun _ => trivial⟩ (Or.inl ⟨by kernel_rfl, ?_⟩) ?_
  rotate_left
  · intro wq hSw; obtain ⟨s0, s1⟩ := hSw; go_simp; rfl
  simp only [Act.put]
  refine gate_takeF (i := 2) (v := ?_) rfl (by kernel_rfl) (by kernel_rfl) (by kernel_rfl) (fun _ _ _ h => h) (by decide) ⟨hF, fun _ => trivial⟩ (Or.inl ⟨by kernel_rfl, ?_⟩) ?_
  rotate_left
  · intro wq hSw; obtain ⟨s0, s1⟩ := hSw; go_simp; rfl
  simp only [Act.put]
  refine gate_takeF (i := 3) (v := ?_) rfl (by kernel_rfl) (by kernel_rfl) (by kernel_rfl) (fun _ _ _ h => h) (by decide) ⟨hF, fun _ => trivial⟩ (Or.inl ⟨by kernel_rfl, ?_⟩) ?_
  rotate_left
  · intro wq hSw; obtain ⟨s0, s1⟩ := hSw; go_simp; rfl
  simp only [Act.put]
  refine gate_takeF (i := 4) (v := ?_) rfl (by kernel_rfl) (by kernel_rfl) (by kernel_rfl) (fun _ _ _ h => h) (by decide) ⟨hF, fun _ => trivial⟩ (Or.inl ⟨by kernel_rfl, ?_⟩) ?_
  rotate_left
  · intro wq hSw; obtain ⟨s0, s1⟩ := hSw; go_simp; rfl
  simp only [Act.put]
  refine gate_takeF (i := 5) (v := ?_) rfl (by kernel_rfl) (by kernel_rfl) (by kernel_rfl) (fun _ _ _ h => h) (by decide) ⟨hF, fun _ => trivial⟩ (Or.inl ⟨by kernel_rfl, ?_⟩) ?_
  rotate_left
  · intro wq hSw; obtain ⟨s0, s1⟩ := hSw; go_simp; rfl
  simp only [Act.put]
  refine gate_takeF (i := 6) (v := ?_) rfl (by kernel_rfl) (by kernel_rfl) (by kernel_rfl) (fun _ _ _ h => h) (by decide) ⟨hF, fun _ => trivial⟩ (Or.inl ⟨by kernel_rfl, ?_⟩) ?_
  rotate_left
  · intro wq hSw; obtain ⟨s0, s1⟩ := hSw; go_simp; rfl
  simp only [Act.put]
  refine gate_takeF (i := 7) (v := ?_) rfl (by kernel_rfl) (by kernel_rfl) (by kernel_rfl) (fun _ _ _ h => h) (by decide) ⟨hF, fun _ => trivial⟩ (Or.inl ⟨by kernel_rfl, ?_⟩) ?_
  rotate_left
  · intro wq hSw; obtain ⟨s0, s1⟩ := hSw; go_simp; rfl
  simp only [Act.put]
  refine gate_takeF (i := 8) (v := ?_) rfl (by kernel_rfl) (by kernel_rfl) (by kernel_rfl) (fun _ _ _ h => h) (by decide) ⟨hF, fun _ => trivial⟩ (Or.inl ⟨by kernel_rfl, ?_⟩) ?_
  rotate_left
  · intro wq hSw; obtain ⟨s0, s1⟩ := hSw; go_simp; rfl
  simp only [Act.put]
  refine gate_takeF (i := 9) (v := ?_) rfl (by kernel_rfl) (by kernel_rfl) (by kernel_rfl) (fun _ _ _ h => h) (by decide) ⟨hF, fun _ => trivial⟩ (Or.inl ⟨by kernel_rfl, ?_⟩) ?_
  rotate_left
  · intro wq hSw; obtain ⟨s0, s1⟩ := hSw; go_simp; rfl
  simp only [Act.put]
  refine gate_takeF (i := 10) (v := ?_) rfl (by kernel_rfl) (by kernel_rfl) (by kernel_rfl) (fun _ _ _ h => h) (by decide) ⟨hF, fun _ => trivial⟩ (Or.inl ⟨by kernel_rfl, ?_⟩) ?_
  rotate_left
  · intro wq hSw; obtain ⟨s0, s1⟩ := hSw; go_simp; rfl
  simp only [Act.put]
  refine gate_takeF (i := 11) (v := ?_) rfl (by kernel_rfl) (by kernel_rfl) (by kernel_rfl) (fun _ _ _ h => h) (by decide) ⟨hF, fun _ => trivial⟩ (Or.inl ⟨by kernel_rfl, ?_⟩) ?_
  rotate_left
  · intro wq hSw; obtain ⟨s0, s1⟩ := hSw; go_simp; rfl
  simp only [Act.put]
  refine gate_takeF (i := 12) (v := ?_) rfl (by kernel_rfl) (by kernel_rfl) (by kernel_rfl) (fun _ _ _ h => h) (by decide) ⟨hF, fun _ => trivial⟩ (Or.inl ⟨by kernel_rfl, ?_⟩) ?_
  rotate_left
  · intro wq hSw; obtain ⟨s0, s1⟩ := hSw; go_simp; rfl
  simp only [Act.put]
  refine gate_takeF (i := 13) (v := ?_) rfl (by kernel_rfl) (by kernel_rfl) (by kernel_rfl) (fun _ _ _ h => h) (by decide) ⟨hF, fun _ => trivial⟩ (Or.inl ⟨by kernel_rfl, ?_⟩) ?_
  rotate_left
  · intro wq hSw; obtain ⟨s0, s1⟩ := hSw; go_simp; rfl
  simp only [Act.put]
  refine gate_takeF (i := 14) (v := ?_) rfl (by kernel_rfl) (by kernel_rfl) (by kernel_rfl) (fun _ _ _ h => h) (by decide) ⟨hF, fun _ => trivial⟩ (Or.inl ⟨by kernel_rfl, ?_⟩) ?_
  rotate_left
  · intro wq hSw; obtain ⟨s0, s1⟩ := hSw; go_simp; rfl
  simp only [Act.put]
  refine gate_takeF (i := 15) (v := ?_) rfl (by kernel_rfl) (by kernel_rfl) (by kernel_rfl) (fun _ _ _ h => h) (by decide) ⟨hF, fun _ => trivial⟩ (Or.inl ⟨by kernel_rfl, ?_⟩) ?_
  rotate_left
  · intro wq hSw; obtain ⟨s0, s1⟩ := hSw; go_simp; rfl
  simp only [Act.put]
  refine gate_takeF (i := 16) (v := ?_) rfl (by kernel_rfl) (by kernel_rfl) (by kernel_rfl) (fun _ _ _ h => h) (by decide) ⟨hF, fun _ => trivial⟩ (Or.inl ⟨by kernel_rfl, ?_⟩) ?_
  rotate_left
  · intro wq hSw; obtain ⟨s0, s1⟩ := hSw; go_simp; rfl
  simp only [Act.put]
  refine gate_takeF (i := 17) (v := ?_) rfl (by kernel_rfl) (by kernel_rfl) (by kernel_rfl) (fun _ _ _ h => h) (by decide) ⟨hF, fun _ => trivial⟩ (Or.inl ⟨by kernel_rfl, ?_⟩) ?_
  rotate_left
  · intro wq hSw; obtain ⟨s0, s1⟩ := hSw; go_simp; rfl
  simp only [Act.put]
  refine gate_takeF (i := 18) (v := ?_) rfl (by kernel_rfl) (by kernel_rfl) (by kernel_rfl) (fun _ _ _ h => h) (by decide) ⟨hF, fun _ => trivial⟩ (Or.inl ⟨by kernel_rfl, ?_⟩) ?_
  rotate_left
  · intro wq hSw; obtain ⟨s0, s1⟩ := hSw; have a1 := HSUB.out; go_simp; rfl
  simp only [Act.put]
  refine gate_takeF (i := 19) (v := ?_) rfl (by kernel_rfl) (by kernel_rfl) (by kernel_rfl) (fun _ _ _ h => h) (by decide) ⟨hF, fun _ => trivial⟩ (Or.inl ⟨by kernel_rfl, ?_⟩) ?_
  rotate_left
  · intro wq hSw; obtain ⟨s0, s1⟩ := hSw; have a1 := HSUB.out; have a2 := HMI.out; go_simp; rfl
  simp only [Act.put]
  refine gate_takeF (i := 20) (v := ?_) rfl (by kernel_rfl) (by kernel_rfl) (by kernel_rfl) (fun _ _ _ h => h) (by decide) ⟨hF, fun _ => trivial⟩ (Or.inl ⟨by kernel_rfl, ?_⟩) ?_
  rotate_left
  · intro wq hSw; obtain ⟨s0, s1⟩ := hSw; have a1 := HSUB.out; have a2 := HMI.out; have a3 := HE0.out; go_simp; rfl
  simp only [Act.put]
  refine gate_takeF (i := 21) (v := ?_) rfl (by kernel_rfl) (by kernel_rfl) (by kernel_rfl) (fun _ _ _ h => h) (by decide) ⟨hF, fun _ => trivial⟩ (Or.inl ⟨by kernel_rfl, ?_⟩) ?_
  rotate_left
  · intro wq hSw; obtain ⟨s0, s1⟩ := hSw; have a3 := HE0.out; have a4 := HADD.out; go_simp; rfl
  simp only [Act.put]
  refine gate_takeF (i := 22) (v := ?_) rfl (by kernel_rfl) (by kernel_rfl) (by kernel_rfl) (fun _ _ _ h => h) (by decide) ⟨hF, fun _ => trivial⟩ (Or.inl ⟨by kernel_rfl, ?_⟩) ?_
  rotate_left
  · intro wq hSw; obtain ⟨s0, s1⟩ := hSw; have a5 := HYD.out; go_simp; rfl
  simp only [Act.put]
  refine gate_takeF (i := 23) (v := ?_) rfl (by kernel_rfl) (by kernel_rfl) (by kernel_rfl) (fun _ _ _ h => h) (by decide) ⟨hF, fun _ => trivial⟩ (Or.inl ⟨by kernel_rfl, ?_⟩) ?_
  rotate_left
  · intro wq hSw; obtain ⟨s0, s1⟩ := hSw; go_simp; rfl
  simp only [Act.put]
  refine gate_done (by kernel_rfl) ?_ _
  try simp only [List.getElem_toArray, List.getElem_cons_succ, List.getElem_cons_zero]
  go_simp
  go_wp2_with fail
  refine (HLX.out _).mono ?_
  rintro e w1 ⟨rfl, rfl⟩
  have hwa := HWA.out
  have hya := HYA.out
  have haw := HAW.out
  go_upto_region 2 with fail
  clear hwa haw hya
  have HBL := Lib.hid (HH.out.keep (Lat.drew w))
  go_wp2_with fail
  refine (HRD.out _ (Lat.drew w)).mono ?_
  rintro e w3 ⟨y2, Ge2, q2, K2, L2, rfl, he2, hG2, hb3⟩
  have H3 := HBL.out.keep hb3
  have c3' : w3.cell? ⟨x, 3, none⟩ = some (.pointer (some ⟨y0, 0, none⟩)) := H3.blk.cell 3 (by decide)
  have c4' : w3.cell? ⟨x, 4, none⟩ = some (.string (S T)) := H3.blk.cell 4 (by decide)
  have c5' : w3.cell? ⟨x, 5, none⟩ = some (.int .i64 sfn) := H3.blk.cell 5 (by decide)
  have c6' : w3.cell? ⟨x, 6, none⟩ = some (.int .i64 lf) := H3.blk.cell 6 (by decide)
  have c7' : w3.cell? ⟨x, 7, none⟩ = some (.bool st) := H3.blk.cell 7 (by decide)
  have f3' := H3.blk.free 3 (by decide)
  have f4' := H3.blk.free 4 (by decide)
  have f5' := H3.blk.free 5 (by decide)
  have f6' := H3.blk.free 6 (by decide)
  have f7' := H3.blk.free 7 (by decide)
  obtain ⟨an2, han2⟩ : ∃ an2, an2 = (S A).size := ⟨_, rfl⟩
  have hasz : (S A).size = an2 := han2.symm
  have hlenA : A.length = an2 := by rw [han2, S_size]
  obtain ⟨w9, hw9⟩ : ∃ w9, w9 = ((((w3.setCell ⟨x, 3, none⟩ (.pointer (some ⟨y2, 0, none⟩))).setCell ⟨x, 4, none⟩ (.string (S A))).setCell ⟨x, 5, none⟩ (.int .i64 an2)).setCell ⟨x, 6, none⟩ (.int .i64 (-1))).setCell ⟨x, 7, none⟩ (.bool false) := ⟨_, rfl⟩
  have hf9 : Fr (fun i => i = x) w3 w9 := by
    rw [hw9]
    exact ((((Fr.set (S := fun i => i = x) w3 ⟨x, 3, none⟩ (.pointer (some ⟨y2, 0, none⟩)) rfl).then_set ⟨x, 4, none⟩ (.string (S A)) (.inl rfl)).then_set ⟨x, 5, none⟩ (.int .i64 an2) (.inl rfl)).then_set ⟨x, 6, none⟩ (.int .i64 (-1)) (.inl rfl)).then_set ⟨x, 7, none⟩ (.bool false) (.inl rfl)
  have hb9 : Blk w9 x 8 (logF k m n y2 (S A) (an2 : Int) (-1) false) := by
    rw [hw9]
    refine (((((H3.blk.set (k := 3) (by decide) (.pointer (some ⟨y2, 0, none⟩))).set (k := 4) (by decide) (.string (S A))).set (k := 5) (by decide) (.int .i64 an2)).set (k := 6) (by decide) (.int .i64 (-1))).set (k := 7) (by decide) (.bool false)).congr fun j hj => ?_
    match j, hj with
    | 0, _ => rfl
    | 1, _ => rfl
    | 2, _ => rfl
    | 3, _ => rfl
    | 4, _ => rfl
    | 5, _ => rfl
    | 6, _ => rfl
    | 7, _ => rfl
  have hG3 : ∀ i, Ge2 i → w.heap.size ≤ i := hG2
  have hxl := HH.out.lt x HH.out.gx
  have hfr9 : Fr G w w9 := (((Fr.lat (Lat.drew w) : Fr G w w.drew).next hb3).trans hf9 (fun i _ e => by have e2 : i = x := e; rw [e2]; exact HH.out.gx))
  have hsz9 : w.heap.size ≤ w9.heap.size := hfr9.size
  have hfin : LogO (fun i => i < w9.heap.size ∧ (G i ∨ w.heap.size ≤ i)) x k m n (dsOf (ps.take q)) (S A) (an2 : Int) (-1) false w9 :=
    ⟨Ge2, y2, q2, K2, L2, ⟨fun i hi => hi.1, ⟨by omega, .inl HH.out.gx⟩, fun i hi => ⟨Nat.lt_of_lt_of_le (he2.lt i hi) hf9.size, .inr (hG3 i hi)⟩, fun e => by have := hG3 x e; omega, hb9, he2.fr hf9 (fun i hi e => by have e2 : i = x := e; have := hG3 i hi; omega)⟩⟩
  have HW9 := Lib.hid hw9; have HFIN := Lib.hid hfin; have HFR9 := Lib.hid hfr9; have HLA := Lib.hid hlenA
  clear H3 he2 hG2 hb3 han2 hw9 hf9 hb9 hG3 hxl hfr9 hsz9 hfin hlenA
  go_wp2_with fail
  rw [← HW9.out]
  refine bodyPost_end (results_none rfl _ _ _) rfl ?_
  refine ⟨q, HQ1.out, HQ5.out, rfl, HFR9.out, (fun i => i < w9.heap.size ∧ (G i ∨ w.heap.size ≤ i)), ?_, fun i hi => hi.2⟩
  rw [← HA.out, HLA.out]
  exact HFIN.out
end Go.Proofs.YtgcmlpcpkpnfnaaGreatDoor

namespace Go.Proofs.YtgcmlpcpkpnfnaaGreatDoor
open Go.ChangeShapes Go.WideShapes Go.ChangeAt Go.RowKit

section
variable {G : Nat → Prop} {x k m n : Nat} {ds : List Dr} {B : ByteArray} {sf : Int} {w : World}
set_option maxHeartbeats 8000000 in
set_option maxRecDepth 100000 in
theorem log_hear_stop (h : LogO G x k m n ds B sf 0 false w) (s : Nat) (t : Bts) (hp : Pow w) (hE : drpE k m s (S t) = 0) (hl : ds.length < 60) (hmem : (s : Int) ∉ ds.map Dr.s) (hs : s ≤ 10000) (ht : t.length ≤ 8) (hB : B.size ≤ 1000000) :
    Calls Tryz.prog 8 #[.pointer (some ⟨x, 0, none⟩), .agg #[.int .i64 s, .string (S t)]] w fun e w' => e = .returned (eno 6) ∧ LogStep G x k m n ds (B ++ (S (recB (s : Int) t)).extract 0 ((recB (s : Int) t).length / 2)) sf (-1) true w w' := by
  obtain ⟨Ge, y, q, K0, L, h⟩ := h
  have hck := fun W => dchk_tells k m s (S t) W
  have c7 : w.cell? ⟨x, 7, none⟩ = some (.bool false) := h.blk.cell 7 (by decide)
  have hlt : x < w.heap.size := h.lt x h.gx
  rw [hE, errv_zero rfl] at hck
  obtain ⟨ln, hln⟩ : ∃ ln, ln = ds.length := ⟨_, rfl⟩
  have d60 : decide ((60 : Int) ≤ (ln : Int)) = false := decide_eq_false (by omega)
  have hrc := fun W (hW : Lat w W) => record_any s t W (hp.keep hW) hs ht
  obtain ⟨R, hR⟩ : ∃ R, R = S (recB (s : Int) t) := ⟨_, rfl⟩
  have hR55 : R.size ≤ 55 := by rw [hR, S_size]; exact rec_short hs ht
  obtain ⟨rn, hrn⟩ : ∃ rn, rn = R.size := ⟨_, rfl⟩
  have hrl : (recB (s : Int) t).length = rn := by rw [hrn, hR, S_size]
  rw [← hR] at hrc ⊢
  rw [hrl]
  obtain ⟨hf, hhf⟩ : ∃ hf, hf = rn / 2 := ⟨_, rfl⟩
  rw [← hhf]
  have hq : (rn : Int).tdiv 2 = (hf : Int) := by rw [Int.tdiv_eq_ediv_of_nonneg (by omega)]; omega
  have hq2 : (rn : Int) / 2 = (hf : Int) := by omega
  have hrz : R.size = rn := hrn.symm
  have i1 : (0 : Int) ≤ (hf : Int) := by omega
  have i2 : (hf : Int) ≤ (rn : Int) := by omega
  have i3 : hf ≤ rn := by omega
  have hbs : B.size + hf ≤ 1000055 := by omega
  have hbg : ¬ 9223372036854775807 < B.size + hf := by omega
  have HBG := Lib.hid hbg
  have hwg : IntKind.i64.wrap (hf : Int) = (hf : Int) := IntWalk.i64_in _ (by omega)
  have HWG := Lib.hid hwg
  clear hbg hwg hbs
  have hstp := fun W (hW : Lat w W) => log_step (w := W) ⟨Ge, y, q, K0, L, h.keep hW⟩ (by decide) (by decide) (-1) (by decide)
  have HH := Lib.hid h; have HCK := Lib.hid hck; have HLN := Lib.hid hln; have HMEM := Lib.hid hmem; have HRC := Lib.hid hrc; have HSTP := Lib.hid hstp
  clear h hck hE hln hmem hl hrc hstp hp hR hs ht hrn hrl hhf
  go_enter Tryz.func8, Tryz.ntmps8
  go_upto_region 3 with fail
  obtain ⟨X, hX⟩ : ∃ X, X = w.heap.size := ⟨_, rfl⟩
  obtain ⟨W0, hW0⟩ : ∃ W0, W0 = w.alloc (.cells #[.int .i64 s, .string (S t)] 32) := ⟨_, rfl⟩
  have hb0 := LB.new w s t
  rw [← hW0] at hb0
  rw [← hW0]
  rw [← hX] at hb0
  rw [← hX]
  have HX : Hid (X = w.heap.size) := hX
  clear hW0 hX
  have hF : W0.drew.cell? ⟨x, 0, none⟩ = some (.int .i64 k) ∧ W0.drew.cell? ⟨x, 1, none⟩ = some (.int .i64 m) ∧ W0.drew.cell? ⟨X, 0, none⟩ = some (.int .i64 s) ∧ W0.drew.cell? ⟨X, 1, none⟩ = some (.string (S t)) := ⟨hb0.lat.cell_at (HH.out.blk.cell 0 (by decide)), hb0.lat.cell_at (HH.out.blk.cell 1 (by decide)), hb0.c0, hb0.c1⟩
  have HB0 := Lib.hid (hb0.keep (Lat.drew W0))
  clear hb0 c7
  refine wp_region_gate (fun w' => w'.cell? ⟨x, 0, none⟩ = some (.int .i64 k) ∧ w'.cell? ⟨x, 1, none⟩ = some (.int .i64 m) ∧ w'.cell? ⟨X, 0, none⟩ = some (.int .i64 s) ∧ w'.cell? ⟨X, 1, none⟩ = some (.string (S t))) (fun _ => True) 1000 (by kernel_rfl) ?_
  refine gate_takeF (i := 0) (v := ?_) rfl (by kernel_rfl) (by kernel_rfl) (by kernel_rfl) (fun _ _ _ h => h) (by decide) ⟨hF, fun _ => trivial⟩ (Or.inl ⟨by kernel_rfl, ?_⟩) ?_
  rotate_left
  · intro wq hSw; obtain ⟨s0, s1, s2, s3⟩ := hSw; go_simp; rfl
  simp only [Act.put]
  refine gate_takeF (i := 1) (v := ?_) rfl (by kernel_rfl) (by kernel_rfl) (by kernel_rfl) (fun _ _ _ h => h) (by decide) ⟨hF, fun _ => trivial⟩ (Or.inl ⟨by kernel_rfl, ?_⟩) ?_
  rotate_left
  · intro wq hSw; obtain ⟨s0, s1, s2, s3⟩ := hSw; go_simp; rfl
  simp only [Act.put]
  refine gate_takeF (i := 2) (v := ?_) rfl (by kernel_rfl) (by kernel_rfl) (by kernel_rfl) (fun _ _ _ h => h) (by decide) ⟨hF, fun _ => trivial⟩ (Or.inl ⟨by kernel_rfl, ?_⟩) ?_
  rotate_left
  · intro wq hSw; obtain ⟨s0, s1, s2, s3⟩ := hSw; go_simp; rfl
  simp only [Act.put]
  refine gate_takeF (i := 3) (v := ?_) rfl (by kernel_rfl) (by kernel_rfl) (by kernel_rfl) (fun _ _ _ h => h) (by decide) ⟨hF, fun _ => trivial⟩ (Or.inl ⟨by kernel_rfl, ?_⟩) ?_
  rotate_left
  · intro wq hSw; obtain ⟨s0, s1, s2, s3⟩ := hSw; go_simp; rfl
  simp only [Act.put]
  refine gate_takeF (i := 4) (v := ?_) rfl (by kernel_rfl) (by kernel_rfl) (by kernel_rfl) (fun _ _ _ h => h) (by decide) ⟨hF, fun _ => trivial⟩ (Or.inl ⟨by kernel_rfl, ?_⟩) ?_
  rotate_left
  · intro wq hSw; obtain ⟨s0, s1, s2, s3⟩ := hSw; go_simp; rfl
  simp only [Act.put]
  refine gate_takeF (i := 5) (v := ?_) rfl (by kernel_rfl) (by kernel_rfl) (by kernel_rfl) (fun _ _ _ h => h) (by decide) ⟨hF, fun _ => trivial⟩ (Or.inl ⟨by kernel_rfl, ?_⟩) ?_
  rotate_left
  · intro wq hSw; obtain ⟨s0, s1, s2, s3⟩ := hSw; go_simp; rfl
  simp only [Act.put]
  refine gate_takeF (i := 6) (v := ?_) rfl (by kernel_rfl) (by kernel_rfl) (by kernel_rfl) (fun _ _ _ h => h) (by decide) ⟨hF, fun _ => trivial⟩ (Or.inl ⟨by kernel_rfl, ?_⟩) ?_
  rotate_left
  · intro wq hSw; obtain ⟨s0, s1, s2, s3⟩ := hSw; go_simp; rfl
  simp only [Act.put]
  refine gate_takeF (i := 7) (v := ?_) rfl (by kernel_rfl) (by kernel_rfl) (by kernel_rfl) (fun _ _ _ h => h) (by decide) ⟨hF, fun _ => trivial⟩ (Or.inl ⟨by kernel_rfl, ?_⟩) ?_
  rotate_left
  · intro wq hSw; obtain ⟨s0, s1, s2, s3⟩ := hSw; go_simp; rfl
  simp only [Act.put]
  refine gate_takeF (i := 8) (v := ?_) rfl (by kernel_rfl) (by kernel_rfl) (by kernel_rfl) (fun _ _ _ h => h) (by decide) ⟨hF, fun _ => trivial⟩ (Or.inl ⟨by kernel_rfl, ?_⟩) ?_
  rotate_left
  · intro wq hSw; obtain ⟨s0, s1, s2, s3⟩ := hSw; go_simp; rfl
  simp only [Act.put]
  refine gate_one (i := 9) (by kernel_rfl) rfl (fun K hK => ?_)
  go_simp
  refine (HCK.out _).mono ?_
  rintro e w5 ⟨rfl, hb5⟩
  have hF' : w5.cell? ⟨x, 0, none⟩ = some (.int .i64 k) ∧ w5.cell? ⟨x, 1, none⟩ = some (.int .i64 m) ∧ w5.cell? ⟨X, 0, none⟩ = some (.int .i64 s) ∧ w5.cell? ⟨X, 1, none⟩ = some (.string (S t)) := ⟨hb5.cell_at hF.1, hb5.cell_at hF.2.1, hb5.cell_at hF.2.2.1, hb5.cell_at hF.2.2.2⟩
  refine hK _ _ ⟨hF', fun _ => trivial⟩ ?_
  clear hK K hF
  have hF := hF'
  clear hF'
  refine gate_takeF (i := 10) (v := ?_) rfl (by kernel_rfl) (by kernel_rfl) (by kernel_rfl) (fun _ _ _ h => h) (by decide) ⟨hF, fun _ => trivial⟩ (Or.inl ⟨by kernel_rfl, ?_⟩) ?_
  rotate_left
  · intro wq hSw; obtain ⟨s0, s1, s2, s3⟩ := hSw; go_simp; rfl
  simp only [Act.put]
  refine gate_done (by kernel_rfl) ?_ _
  have HB5 := Lib.hid (HB0.out.keep hb5)
  clear hb5 HB0 hF
  go_wp2_with fail
  refine (log_seeds ⟨Ge, y, q, K0, L, HH.out.keep HB5.out.lat⟩).mono ?_
  rintro e w6 ⟨za, zc, rfl, -, hb6⟩
  rw [← HLN.out]
  have HB6 := Lib.hid (HB5.out.keep hb6)
  clear hb6 HB5
  go_upto_region 8 with fail
  have hF : w6.drew.cell? ⟨X, 0, none⟩ = some (.int .i64 s) ∧ w6.drew.cell? ⟨X, 1, none⟩ = some (.string (S t)) := ⟨HB6.out.c0, HB6.out.c1⟩
  have HB7 := Lib.hid (HB6.out.keep (Lat.drew w6))
  refine wp_region_gate (fun w' => w'.cell? ⟨X, 0, none⟩ = some (.int .i64 s) ∧ w'.cell? ⟨X, 1, none⟩ = some (.string (S t))) (fun _ => True) 1000 (by kernel_rfl) ?_
  refine gate_takeF (i := 0) (v := ?_) rfl (by kernel_rfl) (by kernel_rfl) (by kernel_rfl) (fun _ _ _ h => h) (by decide) ⟨hF, fun _ => trivial⟩ (Or.inl ⟨by kernel_rfl, ?_⟩) ?_
  rotate_left
  · intro wq hSw; obtain ⟨s0, s1⟩ := hSw; go_simp; rfl
  simp only [Act.put]
  refine gate_takeF (i := 2) (v := ?_) rfl (by kernel_rfl) (by kernel_rfl) (by kernel_rfl) (fun _ _ _ h => h) (by decide) ⟨hF, fun _ => trivial⟩ (Or.inl ⟨by kernel_rfl, ?_⟩) ?_
  rotate_left
  · intro wq hSw; obtain ⟨s0, s1⟩ := hSw; go_simp; rfl
  simp only [Act.put]
  refine gate_takeF (i := 3) (v := ?_) rfl (by kernel_rfl) (by kernel_rfl) (by kernel_rfl) (fun _ _ _ h => h) (by decide) ⟨hF, fun _ => trivial⟩ (Or.inl ⟨by kernel_rfl, ?_⟩) ?_
  rotate_left
  · intro wq hSw; obtain ⟨s0, s1⟩ := hSw; go_simp; rfl
  simp only [Act.put]
  refine gate_one (i := 1) (by kernel_rfl) rfl (fun K hK => ?_)
  have hsd := log_seeds ⟨Ge, y, q, K0, L, HH.out.keep HB7.out.lat⟩
  rw [← HLN.out] at hsd
  go_simp
  refine hsd.mono ?_
  rintro e w8 ⟨ya, yc, rfl, hyi, hb8⟩
  have hF' : w8.cell? ⟨X, 0, none⟩ = some (.int .i64 s) ∧ w8.cell? ⟨X, 1, none⟩ = some (.string (S t)) := ⟨hb8.cell_at hF.1, hb8.cell_at hF.2⟩
  refine hK _ _ ⟨hF', fun _ => trivial⟩ ?_
  clear hK K hF hsd
  have hF := hF'
  clear hF'
  refine gate_one (i := 4) (by kernel_rfl) rfl (fun K hK => ?_)
  go_simp
  refine (containsI_no ya ln yc _ _ w8 hyi HMEM.out).mono ?_
  rintro e w9 ⟨rfl, rfl⟩
  refine hK _ _ ⟨hF, fun _ => trivial⟩ ?_
  clear hK K
  refine gate_takeF (i := 5) (v := ?_) rfl (by kernel_rfl) (by kernel_rfl) (by kernel_rfl) (fun _ _ _ h => h) (by decide) ⟨hF, fun _ => trivial⟩ (Or.inl ⟨by kernel_rfl, ?_⟩) ?_
  rotate_left
  · intro wq hSw; obtain ⟨s0, s1⟩ := hSw; go_simp; rfl
  simp only [Act.put]
  refine gate_done (by kernel_rfl) ?_ _
  have HB8 := Lib.hid (HB7.out.keep hb8)
  clear hb8 hyi HB6 HB7 hF
  have b0 := HB8.out.c0
  have b1 := HB8.out.c1
  go_wp2_with fail
  refine (HRC.out _ HB8.out.lat).mono ?_
  rintro e w9 ⟨rfl, hb9⟩
  have HB9 := Lib.hid (HB8.out.keep hb9)
  clear hb9 HB8 b0 b1
  go_wp2_with fail
  refine (HSTP.out _ HB9.out.lat).mono ?_
  rintro e w10 ⟨rfl, hf10, Ge2, y2, q2, K2, L2, h10⟩
  have c4 : w10.cell? ⟨x, 4, none⟩ = some (.string B) := h10.blk.cell 4 (by decide)
  have f4 := h10.blk.free 4 (by decide)
  have hd1 : decide ((0 : Int) = 0) = true := by decide
  have h11 := h10.set (B' := B ++ R.extract 0 hf) (sf' := sf) (lf' := -1) (st' := true) 4 (.string (B ++ R.extract 0 hf)) (by decide) (fun i hi => by
    match i, hi with
    | 0, _ => rfl
    | 1, _ => rfl
    | 2, _ => rfl
    | 3, _ => rfl
    | 4, _ => rfl
    | 5, _ => rfl
    | 6, _ => rfl
    | 7, _ => rfl)
  have hfr : Fr G w (w10.setCell ⟨x, 4, none⟩ (.string (B ++ R.extract 0 hf))) := ((Fr.lat HB9.out.lat : Fr G w _).trans hf10 (fun i _ e => by rw [e]; exact HH.out.gx)).then_set ⟨x, 4, none⟩ _ (.inl HH.out.gx)
  have H11 := Lib.hid h11; have HFR := Lib.hid hfr
  clear hf10 h10 h11 hfr HB9
  go_upto_region 12 with fail
  have hG : w10.drew.cell? ⟨x, 4, none⟩ = some (.string B) := c4
  refine wp_region_gate (fun _ => True) (fun w' => w'.cell? ⟨x, 4, none⟩ = some (.string B)) 12 (by kernel_rfl) ?_
  have hwg := HWG.out
  have hbg := HBG.out
  refine gate_takeF (i := 0) (v := ?_) rfl (by kernel_rfl) (by kernel_rfl) (by kernel_rfl) (fun _ _ _ h => h) (by decide) ⟨trivial, fun _ => hG⟩ (Or.inl ⟨by kernel_rfl, ?_⟩) ?_
  rotate_left
  · intro wq hSw; go_simp; rfl
  simp only [Act.put]
  refine gate_takeF (i := 1) (v := ?_) rfl (by kernel_rfl) (by kernel_rfl) (by kernel_rfl) (fun _ _ _ h => h) (by decide) ⟨trivial, fun _ => hG⟩ (Or.inl ⟨by kernel_rfl, ?_⟩) ?_
  rotate_left
  · intro wq hSw; go_simp; rfl
  simp only [Act.put]
  refine gate_takeF (i := 2) (v := ?_) rfl (by kernel_rfl) (by kernel_rfl) (by kernel_rfl) (fun _ _ _ h => h) (by decide) ⟨trivial, fun _ => hG⟩ (Or.inl ⟨by kernel_rfl, ?_⟩) ?_
  rotate_left
  · intro wq hSw; go_simp; rfl
  simp only [Act.put]
  refine gate_takeG (i := 3) (v := ?_) rfl (by kernel_rfl) (by kernel_rfl) (by kernel_rfl) (fun _ _ _ h => h) (by decide) (by kernel_rfl) (by kernel_rfl) ⟨trivial, fun _ => hG⟩ (Or.inl ⟨by kernel_rfl, ?_⟩) ?_
  rotate_left
  · intro wq hSw; obtain ⟨-, s0⟩ := hSw; go_simp; rfl
  simp only [Act.put]
  refine gate_takeF (i := 4) (v := ?_) rfl (by kernel_rfl) (by kernel_rfl) (by kernel_rfl) (fun _ _ _ h => h) (by decide) ⟨trivial, fun _ => hG⟩ (Or.inl ⟨by kernel_rfl, ?_⟩) ?_
  rotate_left
  · intro wq hSw; go_simp; rfl
  simp only [Act.put]
  refine gate_takeF (i := 5) (v := ?_) rfl (by kernel_rfl) (by kernel_rfl) (by kernel_rfl) (fun _ _ _ h => h) (by decide) ⟨trivial, fun _ => hG⟩ (Or.inl ⟨by kernel_rfl, ?_⟩) ?_
  rotate_left
  · intro wq hSw; go_simp; rfl
  simp only [Act.put]
  refine gate_takeF (i := 6) (v := ?_) rfl (by kernel_rfl) (by kernel_rfl) (by kernel_rfl) (fun _ _ _ h => h) (by decide) ⟨trivial, fun _ => hG⟩ (Or.inl ⟨by kernel_rfl, ?_⟩) ?_
  rotate_left
  · intro wq hSw; go_simp; rfl
  simp only [Act.put]
  refine gate_takeF (i := 7) (v := ?_) rfl (by kernel_rfl) (by kernel_rfl) (by kernel_rfl) (fun _ _ _ h => h) (by decide) ⟨trivial, fun _ => hG⟩ (Or.inl ⟨by kernel_rfl, ?_⟩) ?_
  rotate_left
  · intro wq hSw; go_simp; rfl
  simp only [Act.put]
  refine gate_takeF (i := 8) (v := ?_) rfl (by kernel_rfl) (by kernel_rfl) (by kernel_rfl) (fun _ _ _ h => h) (by decide) ⟨trivial, fun _ => hG⟩ (Or.inl ⟨by kernel_rfl, ?_⟩) ?_
  rotate_left
  · intro wq hSw; go_simp; rfl
  simp only [Act.put]
  refine gate_takeF (i := 9) (v := ?_) rfl (by kernel_rfl) (by kernel_rfl) (by kernel_rfl) (fun _ _ _ h => h) (by decide) ⟨trivial, fun _ => hG⟩ (Or.inl ⟨by kernel_rfl, ?_⟩) ?_
  rotate_left
  · intro wq hSw; go_simp; rfl
  simp only [Act.put]
  refine gate_takeF (i := 10) (v := ?_) rfl (by kernel_rfl) (by kernel_rfl) (by kernel_rfl) (fun _ _ _ h => h) (by decide) ⟨trivial, fun _ => hG⟩ (Or.inl ⟨by kernel_rfl, ?_⟩) ?_
  rotate_left
  · intro wq hSw; go_simp; rfl
  simp only [Act.put]
  refine gate_takeF (i := 11) (v := ?_) rfl (by kernel_rfl) (by kernel_rfl) (by kernel_rfl) (fun _ _ _ h => h) (by decide) ⟨trivial, fun _ => hG⟩ (Or.inl ⟨by kernel_rfl, ?_⟩) ?_
  rotate_left
  · intro wq hSw; go_simp; rfl
  simp only [Act.put]
  refine gate_one (i := 12) (by kernel_rfl) rfl (fun K hK => ?_)
  go_simp
  refine hK _ _ (FG.past (by kernel_rfl) trivial) ?_
  clear hK K
  refine gate_done (by kernel_rfl) ?_ _
  try simp only [List.getElem_toArray, List.getElem_cons_succ, List.getElem_cons_zero]
  go_wp2_with fail
  go_ret
  exact ⟨rfl, HFR.out.drew, G, ⟨_, _, _, _, _, H11.out.keep (Lat.drew _)⟩, fun i hi => .inl hi⟩
end
end Go.Proofs.YtgcmlpcpkpnfnaaGreatDoor

namespace Go.Proofs.YtgcmlpcpkpnfnaaGreatDoor
open Go.ChangeShapes Go.WideShapes Go.ChangeAt Go.RowKit

theorem sameErr_nil (w : World) : Calls Tryz.prog 14 #[.nilIface, .int .i64 0] w fun e w' => e = .returned (.bool true) ∧ Lat w w' := by
  go_enter Tryz.func14, Tryz.ntmps14
  go_wp2_with (go_at_call 41; refine (told_nil _).mono ?_; rintro e w' ⟨rfl, hb⟩)
  go_ret
  exact ⟨rfl, hb⟩
theorem sameErr_eno (n : Int) (w : World) (hg : Hnd w) : Calls Tryz.prog 14 #[eno n, .int .i64 n] w fun e w' => e = .returned (.bool true) ∧ Lat w w' := by
  have H := Lib.hid hg
  clear hg
  go_enter Tryz.func14, Tryz.ntmps14
  go_wp2_with (go_at_call 41; refine (told_eno n _ H.out).mono ?_; rintro e w' ⟨rfl, hb⟩)
  go_ret
  exact ⟨rfl, hb⟩
theorem sameErr_any (n : Nat) (w : World) (hg : Hnd w) : Calls Tryz.prog 14 #[errv n, .int .i64 n] w fun e w' => e = .returned (.bool true) ∧ Lat w w' := by
  by_cases h : n = 0
  · subst h; exact sameErr_nil w
  · rw [errv_pos h]; exact sameErr_eno n w hg
end Go.Proofs.YtgcmlpcpkpnfnaaGreatDoor

namespace Go.Proofs.YtgcmlpcpkpnfnaaGreatDoor
open Go.ChangeShapes Go.WideShapes Go.ChangeAt Go.RowKit

theorem sameErr_two (c b : Nat) (w : World) (hg : Hnd w) : Calls Tryz.prog 14 #[errv c, .int .i64 b] w fun e w' => e = .returned (.bool ((c : Int) == (b : Int))) ∧ Lat w w' := by
  by_cases h : c = 0
  · subst h
    rw [errv_zero rfl]
    go_enter Tryz.func14, Tryz.ntmps14
    go_wp2_with (go_at_call 41; refine (told_nil _).mono ?_; rintro e w' ⟨rfl, hb⟩)
    go_ret
    exact ⟨rfl, hb⟩
  · rw [errv_pos h]
    have H := Lib.hid hg
    clear hg h
    go_enter Tryz.func14, Tryz.ntmps14
    go_wp2_with (go_at_call 41; refine (told_eno c _ H.out).mono ?_; rintro e w' ⟨rfl, hb⟩)
    go_ret
    exact ⟨rfl, hb⟩

structure SeedsTo (i : Nat) (P : List (Nat × Bts)) : Prop where
  len : P.length ≤ i
  all : ∀ p ∈ P, 1 ≤ p.1 ∧ p.1 ≤ i ∧ p.2 = [120]
  nd : (P.map Prod.fst).Nodup
theorem SeedsTo.nil : SeedsTo 0 [] := ⟨Nat.le_refl _, by simp, by simp⟩
theorem SeedsTo.mono {i j : Nat} {P : List (Nat × Bts)} (h : SeedsTo i P) (hij : i ≤ j) : SeedsTo j P :=
  ⟨Nat.le_trans h.len hij, fun p hp => ⟨(h.all p hp).1, Nat.le_trans (h.all p hp).2.1 hij, (h.all p hp).2.2⟩, h.nd⟩
theorem SeedsTo.add {i : Nat} {P : List (Nat × Bts)} (h : SeedsTo i P) : SeedsTo (i + 1) (P ++ [(i + 1, [120])]) := by
  refine ⟨by rw [List.length_append]; have := h.len; simp; omega, fun p hp => ?_, ?_⟩
  · rcases List.mem_append.1 hp with e | e
    · exact (h.mono (Nat.le_succ i)).all p e
    · rw [List.mem_singleton.1 e]; exact ⟨by simp, Nat.le_refl _, rfl⟩
  · rw [List.map_append, List.nodup_append]
    refine ⟨h.nd, by simp, fun a ha b hb e => ?_⟩
    obtain ⟨p, hp, rfl⟩ := List.mem_map.1 ha
    have h1 := (h.all p hp).2.1
    simp at hb
    omega
theorem SeedsTo.take {i : Nat} {P : List (Nat × Bts)} (h : SeedsTo i P) (q : Nat) : SeedsTo i (P.take q) :=
  ⟨Nat.le_trans (by rw [List.length_take]; omega) h.len, fun p hp => h.all p (List.mem_of_mem_take hp), h.nd.sublist (List.Sublist.map _ (List.take_sublist q P))⟩
theorem dsOf_len (P : List (Nat × Bts)) : (dsOf P).length = P.length := List.length_map _
theorem dsOf_add (P : List (Nat × Bts)) (z : Nat) (t : Bts) : dsOf (P ++ [(z, t)]) = dsOf P ++ [⟨(z : Int), S t⟩] := by unfold dsOf; rw [List.map_append]; rfl
theorem lsOf_add (P : List (Nat × Bts)) (z : Nat) (t : Bts) : (lsOf (P ++ [(z, t)])).flatten = (lsOf P).flatten ++ recB (z : Int) t := by unfold lsOf; rw [List.map_append, List.flatten_append]; simp
theorem SeedsTo.new {i j : Nat} {P : List (Nat × Bts)} (h : SeedsTo i P) (hij : i < j) : (j : Int) ∉ (dsOf P).map Dr.s := fun hm => by
  obtain ⟨d, hd, hde⟩ := List.mem_map.1 hm
  obtain ⟨p, hp, rfl⟩ := List.mem_map.1 hd
  have e1 : (p.1 : Int) = j := hde
  have := (h.all p hp).2.1
  omega
theorem flat_le : ∀ (P : List (Nat × Bts)), (∀ p ∈ P, p.1 ≤ 10000 ∧ p.2.length ≤ 8) → (lsOf P).flatten.length ≤ 55 * P.length
  | [], _ => by simp [lsOf]
  | p :: P, h => by
    have h1 := flat_le P (fun q hq => h q (List.mem_cons_of_mem p hq))
    have h2 := rec_short (h p List.mem_cons_self).1 (h p List.mem_cons_self).2
    have e : (lsOf (p :: P)).flatten = recB (p.1 : Int) p.2 ++ (lsOf P).flatten := by simp [lsOf]
    rw [e, List.length_append, List.length_cons]
    omega
theorem SeedsTo.flat {i : Nat} {P : List (Nat × Bts)} (h : SeedsTo i P) (hi : i ≤ 1000) : (lsOf P).flatten.length ≤ 55 * i := by
  have h1 := flat_le P (fun p hp => by
    obtain ⟨_, h2, h3⟩ := h.all p hp
    rw [h3]; exact ⟨by omega, by decide⟩)
  have := h.len
  omega
theorem x_ok (z : Nat) (h1 : 1 ≤ z) (h2 : z ≤ 10000) : drpE ((2 : Nat) : Int) ((1 : Nat) : Int) (z : Int) (S [120]) = 0 := drpE_ok (by decide) (by decide) (by decide) (by decide) (by omega) (by omega) rfl
theorem x_bad : drpE ((2 : Nat) : Int) ((1 : Nat) : Int) 0 (S [120]) = 1 := by unfold drpE; rw [if_pos (by omega)]
theorem half_body (z : Nat) (t : Bts) : ∀ x ∈ (recB (z : Int) t).take ((recB (z : Int) t).length / 2), x ≠ 10 := fun x hx => by
  have h2 := rec_len z t
  have e : (recB (z : Int) t).take ((recB (z : Int) t).length / 2) = (Lib.join (recW (z : Int) t) [32]).take ((recB (z : Int) t).length / 2) := by
    unfold recB at h2 ⊢
    rw [List.length_append] at h2 ⊢
    rw [List.take_append_of_le_length (by simp at h2 ⊢; omega)]
  rw [e] at hx
  exact (rec_body z t x (List.mem_of_mem_take hx)).1

def Run (w0 : World) (a i x : Nat) (w : World) : Prop :=
  Lat w0 w ∧ ∃ (G : Nat → Prop) (P : List (Nat × Bts)) (half : Bts) (sfn : Nat) (lf : Int), (∀ j, G j → w0.heap.size ≤ j) ∧ SeedsTo i P ∧ (∀ z ∈ half, z ≠ 10) ∧ half.length ≤ 55 ∧ sfn ≤ ((lsOf P).flatten ++ half).length ∧ LogO G x 2 1 2 (dsOf P) (S ((lsOf P).flatten ++ half)) sfn lf (decide (a < i)) w ∧ (i ≤ a → lf = (a : Int) - i ∧ half = []) ∧ P.length ≤ 21
section
variable {w0 w w' : World} {a i x : Nat}
theorem Run.lat (h : Run w0 a i x w) : Lat w0 w := h.1
theorem Run.keep (h : Run w0 a i x w) (hb : Lat w w') : Run w0 a i x w' := by
  obtain ⟨hl, G, P, half, sfn, lf, h1, h2, h3, h4, h5, h6, h7⟩ := h
  exact ⟨hl.trans hb, G, P, half, sfn, lf, h1, h2, h3, h4, h5, h6.keep hb, h7⟩
theorem Run.next (h : Run w0 a i x w) (hai : a < i) : Run w0 a (i + 1) x w := by
  obtain ⟨hl, G, P, half, sfn, lf, h1, h2, h3, h4, h5, h6, h7, h8⟩ := h
  rw [decide_eq_true hai] at h6
  refine ⟨hl, G, P, half, sfn, lf, h1, h2.mono (Nat.le_succ i), h3, h4, h5, ?_, fun e => by omega, h8⟩
  rw [decide_eq_true (by omega)]
  exact h6
theorem run_off_hear (h : Run w0 a i x w) (hai : a < i) (s : Int) : Calls Tryz.prog 8 #[.pointer (some ⟨x, 0, none⟩), .agg #[.int .i64 s, .string { data := #[120] }]] w fun e w' => e = .returned (eno 6) ∧ Run w0 a i x w' := by
  have hr := h
  obtain ⟨hl, G, P, half, sfn, lf, h1, h2, h3, h4, h5, h6, h7⟩ := h
  rw [decide_eq_true hai] at h6
  refine (log_hear_stopped h6 s [120]).mono ?_
  rintro e w1 ⟨rfl, hb⟩
  exact ⟨rfl, hr.keep hb⟩
theorem run_on_bad (h : Run w0 a i x w) (hai : i ≤ a) : Calls Tryz.prog 8 #[.pointer (some ⟨x, 0, none⟩), .agg #[.int .i64 0, .string { data := #[120] }]] w fun e w' => e = .returned (eno 1) ∧ Run w0 a i x w' := by
  have hr := h
  obtain ⟨hl, G, P, half, sfn, lf, h1, h2, h3, h4, h5, h6, h7⟩ := h
  rw [decide_eq_false (by omega)] at h6
  have hh := log_hear_bad h6 0 [120] (by rw [x_bad]; decide)
  rw [x_bad] at hh
  refine hh.mono ?_
  rintro e w1 ⟨rfl, hb⟩
  exact ⟨rfl, hr.keep hb⟩
theorem run_on_hear (h : Run w0 a i x w) (hai : i < a) (ha : a ≤ 20) (hp : Pow w0) : Calls Tryz.prog 8 #[.pointer (some ⟨x, 0, none⟩), .agg #[.int .i64 ((i : Int) + 1), .string { data := #[120] }]] w fun e w' => e = .returned .nilIface ∧ Run w0 a (i + 1) x w' := by
  obtain ⟨hl, G, P, half, sfn, lf, h1, h2, h3, h4, h5, h6, h7, h8⟩ := h
  obtain ⟨rfl, rfl⟩ := h7 (by omega)
  rw [decide_eq_false (by omega), List.append_nil] at h6
  have hfl := h2.flat (by omega)
  have hpl := h2.len
  have hn : ((i + 1 : Nat) : Int) ∉ (dsOf P).map Dr.s := h2.new (Nat.lt_succ_self i)
  have hh := log_hear_ok h6 (i + 1) [120] (hp.keep hl) (x_ok (i + 1) (by omega) (by omega)) (by rw [dsOf_len]; omega) hn (by omega) (by decide) (by rw [S_size]; omega) (by omega) (by omega) (by omega) ((a : Int) - ((i + 1 : Nat) : Int)) (by rw [if_neg (by omega)]; omega)
  rw [← dsOf_add, S_append, ← lsOf_add] at hh
  refine hh.mono ?_
  rintro e w1 ⟨rfl, hst⟩
  obtain ⟨G', ho, hG⟩ := hst.obj
  refine ⟨rfl, hst.fr.lat_of hl h1, G', _, [], sfn, _, fun j hj => (hG j hj).elim (h1 j) (fun e => Nat.le_trans hl.size e), h2.add, by simp, by simp, ?_, ?_, fun _ => ⟨rfl, rfl⟩, ?_⟩
  · rw [List.append_nil] at h5 ⊢
    rw [lsOf_add, List.length_append]; omega
  · rw [List.append_nil, decide_eq_false (by omega)]; exact ho
  · rw [List.length_append]; simp; omega
theorem run_at_hear (h : Run w0 a a x w) (ha : a ≤ 20) (hp : Pow w0) : Calls Tryz.prog 8 #[.pointer (some ⟨x, 0, none⟩), .agg #[.int .i64 ((a : Int) + 1), .string { data := #[120] }]] w fun e w' => e = .returned (eno 6) ∧ Run w0 a (a + 1) x w' := by
  obtain ⟨hl, G, P, half, sfn, lf, h1, h2, h3, h4, h5, h6, h7, h8⟩ := h
  obtain ⟨rfl, rfl⟩ := h7 (by omega)
  rw [decide_eq_false (by omega), List.append_nil, Int.sub_self] at h6
  have hfl := h2.flat (by omega)
  have hpl := h2.len
  have hn : ((a + 1 : Nat) : Int) ∉ (dsOf P).map Dr.s := h2.new (Nat.lt_succ_self a)
  have hh := log_hear_stop h6 (a + 1) [120] (hp.keep hl) (x_ok (a + 1) (by omega) (by omega)) (by rw [dsOf_len]; omega) hn (by omega) (by decide) (by rw [S_size]; omega)
  have hx : S (lsOf P).flatten ++ (S (recB ((a + 1 : Nat) : Int) [120])).extract 0 ((recB ((a + 1 : Nat) : Int) [120]).length / 2) = S ((lsOf P).flatten ++ (recB ((a + 1 : Nat) : Int) [120]).take ((recB ((a + 1 : Nat) : Int) [120]).length / 2)) := by
    rw [← S_append]
    congr 1
    rw [ByteArray.extract_mk] <;> simp
  rw [hx] at hh
  refine hh.mono ?_
  rintro e w1 ⟨rfl, hst⟩
  obtain ⟨G', ho, hG⟩ := hst.obj
  have hsh : (recB ((a + 1 : Nat) : Int) [120]).length ≤ 55 := rec_short (by omega) (by decide)
  refine ⟨rfl, hst.fr.lat_of hl h1, G', P, (recB ((a + 1 : Nat) : Int) [120]).take ((recB ((a + 1 : Nat) : Int) [120]).length / 2), sfn, -1, fun j hj => (hG j hj).elim (h1 j) (fun e => Nat.le_trans hl.size e), h2.mono (Nat.le_succ a), half_body _ _, ?_, ?_, ?_, fun e => by omega, h8⟩
  · rw [List.length_take]; omega
  · rw [List.append_nil] at h5
    rw [List.length_append]; omega
  · rw [decide_eq_true (by omega)]; exact ho
theorem run_on_sync (h : Run w0 a i x w) (hai : i < a) (ha : a ≤ 20) : Calls Tryz.prog 9 #[.pointer (some ⟨x, 0, none⟩)] w fun e w' => e = .returned .nilIface ∧ Run w0 a (i + 1) x w' := by
  obtain ⟨hl, G, P, half, sfn, lf, h1, h2, h3, h4, h5, h6, h7, h8⟩ := h
  obtain ⟨rfl, rfl⟩ := h7 (by omega)
  rw [decide_eq_false (by omega)] at h6
  refine (log_sync_ok h6 (by omega) (by omega) (by omega) ((a : Int) - ((i + 1 : Nat) : Int)) (by rw [if_neg (by omega)]; omega)).mono ?_
  rintro e w1 ⟨rfl, hf, ho⟩
  obtain ⟨Ge, y, q, K, L, hi⟩ := h6
  have hx := hi.gx
  refine ⟨rfl, hf.lat_of hl (fun k e => by rw [e]; exact h1 x hx), G, P, [], ((lsOf P).flatten ++ []).length, _, h1, h2.mono (Nat.le_succ i), h3, h4, Nat.le_refl _, ?_, fun _ => ⟨rfl, rfl⟩, h8⟩
  rw [decide_eq_false (by omega)]
  exact ho
theorem run_at_sync (h : Run w0 a a x w) : Calls Tryz.prog 9 #[.pointer (some ⟨x, 0, none⟩)] w fun e w' => e = .returned (eno 6) ∧ Run w0 a (a + 1) x w' := by
  obtain ⟨hl, G, P, half, sfn, lf, h1, h2, h3, h4, h5, h6, h7, h8⟩ := h
  obtain ⟨rfl, rfl⟩ := h7 (by omega)
  rw [decide_eq_false (by omega), Int.sub_self] at h6
  refine (log_sync_stop h6).mono ?_
  rintro e w1 ⟨rfl, hf, ho⟩
  obtain ⟨Ge, y, q, K, L, hi⟩ := h6
  have hx := hi.gx
  refine ⟨rfl, hf.lat_of hl (fun k e => by rw [e]; exact h1 x hx), G, P, [], sfn, -1, h1, h2.mono (Nat.le_succ a), h3, h4, h5, ?_, fun e => absurd e (by omega), h8⟩
  rw [decide_eq_true (by omega)]
  exact ho
theorem run_off_sync (h : Run w0 a i x w) (hai : a < i) : Calls Tryz.prog 9 #[.pointer (some ⟨x, 0, none⟩)] w fun e w' => e = .returned (eno 6) ∧ Run w0 a i x w' := by
  have hr := h
  obtain ⟨hl, G, P, half, sfn, lf, h1, h2, h3, h4, h5, h6, h7⟩ := h
  rw [decide_eq_true hai] at h6
  refine (log_sync_stopped h6).mono ?_
  rintro e w1 ⟨rfl, hb⟩
  exact ⟨rfl, hr.keep hb⟩
def Aft (w0 : World) (n x : Nat) (P : List (Nat × Bts)) (sf : Int) (w : World) : Prop :=
  Lat w0 w ∧ ∃ G : Nat → Prop, (∀ j, G j → w0.heap.size ≤ j) ∧ P.length = n ∧ LogO G x 2 1 2 (dsOf P) (S (lsOf P).flatten) sf (-1) false w
theorem Aft.keep {n : Nat} {P : List (Nat × Bts)} {sf : Int} (h : Aft w0 n x P sf w) (hb : Lat w w') : Aft w0 n x P sf w' := by
  obtain ⟨hl, G, h1, h2, h3⟩ := h
  exact ⟨hl.trans hb, G, h1, h2, h3.keep hb⟩
theorem run_crash (h : Run w0 a i x w) (hi : i ≤ 21) (hp : SpTab w0) (kp : Int) : Calls Tryz.prog 10 #[.pointer (some ⟨x, 0, none⟩), .int .i64 kp] w fun e w' => e = .returned (.tuple #[]) ∧ ∃ n P, n ≤ 21 ∧ SeedsTo 21 P ∧ Aft w0 n x P ((lsOf P).flatten.length : Nat) w' := by
  obtain ⟨hl, G, P, half, sfn, lf, h1, h2, h3, h4, h5, h6, h7, h8⟩ := h
  have hfl := h2.flat (by omega)
  refine (crash_ok G x 2 1 2 (dsOf P) half sfn lf _ P kp w h6 (hp.keep hl) (by decide) (by decide) (by decide) (by decide) (by decide) (by decide) (fun p hp => ?_) (by omega) h2.nd h3 h5 (by rw [List.length_append]; omega)).mono ?_
  · obtain ⟨g1, g2, g3⟩ := h2.all p hp
    rw [g3]; exact x_ok p.1 g1 (by omega)
  · rintro e w1 ⟨q, hq, -, rfl, hf, G', ho, hG⟩
    exact ⟨rfl, (P.take q).length, P.take q, by rw [List.length_take]; omega, (h2.take q).mono hi, hf.lat_of hl h1, G', fun j hj => (hG j hj).elim (h1 j) (fun e => Nat.le_trans hl.size e), rfl, ho⟩
theorem aft_seeds {n : Nat} {P : List (Nat × Bts)} {sf : Int} (h : Aft w0 n x P sf w) : Calls Tryz.prog 11 #[.pointer (some ⟨x, 0, none⟩)] w fun e w' => ∃ sa c, e = .returned (.slice sa n c) ∧ IntsAt w' sa n c (P.map fun p => (p.1 : Int)) ∧ Aft w0 n x P sf w' := by
  have hr := h
  obtain ⟨hl, G, h1, h2, h3⟩ := h
  have hs := log_seeds h3
  rw [dsOf_len, h2, show (dsOf P).map Dr.s = P.map (fun p => (p.1 : Int)) by unfold dsOf; rw [List.map_map]; rfl] at hs
  refine hs.mono ?_
  rintro e w1 ⟨sa, c, rfl, hi, hb⟩
  exact ⟨sa, c, rfl, hi, hr.keep hb⟩
theorem aft_hear {n : Nat} {P : List (Nat × Bts)} {sf : Int} (h : Aft w0 n x P sf w) (hn : n ≤ 21) (hP : SeedsTo 21 P) (hp : Pow w0) : Calls Tryz.prog 8 #[.pointer (some ⟨x, 0, none⟩), .agg #[.int .i64 200, .string { data := #[120] }]] w fun e w' => e = .returned .nilIface ∧ Aft w0 (n + 1) x (P ++ [(200, [120])]) sf w' := by
  obtain ⟨hl, G, h1, h2, h3⟩ := h
  have hfl := hP.flat (by omega)
  have hn : ((200 : Nat) : Int) ∉ (dsOf P).map Dr.s := hP.new (by decide)
  have hh := log_hear_ok h3 200 [120] (hp.keep hl) (x_ok 200 (by decide) (by decide)) (by rw [dsOf_len]; omega) hn (by decide) (by decide) (by rw [S_size]; omega) (by decide) (by decide) (by decide) (-1) rfl
  rw [← dsOf_add, S_append, ← lsOf_add] at hh
  refine hh.mono ?_
  rintro e w1 ⟨rfl, hst⟩
  obtain ⟨G', ho, hG⟩ := hst.obj
  exact ⟨rfl, hst.fr.lat_of hl h1, G', fun j hj => (hG j hj).elim (h1 j) (fun e => Nat.le_trans hl.size e), by rw [List.length_append, h2]; rfl, ho⟩
theorem aft_sync {n : Nat} {P : List (Nat × Bts)} {sf : Int} (h : Aft w0 n x P sf w) : Calls Tryz.prog 9 #[.pointer (some ⟨x, 0, none⟩)] w fun e w' => e = .returned .nilIface ∧ Aft w0 n x P ((lsOf P).flatten.length : Nat) w' := by
  obtain ⟨hl, G, h1, h2, h3⟩ := h
  refine (log_sync_ok h3 (by decide) (by decide) (by decide) (-1) rfl).mono ?_
  rintro e w1 ⟨rfl, hf, ho⟩
  obtain ⟨Ge, y, q, K, L, hi⟩ := h3
  have hx := hi.gx
  exact ⟨rfl, hf.lat_of hl (fun k e => by rw [e]; exact h1 x hx), G, h1, h2, ho⟩
end
end Go.Proofs.YtgcmlpcpkpnfnaaGreatDoor

namespace Go.Proofs.YtgcmlpcpkpnfnaaGreatDoor
open Go.ChangeShapes Go.WideShapes Go.ChangeAt Go.RowKit

def LG (w0 : World) (k m n x : Nat) (P : List (Nat × Bts)) (sf : Int) (w : World) : Prop :=
  Lat w0 w ∧ ∃ G : Nat → Prop, (∀ j, G j → w0.heap.size ≤ j) ∧ LogO G x k m n (dsOf P) (S (lsOf P).flatten) sf (-1) false w
section
variable {w0 w w' : World} {k m n x : Nat} {P : List (Nat × Bts)} {sf : Int}
theorem LG.lat (h : LG w0 k m n x P sf w) : Lat w0 w := h.1
theorem LG.keep (h : LG w0 k m n x P sf w) (hb : Lat w w') : LG w0 k m n x P sf w' := by
  obtain ⟨hl, G, h1, h2⟩ := h
  exact ⟨hl.trans hb, G, h1, h2.keep hb⟩
theorem lg_new (k m n : Nat) (w : World) (h1 : 1 ≤ k) (h2 : k ≤ 16) (h3 : 1 ≤ m) (h4 : m ≤ 8) (h5 : n ≤ 120) (h6 : many n m = k) :
    Calls Tryz.prog 6 #[.int .i64 k, .int .i64 m, .int .i64 n] w fun e w' => ∃ x, e = .returned (.tuple #[.pointer (some ⟨x, 0, none⟩), .nilIface]) ∧ LG w k m n x [] 0 w' := by
  refine (log_new_ok k m n w h1 h2 h3 h4 h5 h6).mono ?_
  rintro e w1 ⟨x, G, rfl, ho, hG, hl⟩
  exact ⟨x, rfl, hl, G, hG, ho⟩
theorem new_drop {z : Nat} (h : z ∉ P.map Prod.fst) : (z : Int) ∉ (dsOf P).map Dr.s := fun hm => by
  obtain ⟨d, hd, hde⟩ := List.mem_map.1 hm
  obtain ⟨p, hp, rfl⟩ := List.mem_map.1 hd
  have e1 : (p.1 : Int) = z := hde
  have e2 : p.1 = z := by omega
  exact h (e2 ▸ List.mem_map_of_mem hp)
theorem lg_hear (h : LG w0 k m n x P sf w) (hp : Pow w0) (z : Nat) (t : Bts) (hE : drpE k m (z : Int) (S t) = 0) (hl : P.length < 60) (hz : z ∉ P.map Prod.fst) (hz2 : z ≤ 10000) (ht : t.length ≤ 8) (hP : ∀ p ∈ P, p.1 ≤ 10000 ∧ p.2.length ≤ 8) :
    Calls Tryz.prog 8 #[.pointer (some ⟨x, 0, none⟩), .agg #[.int .i64 (z : Int), .string (S t)]] w fun e w' => e = .returned .nilIface ∧ LG w0 k m n x (P ++ [(z, t)]) sf w' := by
  obtain ⟨hlt, G, h1, h2⟩ := h
  have hfl := flat_le P hP
  have hh := log_hear_ok h2 z t (hp.keep hlt) hE (by rw [dsOf_len]; omega) (new_drop hz) hz2 ht (by rw [S_size]; omega) (by decide) (by decide) (by decide) (-1) rfl
  rw [← dsOf_add, S_append, ← lsOf_add] at hh
  refine hh.mono ?_
  rintro e w1 ⟨rfl, hst⟩
  obtain ⟨G', ho, hG⟩ := hst.obj
  exact ⟨rfl, hst.fr.lat_of hlt h1, G', fun j hj => (hG j hj).elim (h1 j) (fun e => Nat.le_trans hlt.size e), ho⟩
theorem lg_sync (h : LG w0 k m n x P sf w) : Calls Tryz.prog 9 #[.pointer (some ⟨x, 0, none⟩)] w fun e w' => e = .returned .nilIface ∧ LG w0 k m n x P ((lsOf P).flatten.length : Nat) w' := by
  obtain ⟨hl, G, h1, h2⟩ := h
  refine (log_sync_ok h2 (by decide) (by decide) (by decide) (-1) rfl).mono ?_
  rintro e w1 ⟨rfl, hf, ho⟩
  obtain ⟨Ge, y, q, K, L, hi⟩ := h2
  have hx := hi.gx
  exact ⟨rfl, hf.lat_of hl (fun k e => by rw [e]; exact h1 x hx), G, h1, ho⟩
theorem lg_crash (h : LG w0 k m n x P ((lsOf P).flatten.length : Nat) w) (hp : SpTab w0) (h1 : 1 ≤ k) (h2 : k ≤ 16) (h3 : 1 ≤ m) (h4 : m ≤ 8) (h5 : n ≤ 120) (h6 : many n m = k)
    (hok : ∀ p ∈ P, drpE k m p.1 (S p.2) = 0) (hl : P.length ≤ 60) (hnd : (P.map Prod.fst).Nodup) (hP : ∀ p ∈ P, p.1 ≤ 10000 ∧ p.2.length ≤ 8) (kp : Int) :
    Calls Tryz.prog 10 #[.pointer (some ⟨x, 0, none⟩), .int .i64 kp] w fun e w' => e = .returned (.tuple #[]) ∧ LG w0 k m n x P ((lsOf P).flatten.length : Nat) w' := by
  obtain ⟨hlt, G, g1, g2⟩ := h
  have hfl := flat_le P hP
  have e0 : (lsOf P).flatten ++ ([] : Bts) = (lsOf P).flatten := List.append_nil _
  have hc := crash_ok G x k m n (dsOf P) [] (lsOf P).flatten.length (-1) false P kp w (by rw [e0]; exact g2) (hp.keep hlt) h1 h2 h3 h4 h5 h6 hok hl hnd (by simp) (by rw [e0]; exact Nat.le_refl _) (by rw [e0]; omega)
  refine hc.mono ?_
  rintro e w1 ⟨q, hq, hall, rfl, hf, G', ho, hG⟩
  obtain rfl := hall (Nat.le_refl _)
  rw [List.take_length] at ho
  exact ⟨rfl, hf.lat_of hlt g1, G', fun j hj => (hG j hj).elim (g1 j) (fun e => Nat.le_trans hlt.size e), ho⟩
theorem lg_seeds (h : LG w0 k m n x P sf w) : Calls Tryz.prog 11 #[.pointer (some ⟨x, 0, none⟩)] w fun e w' => ∃ sa c, e = .returned (.slice sa P.length c) ∧ IntsAt w' sa P.length c ((dsOf P).map Dr.s) ∧ LG w0 k m n x P sf w' := by
  have hr := h
  obtain ⟨hl, G, h1, h2⟩ := h
  have hs := log_seeds h2
  rw [dsOf_len] at hs
  refine hs.mono ?_
  rintro e w1 ⟨sa, c, rfl, hi, hb⟩
  exact ⟨sa, c, rfl, hi, hr.keep hb⟩
end
end Go.Proofs.YtgcmlpcpkpnfnaaGreatDoor

namespace Go.Proofs.YtgcmlpcpkpnfnaaGreatDoor
open Go.ChangeShapes Go.WideShapes Go.ChangeAt Go.RowKit

set_option maxHeartbeats 400000 in
theorem sameStrs_yes (a : Option Addr) (n cap : Nat) (zs : List ByteArray) (b : Option Addr) (cap2 : Nat) (w : World) (h : StrsAt w a n cap zs) (h2 : StrsAt w b n cap2 zs) :
    Calls Tryz.prog 17 #[.slice a n cap, .slice b n cap2] w fun e w' => e = .returned (.bool true) ∧ Lat w w' := by
  have hcap2 := h.row.cap
  have hle2 := h.row.le
  unfold maxLen at hcap2
  have H1 := Lib.hid h
  have H2 := Lib.hid h2
  have dn : ((n : Int) != (n : Int)) = false := by simp
  clear h h2
  go_enter Tryz.func17, Tryz.ntmps17
  go_wp2
  go_loopw [5] (fun i wr => ∃ k : Nat, k ≤ n ∧ i = .int .i64 k ∧ Hid (Lat w wr)) (fun i _ => n - (intOf i).toNat)
  case atStart => exact ⟨0, Nat.zero_le _, rfl, Lat.refl _⟩
  case round =>
    obtain ⟨k, hk, rfl, hrel⟩ := hrel
    by_cases hlt : k < n
    · obtain ⟨b1, o1, rfl, hc1⟩ := H1.out.row.at_ (by omega)
      obtain ⟨b2, o2, rfl, hc2⟩ := H2.out.row.at_ (by omega)
      have c1 := hrel.out.cell_at (hc1 k hlt)
      have c2 := hrel.out.cell_at (hc2 k hlt)
      obtain ⟨z, hz⟩ : ∃ z, z = zs.getD k ByteArray.empty := ⟨_, rfl⟩
      rw [← hz] at c1 c2
      clear hc1 hc2 hz
      go_wp2
      go_quiet (fail)
      go_wp2
      go_roundw
      case rel => exact ⟨k + 1, by omega, by go_num, Lat.trans hrel.out (Lat.drewN _ _)⟩
      case measure => simp [intOf]; omega
    · go_wp2
      go_ret
      exact ⟨rfl, hrel.out⟩
end Go.Proofs.YtgcmlpcpkpnfnaaGreatDoor

namespace Go.Proofs.YtgcmlpcpkpnfnaaGreatDoor
open Go.ChangeShapes Go.WideShapes Go.ChangeAt Go.RowKit

def idx (g : Nat) : Nat → List Nat
  | 0 => []
  | j + 1 => if j = g then idx g j else idx g j ++ [j]
theorem idx_mem (g : Nat) : ∀ j i, i ∈ idx g j ↔ i < j ∧ i ≠ g
  | 0, i => by simp [idx]
  | j + 1, i => by
    have ih := idx_mem g j i
    unfold idx
    by_cases e : j = g
    · rw [if_pos e, ih]; omega
    · rw [if_neg e, List.mem_append, ih, List.mem_singleton]; omega
theorem idx_nodup (g : Nat) : ∀ j, (idx g j).Nodup
  | 0 => by simp [idx]
  | j + 1 => by
    unfold idx
    split
    · exact idx_nodup g j
    · rw [List.nodup_append]
      refine ⟨idx_nodup g j, by simp, fun a ha b hb e => ?_⟩
      rw [List.mem_singleton] at hb
      have := (idx_mem g j a).1 ha
      omega
theorem idx_len (g : Nat) : ∀ j, (idx g j).length ≤ j
  | 0 => by simp [idx]
  | j + 1 => by
    have := idx_len g j
    unfold idx
    split
    · omega
    · rw [List.length_append, List.length_singleton]; omega
def psG (ss : List ByteArray) (g j : Nat) : List (Nat × Bts) := (idx g j).map fun i => (i + 1, bl ss i)
theorem psG_len (ss : List ByteArray) (g j : Nat) : (psG ss g j).length ≤ j := by unfold psG; rw [List.length_map]; exact idx_len g j
theorem psG_same (ss : List ByteArray) (g : Nat) : psG ss g (g + 1) = psG ss g g := by
  show (idx g (g + 1)).map _ = _
  rw [idx, if_pos rfl]; rfl
theorem psG_add (ss : List ByteArray) {g j : Nat} (h : j ≠ g) : psG ss g (j + 1) = psG ss g j ++ [(j + 1, bl ss j)] := by
  show (idx g (j + 1)).map _ = _
  rw [idx, if_neg h, List.map_append]; rfl
theorem psG_fst (ss : List ByteArray) (g j : Nat) : (psG ss g j).map Prod.fst = (idx g j).map (· + 1) := by unfold psG; rw [List.map_map]; rfl
theorem psG_new (ss : List ByteArray) (g j : Nat) : j + 1 ∉ (psG ss g j).map Prod.fst := fun h => by
  rw [psG_fst] at h
  obtain ⟨i, hi, e⟩ := List.mem_map.1 h
  have := (idx_mem g j i).1 hi
  omega
theorem psG_nodup (ss : List ByteArray) (g j : Nat) : ((psG ss g j).map Prod.fst).Nodup := by
  rw [psG_fst]
  exact List.Pairwise.map (· + 1) (fun a b h e => h (by omega)) (idx_nodup g j)
theorem psG_seeds (ss : List ByteArray) (g j : Nat) : (dsOf (psG ss g j)).map Dr.s = seedsOf (idx g j) := by
  unfold dsOf psG seedsOf
  rw [List.map_map, List.map_map]
  exact List.map_congr_left fun i _ => by show ((i + 1 : Nat) : Int) = (i : Int) + 1; omega
theorem psG_ok {ss : List ByteArray} (hc : ChkOk ss) {g j : Nat} (hj : j ≤ ss.length) : ∀ p ∈ psG ss g j, (p.1 ≤ 10000 ∧ p.2.length ≤ 8) ∧ drpE (ss.length : Nat) (szAt ss 0 : Nat) (p.1 : Int) (S p.2) = 0 := fun p hp => by
  unfold psG at hp
  obtain ⟨i, hi, rfl⟩ := List.mem_map.1 hp
  have h1 := (idx_mem g j i).1 hi
  have h2 := bl_lens hc i (by omega)
  have h3 := hc.eight
  have h4 := hc.most
  have h5 := hc.one
  exact ⟨⟨by show i + 1 ≤ 10000; omega, by show (bl ss i).length ≤ 8; omega⟩, drpE_ok (by omega) h4 h5 h3 (by show (1 : Int) ≤ ((i + 1 : Nat) : Int); omega) (by show ((i + 1 : Nat) : Int) ≤ 10000; omega) h2⟩
theorem psG_made {ss : List ByteArray} (hc : chk ss = 0) {g j : Nat} (hj : j ≤ ss.length) : MadeOf ss (dsOf (psG ss g j)) := fun d hd => by
  unfold dsOf psG at hd
  rw [List.map_map] at hd
  obtain ⟨i, hi, rfl⟩ := List.mem_map.1 hd
  have h1 := (idx_mem g j i).1 hi
  have hu := made_unit hc (i := i) (by omega)
  have e : ((i + 1 : Nat) : Int) = (i : Int) + 1 := by omega
  show dmkE ss ((i + 1 : Nat) : Int) = 0 ∧ S (bl ss i) = dmkD ss ((i + 1 : Nat) : Int)
  rw [e]
  exact ⟨hu.1, hu.2.2.symm⟩
theorem sp_bit {L : List Vec} {b : Nat} (h : ∀ u ∈ L, u.1.testBit b = false) : ∀ v, Sp 0 L v → v.1.testBit b = false := fun v hv => by
  obtain ⟨M, hM, rfl⟩ := hv
  induction M with
  | nil => exact vz_bit 0 b
  | cons u M ih =>
    show (vx u (sumV 0 M)).1.testBit b = false
    rw [vx_bit, h u (hM u List.mem_cons_self), ih fun x hx => hM x (List.mem_cons_of_mem u hx)]; rfl
theorem lack_idx {k g : Nat} (h64 : k ≤ 64) (hg : g < k) : ∀ i, i ≤ k → lackL k ((idx g k).map unit) i = if g < i then [g] else []
  | 0, _ => by rw [if_neg (by omega)]; rfl
  | i + 1, hi => by
    have ih := lack_idx h64 hg i (by omega)
    have hb1 : Bare k ((idx g k).map unit) := bare_units _ fun j hj => ((idx_mem g k j).1 hj).1
    have hb : Bare k ((idx g k).map unit ++ (List.range i).map unit) := hb1.append (bare_range (by omega))
    have hr := raises_iff h64 hb (v := unit i) rfl
    rw [lackL, ih]
    by_cases e : i = g
    · have hn : raises k ((idx g k).map unit ++ (List.range i).map unit) (unit i) = true := by
        cases hc : raises k ((idx g k).map unit ++ (List.range i).map unit) (unit i) with
        | true => rfl
        | false =>
          have hs := sp_bit (b := g) (fun u hu => by
            have hu' : ∃ j, j ≠ g ∧ u = unit j := by
              rcases List.mem_append.1 hu with h | h
              · obtain ⟨j, hj, rfl⟩ := List.mem_map.1 h
                exact ⟨j, ((idx_mem g k j).1 hj).2, rfl⟩
              · obtain ⟨j, hj, rfl⟩ := List.mem_map.1 h
                have := List.mem_range.1 hj
                exact ⟨j, by omega, rfl⟩
            obtain ⟨j, hj, rfl⟩ := hu'
            unfold unit
            exact Nat.testBit_two_pow_of_ne hj) _ (hr.1 hc)
          rw [e] at hs
          unfold unit at hs
          rw [Nat.testBit_two_pow_self] at hs
          cases hs
      rw [if_pos hn, if_neg (by omega), if_pos (by omega), e]; rfl
    · have hn : raises k ((idx g k).map unit ++ (List.range i).map unit) (unit i) = false :=
        hr.2 (Sp.mem hb.wf (List.mem_append_left _ (List.mem_map_of_mem ((idx_mem g k i).2 ⟨by omega, e⟩))))
      rw [if_neg (by rw [hn]; decide)]
      by_cases h : g < i
      · rw [if_pos h, if_pos (by omega)]
      · rw [if_neg h, if_neg (by omega)]
theorem idx_lt {g k : Nat} : ∀ i ∈ idx g k, i < k := fun i hi => ((idx_mem g k i).1 hi).1
theorem rdy_idx {k g : Nat} (h1 : 1 ≤ k) (h2 : k ≤ 16) : rdyE k (seedsOf (idx g k)) = 0 :=
  rdyE_of (by have := idx_len g k; unfold seedsOf; rw [List.length_map]; omega) h1 h2 (seeds_ok idx_lt h2)
theorem lackR_idx {k g : Nat} (h2 : k ≤ 16) (hg : g < k) : lackR k (seedsOf (idx g k)) = [(g : Int)] := by
  unfold lackR
  rw [if_pos (rdy_idx (by omega) h2), Int.toNat_natCast, rows_seedsOf k _ idx_lt, lack_idx (by omega) hg k (Nat.le_refl k), if_pos hg]; rfl
theorem rank_idx {k g : Nat} (h2 : k ≤ 16) (hg : g < k) : rankR k (seedsOf (idx g k)) ≠ k := by
  rw [rankR_of (rdy_idx (by omega) h2), rows_seedsOf k _ idx_lt]
  have hb1 : Bare k ((idx g k).map unit) := bare_units _ idx_lt
  have := lack_len (k := k) (by omega) hb1
  rw [lack_idx (by omega) hg k (Nat.le_refl k), if_pos hg] at this
  simp at this
  omega
theorem data_idx {ss : List ByteArray} (hc : chk ss = 0) {g : Nat} (hg : g < ss.length) (n : Nat) :
    dtE ss.length n (dsOf (psG ss g ss.length)) = 8 ∧ dtS ss.length n (dsOf (psG ss g ss.length)) = .empty ∧ (slvC ss.length (rowsD ss.length (dsOf (psG ss g ss.length))) (dsOf (psG ss g ss.length)).length 0 = false → rnkT (tabT ss.length (rowsD ss.length (dsOf (psG ss g ss.length)))) ss.length = ss.length → ∀ j, j < ss.length → (outF (tabT ss.length (rowsD ss.length (dsOf (psG ss g ss.length)))) ss.length ss.length j).length ≤ maxLen) := by
  have hmost := (chk_ok hc).most
  have hr : rdyE ss.length ((dsOf (psG ss g ss.length)).map Dr.s) = 0 := by rw [psG_seeds]; exact rdy_idx (by omega) hmost
  have hmd := psG_made hc (g := g) (Nat.le_refl ss.length)
  obtain ⟨h1, h2⟩ := made_all hc hmd hr
  have hk := rnk_rows (dsOf (psG ss g ss.length)) hr
  rw [psG_seeds] at hk
  have hne := rank_idx hmost hg
  have hle := rnkT_le (tabT ss.length (rowsD ss.length (dsOf (psG ss g ss.length)))) ss.length
  have hlt : rnkT (tabT ss.length (rowsD ss.length (dsOf (psG ss g ss.length)))) ss.length < ss.length := by omega
  refine ⟨?_, ?_, fun _ hf => by omega⟩
  · unfold dtE
    rw [if_neg (by rw [h1]; decide), if_pos hlt]
  · unfold dtS
    rw [if_neg (by rw [h1]; decide), if_pos hlt]
theorem getD_one (N p q : Nat) (h : ((List.replicate N false).set p true).getD q false = true) : q = p := by
  by_cases e : p = q
  · exact e.symm
  · rw [List.getD_eq_getElem?_getD, List.getElem?_set_ne e, List.getElem?_replicate] at h
    split at h <;> cases h
theorem heal_but {ls : List ByteArray} {f p : Nat} {s : ByteArray} (hok : ChkOk ls) (h1 : 1 ≤ f) (h2 : f ≤ 16) (hfit : ls.length + grps ls.length f ≤ 16) (hp : p < ls.length + grps ls.length f) (hs : s.size = szAt ls 0) :
    healL ((addS ls f).set p s) ((List.replicate (ls.length + grps ls.length f) false).set p true) f = ls ∧ healE ((addS ls f).set p s) ((List.replicate (ls.length + grps ls.length f) false).set p true) f = 0 := by
  have hxl := addS_length ls f
  obtain ⟨lk, hlk⟩ : ∃ lk, lk = (List.replicate (ls.length + grps ls.length f) false).set p true := ⟨_, rfl⟩
  have hlkl : lk.length = ls.length + grps ls.length f := by rw [hlk, List.length_set, List.length_replicate]
  have hone : ∀ q, lk.getD q false = true → q = p := fun q hq => getD_one _ p q (by rw [← hlk]; exact hq)
  have hpt : lk.getD p false = true := by rw [hlk, List.getD_eq_getElem?_getD, List.getElem?_set_self (by rw [List.length_replicate]; exact hp)]; rfl
  rw [← hlk]
  suffices hh : healE ((addS ls f).set p s) lk f = 0 ∧ healS ((addS ls f).set p s) lk f = ls by
    unfold healL
    rw [if_pos hh.1]; exact ⟨hh.2, hh.1⟩
  have hzl : ((addS ls f).set p s).length = ls.length + grps ls.length f := by rw [List.length_set, hxl]
  refine heal_all (ls := ls) (f := f) hok h1 h2 hfit hzl (fun x hx => ?_) (by rw [hlkl, hzl]) (fun g hg => ?_) (fun g hg j hj hl => ?_)
  · rcases List.mem_or_eq_of_mem_set hx with h | h
    · exact addS_sizes hok f x h
    · rw [h]; exact hs
  · have hq := (grps_lt ls.length f g h1).1 hg
    obtain ⟨t, ht⟩ : ∃ t, t = min f (ls.length - g * f) := ⟨_, rfl⟩
    have hgsl : (gsG ((addS ls f).set p s) ls.length f g).length = t + 1 := by
      unfold gsG
      rw [List.length_append, grpAt_len _ _ _ _ (by rw [hzl]; omega), ← ht]; rfl
    rw [hgsl]
    have hk : ∀ j, j ≤ t → (lkG lk ls.length f g).getD j false = lk.getD (ofN ls.length f g t j) false := fun j hj => grp_get false lk ls.length f g t (by rw [hlkl]; omega) hq ht j hj
    refine cntT_le_one _ _ fun i j hi hj hbi hbj => ?_
    rw [hk i (by omega)] at hbi
    rw [hk j (by omega)] at hbj
    have e2 := (hone _ hbi).trans (hone _ hbj).symm
    have oi := ofN_at (n := ls.length) (j := i) h1 hq ht
    have oj := ofN_at (n := ls.length) (j := j) h1 hq ht
    rcases Nat.lt_or_ge i t with hit | hit
    · rcases Nat.lt_or_ge j t with hjt | hjt
      · have := (oi.2.2.1 hit).1; have := (oj.2.2.1 hjt).1; omega
      · have := (oi.2.2.1 hit).2; have := oj.2.2.2 (by omega); omega
    · rcases Nat.lt_or_ge j t with hjt | hjt
      · have := (oj.2.2.1 hjt).2; have := oi.2.2.2 (by omega); omega
      · omega
  · have hq := (grps_lt ls.length f g h1).1 hg
    obtain ⟨t, ht⟩ : ∃ t, t = min f (ls.length - g * f) := ⟨_, rfl⟩
    have hgsl : (gsG ((addS ls f).set p s) ls.length f g).length = t + 1 := by
      unfold gsG
      rw [List.length_append, grpAt_len _ _ _ _ (by rw [hzl]; omega), ← ht]; rfl
    rw [hgsl] at hj
    have hk := grp_get false lk ls.length f g t (by rw [hlkl]; omega) hq ht j (by omega)
    have hl2 : lk.getD (ofN ls.length f g t j) false = false := hk.symm.trans hl
    have hne : ofN ls.length f g t j ≠ p := fun e => by
      rw [e, hpt] at hl2; cases hl2
    have hz := grp_get ByteArray.empty ((addS ls f).set p s) ls.length f g t (by rw [hzl]; omega) hq ht j (by omega)
    have hx := grp_get ByteArray.empty (addS ls f) ls.length f g t (by rw [hxl]; omega) hq ht j (by omega)
    unfold gsG
    rw [hz, hx, List.getD_eq_getElem?_getD, List.getElem?_set_ne (fun e => hne e.symm), ← List.getD_eq_getElem?_getD]
end Go.Proofs.YtgcmlpcpkpnfnaaGreatDoor

namespace Go.Proofs.YtgcmlpcpkpnfnaaGreatDoor
open Go.ChangeShapes Go.WideShapes Go.ChangeAt Go.RowKit

theorem many_mul {k m : Nat} (hk : 1 ≤ k) (h : 1 ≤ m) : many (k * m) m = k := by
  unfold many
  rw [show k * m + m - 1 = (m - 1) + k * m by omega, Nat.add_mul_div_right _ _ (by omega), Nat.div_eq_of_lt (by omega)]; omega
theorem ear_new_big (k m n : Nat) (w : World) (h1 : 1 ≤ k) (h2 : k ≤ 16) (h3 : 1 ≤ m) (h4 : m ≤ 8) (h5 : 120 < n) :
    Calls Tryz.prog 18 #[.int .i64 k, .int .i64 m, .int .i64 n] w fun e w' => e = .returned (.tuple #[.pointer none, eno 1]) ∧ Lat w w' := by
  have d0 : decide ((n : Int) < 0) = false := decide_eq_false (by omega)
  have d1 : decide ((120 : Int) < (n : Int)) = true := decide_eq_true (by omega)
  go_enter Tryz.func18, Tryz.ntmps18
  go_wp2_with (go_at_call 45; refine (peel_new_ok k m _ h1 h2 h3 h4).mono ?_; rintro e w1 ⟨p, G, rfl, hp, hG, hl⟩; have HL := Lib.hid hl; clear hp hG hl)
  go_ret2
  exact ⟨rfl, HL.out⟩
theorem log_new_big (k m n : Nat) (w : World) (h1 : 1 ≤ k) (h2 : k ≤ 16) (h3 : 1 ≤ m) (h4 : m ≤ 8) (h5 : 120 < n) :
    Calls Tryz.prog 6 #[.int .i64 k, .int .i64 m, .int .i64 n] w fun e w' => e = .returned (.tuple #[.pointer none, eno 1]) ∧ Lat w w' := by
  have hp := ear_new_big k m n w h1 h2 h3 h4 h5
  have HP := Lib.hid hp
  clear hp h1 h2 h3 h4 h5
  go_enter Tryz.func6, Tryz.ntmps6
  go_wp2_with fail
  refine HP.out.mono ?_
  rintro e w1 ⟨rfl, hb1⟩
  go_wp2_with fail
  go_ret2
  exact ⟨rfl, hb1⟩

theorem blk_other {w : World} {g n h : Nat} {F : Nat → Value} (hb : Blk w g n F) (hne : g ≠ h) (o : Nat) (v : Value) : Blk (w.setCell ⟨h, o, none⟩ v) g n F :=
  ⟨by simpa [World.setCell] using hb.lt, fun j hj => by rw [World.cell?_setCell_other _ _ _ _ (by intro e; injection e with e1 _ _; exact hne e1.symm)]; exact hb.cell j hj, fun j hj => by rw [World.frozen?_setCell]; exact hb.free j hj⟩

set_option maxHeartbeats 8000000 in
set_option maxRecDepth 100000 in
theorem walk_topGuard (a : Option Addr) (n cap : Nat) (ls : List ByteArray) (each gone keep : Int) (w : World) (hg : Hnd w) (hp : Pow w) (hsp : SpTab w) (h : StrsAt w a n cap ls) (_ : (Lit.int .i64 each).wf = true) (_ : (Lit.int .i64 gone).wf = true) (_ : (Lit.int .i64 keep).wf = true) :
    Calls Tryz.prog 3 #[.slice a n cap, .int .i64 each, .int .i64 gone, .int .i64 keep] w fun e w' => e = .returned (.bool true) ∧ Lat w w' := by
  have hlen := h.len
  have H := Lib.hid h; have HG := Lib.hid hg; have HP := Lib.hid hp; have HSP := Lib.hid hsp
  clear hg hp hsp
  by_cases h0 : addE ls each = 0
  case neg =>
    have k1 := fun W (hW : Lat w W) => add_any a n cap ls each W (h.keep hW)
    rw [errv_pos h0] at k1
    have HK1 := Lib.hid k1
    clear k1 h h0 hlen
    go_enter Tryz.func3, Tryz.ntmps3
    go_wp2_with fail
    refine (one_any w).mono ?_
    rintro e w1 ⟨rfl, hb1⟩
    have HB1 := Lib.hid hb1
    clear hb1
    go_wp2_with fail
    refine (HK1.out _ HB1.out).mono ?_
    rintro x w2 ⟨⟨xa, xk, xc, rfl, -⟩, hb2⟩
    have HB2 := Lib.hid (Lat.trans HB1.out hb2)
    clear hb2
    go_wp2_with fail
    go_ret
    exact ⟨rfl, HB2.out⟩
  obtain ⟨c1, c2, c3, c4⟩ := addE_zero h0
  obtain ⟨f, rfl⟩ : ∃ f : Nat, each = f := ⟨each.toNat, by omega⟩
  rw [Int.toNat_natCast] at c4
  have hck := chk_ok c1
  have hf1 : 1 ≤ f := by omega
  have hf2 : f ≤ 16 := by omega
  have k1 := fun W (hW : Lat w W) => add_ok a n cap ls f W (h.keep hW) c1 hf1 hf2 (by rw [← hlen]; exact c4)
  have hG := grps_pos ls.length f hck.pos hf1
  have hxl := addS_length ls f
  have hxs := addS_sizes hck f
  obtain ⟨hxok, hz0⟩ := addS_ok hck f c4
  have hheal := fun p s => heal_but (p := p) (s := s) hck hf1 hf2 c4
  have hm1 := hck.one
  have hm8 := hck.eight
  have hp1 := hck.pos
  obtain ⟨m, hm⟩ : ∃ m, m = szAt ls 0 := ⟨_, rfl⟩
  obtain ⟨N, hN⟩ : ∃ N, N = ls.length + grps ls.length f := ⟨_, rfl⟩
  obtain ⟨xs, hxs0⟩ : ∃ xs, xs = addS ls f := ⟨_, rfl⟩
  rw [← hxs0] at k1 hxl hxs hxok hz0 hheal
  rw [← hN] at hxl c4 hheal
  rw [← hm] at hxs hz0 hheal hm1 hm8
  have hN2 : 2 ≤ N := by omega
  have hxc := chk_of hxok
  obtain ⟨NM, hNM⟩ : ∃ NM, NM = N * m := ⟨_, rfl⟩
  have hmul : (N : Int) * (m : Int) = (NM : Int) := by rw [hNM]; exact (Int.natCast_mul N m).symm
  have hmany : many NM m = N := by rw [hNM]; exact many_mul (by omega) hm1
  have hNMb : NM ≤ 128 := by rw [hNM]; exact Nat.mul_le_mul c4 hm8
  have d1 : decide ((N : Int) < 2) = false := decide_eq_false (by omega)
  have d2 : decide ((2 : Int) ≤ (N : Int)) = true := decide_eq_true (by omega)
  have HK1 := Lib.hid k1; have HXL := Lib.hid hxl; have HXS := Lib.hid hxs; have HXOK := Lib.hid hxok; have HXC := Lib.hid hxc; have HZ0 := Lib.hid hz0; have HHEAL := Lib.hid hheal; have HMANY := Lib.hid hmany; have HM := Lib.hid (And.intro hm1 hm8); have HN := Lib.hid (And.intro hN2 c4); have HNMB := Lib.hid hNMb; have HLEN := Lib.hid hlen
  clear k1 h h0 c1 c2 c3 hck hG hxl hxs hxok hz0 hheal hxs0 hN hm hxc hNM hmany hp1 hlen
  by_cases hgb : gone < 0 ∨ (N : Int) ≤ gone
  · have hq : decide (gone < 0) = true ∨ (decide (gone < 0) = false ∧ decide ((N : Int) ≤ gone) = true) := by
      simp only [decide_eq_true_eq, decide_eq_false_iff_not]
      omega
    clear hgb hmul hm1 hm8
    rcases hq with e1 | ⟨e1, e2⟩
    all_goals
      go_enter Tryz.func3, Tryz.ntmps3
      go_wp2_with fail
      refine (one_any w).mono ?_
      rintro e w1 ⟨rfl, hb1⟩
      have HB1 := Lib.hid hb1
      clear hb1
      go_wp2_with fail
      refine (HK1.out _ HB1.out).mono ?_
      rintro x w2 ⟨v, rfl, hov, hb2⟩
      obtain ⟨xa, xc, rfl⟩ := own_len (t := N) hov (by rw [List.length_map]; exact HXL.out)
      have HB2 := Lib.hid (Lat.trans HB1.out hb2)
      clear hb2 hov
      go_wp2_with fail
      go_ret
      exact ⟨rfl, HB2.out⟩
  obtain ⟨g, rfl⟩ : ∃ g : Nat, gone = g := ⟨gone.toNat, by omega⟩
  have hgN : g < N := by omega
  have e1 : decide ((g : Int) < 0) = false := decide_eq_false (by omega)
  have e2 : decide (N ≤ g) = false := decide_eq_false (by omega)
  have i0 : (0 : Int) < (N : Int) := by omega
  have i00 : 0 < N := by omega
  clear hgb
  go_enter Tryz.func3, Tryz.ntmps3
  go_wp2_with fail
  refine (one_any w).mono ?_
  rintro e w1 ⟨rfl, hb1⟩
  have HB1 := Lib.hid hb1
  clear hb1
  go_wp2_with fail
  refine (HK1.out _ HB1.out).mono ?_
  rintro x w2 ⟨v, rfl, hov, hb2⟩
  obtain ⟨xa, xc, rfl⟩ := own_len (t := N) hov (by rw [List.length_map]; exact HXL.out)
  obtain ⟨xb, rfl, hxb, -, hkc, hkm, hblk⟩ := blk_strs hov (by rw [HXL.out]; omega)
  rw [HXL.out] at hblk
  have hc0 : w2.cell? ⟨xb, 0, none⟩ = some (.string (xs.getD 0 ByteArray.empty)) := hblk.cell 0 i00
  have hs0 : (xs.getD 0 ByteArray.empty).size = m := szAt_mem HXS.out 0 (by rw [HXL.out]; exact i00)
  obtain ⟨x0, hx0⟩ : ∃ x0, x0 = xs.getD 0 ByteArray.empty := ⟨_, rfl⟩
  rw [← hx0] at hc0 hs0
  have HBLK := Lib.hid hblk; have HB2 := Lib.hid (Lat.trans HB1.out hb2); have HXB := Lib.hid (Nat.le_trans HB1.out.size hxb); have HKC := Lib.hid (And.intro hkc hkm)
  have hat := fun W (hW : Lat w2 W) => strs_blk (hblk.keep hW) HXL.out hkc hkm (fun s hs => by rw [HXS.out s hs]; have := HM.out; unfold maxLen; omega)
  have HAT := Lib.hid hat
  clear hov hb2 hxb hkc hkm hblk hx0 HK1 hat
  by_cases hbig : 120 < NM
  · have d120 : decide ((120 : Int) < (NM : Int)) = true := decide_eq_true (by omega)
    have HNEW := Lib.hid (log_new_big N m NM w2 i00 HN.out.2 HM.out.1 HM.out.2 hbig)
    clear hbig hm1 hm8
    go_wp2_with fail
    refine HNEW.out.mono ?_
    rintro e w3 ⟨rfl, hb3⟩
    go_wp2_with fail
    go_ret
    exact ⟨rfl, HB2.out.trans hb3⟩
  have HNEW := Lib.hid (lg_new N m NM w2 i00 HN.out.2 HM.out.1 HM.out.2 (by omega) HMANY.out)
  have HNM := Lib.hid hbig
  clear hbig hm1 hm8
  go_wp2_with fail
  refine HNEW.out.mono ?_
  rintro e w3 ⟨x, rfl, hlg⟩
  have HLG := Lib.hid hlg
  clear hlg
  go_wp2_with fail
  go_loopg [15] N (fun f iv wr => ∃ j : Nat, j + f = N ∧ iv = .int .i64 j ∧ Hid (LG w2 N m NM x (psG xs g j) 0 wr))
  case atStart => exact ⟨0, by omega, rfl, HLG.out⟩
  case round =>
    clear HLG
    obtain ⟨j, hj, rfl, hrel⟩ := hrel
    by_cases hlt : j < N
    · obtain ⟨f, rfl⟩ : ∃ f, gk = f + 1 := ⟨gk - 1, by omega⟩
      have dj : decide (j < N) = true := decide_eq_true hlt
      have hjb : (j : Int) < 16 := by have := HN.out.2; omega
      by_cases hjg : j = g
      · have dg : ((j : Int) == (g : Int)) = true := beq_iff_eq.2 (by omega)
        have hnx : LG w2 N m NM x (psG xs g (j + 1)) 0 wr := by
          have := hrel.out
          rw [hjg] at this ⊢
          rw [psG_same]; exact this
        have HNX := Lib.hid hnx
        clear hrel hjg hnx hlt
        go_wp2_with fail
        go_roundg f
        case measure => omega
        case rel => exact ⟨j + 1, by omega, by go_num, HNX.out⟩
      · have dg : ((j : Int) == (g : Int)) = false := beq_eq_false_iff_ne.2 (by omega)
        obtain ⟨z, hz⟩ : ∃ z, z = j + 1 := ⟨_, rfl⟩
        have hzI : (j : Int) + 1 = (z : Int) := by omega
        obtain ⟨hu1, hu2, hu3⟩ := made_unit HXC.out (i := j) (by rw [HXL.out]; exact hlt)
        rw [hzI] at hu1 hu2 hu3
        have hmk := make_tells _ N xc xs (z : Int) wr (HAT.out wr hrel.out.lat)
        rw [hu1, errv_zero rfl, hu2, hu3] at hmk
        obtain ⟨t, ht⟩ : ∃ t, t = bl xs j := ⟨_, rfl⟩
        rw [← ht] at hmk
        have htl : t.length = m := by
          rw [ht, bl_lens HXOK.out j (by rw [HXL.out]; exact hlt)]; exact HZ0.out
        have hE : drpE (N : Int) (m : Int) (z : Int) (S t) = 0 := drpE_ok (by omega) HN.out.2 HM.out.1 HM.out.2 (by omega) (by omega) htl
        have hps : psG xs g (j + 1) = psG xs g j ++ [(z, t)] := by rw [psG_add xs hjg, ← hz, ← ht]
        have hhe := fun W (hW : Lat wr W) => lg_hear (hrel.out.keep hW) (HP.out.keep HB2.out) z t hE (by have := psG_len xs g j; omega) (by rw [hz]; exact psG_new xs g j) (by omega) (by rw [htl]; exact HM.out.2) (fun p hp => (psG_ok HXOK.out (g := g) (by rw [HXL.out]; omega) p hp).1)
        rw [← hps] at hhe
        have HMK := Lib.hid hmk; have HHE := Lib.hid hhe
        clear hrel hjg hlt hz hu1 hu2 hu3 hmk ht htl hE hps hhe
        go_wp2_with fail
        refine HMK.out.mono ?_
        rintro e w9 ⟨rfl, hb9⟩
        have hl10 : Lat wr (w9.alloc (.cells #[.int .i64 (z : Int), .string (S t)] 32)) := hb9.trans (Lat.alloc _ _)
        have HL10 := Lib.hid hl10
        clear hb9 hl10
        go_wp2_with fail
        refine (HHE.out _ HL10.out).mono ?_
        rintro e w11 ⟨rfl, hlg⟩
        have HLG2 := Lib.hid hlg
        clear hlg hzI
        go_wp2_with fail
        go_roundg f
        case measure => omega
        case rel => exact ⟨j + 1, by omega, by go_num, HLG2.out⟩
    · obtain rfl : N = j := by omega
      have HL0 := Lib.hid hrel.out
      have hps : ∀ p ∈ psG xs g N, (p.1 ≤ 10000 ∧ p.2.length ≤ 8) ∧ drpE (N : Nat) (m : Nat) (p.1 : Int) (S p.2) = 0 := fun p hp => by
        have h := psG_ok HXOK.out (g := g) (j := N) (by rw [HXL.out]; exact Nat.le_refl _) p hp
        rw [HXL.out, HZ0.out] at h
        exact h
      have hle := psG_len xs g N
      have hcr := fun W (hW : LG w2 N m NM x (psG xs g N) ((lsOf (psG xs g N)).flatten.length : Nat) W) => lg_crash hW (HSP.out.keep HB2.out) i00 HN.out.2 HM.out.1 HM.out.2 (by have := HNM.out; omega) HMANY.out (fun p hp => (hps p hp).2) (by have := HN.out; omega) (psG_nodup xs g N) (fun p hp => (hps p hp).1) keep
      have hlk := lackR_idx (k := N) (g := g) HN.out.2 hgN
      have hrd := rdy_idx (k := N) (g := g) i00 HN.out.2
      have hdt := data_idx (ss := xs) HXC.out (g := g) (by rw [HXL.out]; exact hgN) NM
      rw [HXL.out] at hdt
      have hda : ∀ W, LG w2 N m NM x (psG xs g N) ((lsOf (psG xs g N)).flatten.length : Nat) W → Calls Tryz.prog 13 #[.pointer (some ⟨x, 0, none⟩)] W fun e w' => e = .returned (.tuple #[.string .empty, errv 8]) ∧ Lat W w' := fun W hW => by
        obtain ⟨_, G, _, ho⟩ := hW
        have h := log_data ho i00 HN.out.2 HM.out.1 HM.out.2 hdt.2.2
        rw [hdt.1, hdt.2.1] at h
        exact h
      have hse : ∀ W, Lat w W → Calls Tryz.prog 14 #[errv 8, .int .i64 8] W fun e w' => e = .returned (.bool true) ∧ Lat W w' := fun W hW => sameErr_two 8 8 W (HG.out.keep hW)
      have hhl := HHEAL.out g (S (noughts m)) hgN (by rw [S_size]; simp [noughts])
      have HCR := Lib.hid hcr; have HLK := Lib.hid hlk; have HRD := Lib.hid hrd; have HDA := Lib.hid hda; have HSE := Lib.hid hse; have HHL := Lib.hid hhl
      clear hrel hlt hj hps hle hcr hlk hrd hdt hda hse hhl HNEW HMANY HNM HNMB HHEAL HXC HXOK HP HSP
      go_wp2_with fail
      refine (lg_sync HL0.out).mono ?_
      rintro e w4 ⟨rfl, h4⟩
      have HL4 := Lib.hid h4
      clear h4 HL0
      go_wp2_with fail
      refine (HCR.out _ HL4.out).mono ?_
      rintro e w5 ⟨rfl, h5⟩
      have HL5 := Lib.hid h5
      clear h5 HL4 HCR
      go_wp2_with fail
      refine (lg_seeds HL5.out).mono ?_
      rintro e w6 ⟨sa, sc, rfl, hi6, h6⟩
      rw [psG_seeds] at hi6
      have hlc := lacks_any (N : Int) sa _ sc _ w6 hi6
      rw [HLK.out, HRD.out, errv_zero rfl] at hlc
      obtain ⟨pl, hpl⟩ : ∃ pl, pl = (psG xs g N).length := ⟨_, rfl⟩
      rw [← hpl] at hlc ⊢
      have HL6 := Lib.hid h6; have HLC := Lib.hid hlc
      clear h6 hlc hi6 HL5 hpl
      go_wp2_with fail
      refine HLC.out.mono ?_
      rintro e w7 ⟨⟨lb, lm, lc, rfl, hi7⟩, hb7⟩
      obtain rfl : lm = 1 := by rw [← hi7.len]; rfl
      obtain ⟨kb, ko, rfl, hk7⟩ := hi7.row.at_ (by decide)
      have hk0 := hk7 0 (by decide)
      have HL7 := Lib.hid (HL6.out.keep hb7); have HK0 := Lib.hid hk0
      clear hb7 hi7 hk7 hk0 HLC HL6
      go_wp2_with fail
      refine (HDA.out _ HL7.out).mono ?_
      rintro e w8 ⟨rfl, hb8⟩
      have hk8 : w8.cell? ⟨kb, ko, none⟩ = some (.int .i64 g) := hb8.cell_at HK0.out
      have HL8 := Lib.hid (HL7.out.keep hb8)
      clear hb8 HDA HL7
      have gg : ((g : Int) != (g : Int)) = false := by simp
      go_wp2_with fail
      refine (HSE.out _ (HB2.out.trans HL8.out.lat)).mono ?_
      rintro e w9 ⟨rfl, hb9⟩
      have HL9 := Lib.hid (HL8.out.lat.trans hb9)
      clear hb9 HSE HL8 hk8
      go_wp2_with (at_make; refine wpList_make_blk _ rfl _ _ 45 rfl 4 (.bool false) 1 Tryz.underlying45 info_boolT rfl N rfl rfl (by omega) (by have := HN.out; unfold maxLen; omega) ?_)
      intro gb w10 hgb hblk10 hb10
      have hgw : w2.heap.size ≤ gb := by rw [hgb]; exact HL9.out.size
      have hxlt : xb < w2.heap.size := HBLK.out.lt
      have hne : gb ≠ xb := by omega
      have hL10 : Lat w2 w10 := HL9.out.trans hb10
      have cF := hblk10.cell g hgN
      have fF := hblk10.free g hgN
      have hF11 := blk_putB (blk_falses hblk10) List.length_replicate hgN true
      have hL11 : Lat w2 (w10.setCell ⟨gb, g, none⟩ (.bool true)) := hL10.setCell (p := ⟨gb, g, none⟩) hgw _
      obtain ⟨w11, hw11⟩ : ∃ W, W = w10.setCell ⟨gb, g, none⟩ (.bool true) := ⟨_, rfl⟩
      rw [← hw11] at hF11 hL11
      have HF11 := Lib.hid hF11; have HL11 := Lib.hid hL11; have HNE := Lib.hid hne; have HW11 := Lib.hid hw11
      have ig : (g : Int) < (N : Int) := by omega
      have ig0 : (0 : Int) ≤ (g : Int) := by omega
      clear hF11 hL11 hgw hxlt hne hL10 hblk10 hb10 hgb hw11
      go_wp2_with fail
      rw [← HW11.out]
      clear HW11 cF fF
      refine (zero_any m w11 (by have := HM.out; omega)).mono ?_
      rintro e w12 ⟨rfl, hb12⟩
      have hX12 := HBLK.out.keep (HL11.out.trans hb12)
      have cX := hX12.cell g hgN
      have fX := hX12.free g hgN
      have hX13 := blk_put hX12 HXL.out hgN (S (noughts m))
      have hF13 := blk_other (HF11.out.keep hb12) HNE.out g (.string (S (noughts m)))
      have hS13 := strs_blk hX13 (by rw [List.length_set]; exact HXL.out) HKC.out.1 HKC.out.2 (fun s hs => by
        rcases List.mem_or_eq_of_mem_set hs with h | h
        · rw [HXS.out s h]; have := HM.out; unfold maxLen; omega
        · rw [h, S_size]; have := HM.out; simp [noughts]; unfold maxLen; omega)
      have hB13 := bools_blk hF13 (by rw [List.length_set, List.length_replicate]) (by have := HN.out; omega)
      have hk13 := Heal_all _ N xc _ _ N N _ (f : Int) _ hS13 hB13
      rw [HHL.out.1, HHL.out.2, errv_zero rfl] at hk13
      have hL13 : Lat w (w12.setCell ⟨xb, g, none⟩ (.string (S (noughts m)))) := (HB2.out.trans (HL11.out.trans hb12)).setCell (p := ⟨xb, g, none⟩) HXB.out _
      obtain ⟨w13, hw13⟩ : ∃ W, W = w12.setCell ⟨xb, g, none⟩ (.string (S (noughts m))) := ⟨_, rfl⟩
      rw [← hw13] at hk13 hL13
      have HK13 := Lib.hid hk13; have HL13 := Lib.hid hL13; have HW13 := Lib.hid hw13
      clear hX12 hX13 hF13 hS13 hB13 hk13 hL13 hw13 hb12
      go_wp2_with fail
      rw [← HW13.out]
      clear HW13 cX fX
      refine HK13.out.mono ?_
      rintro e w14 ⟨⟨ya, yk, yc, rfl, hy⟩, hb14⟩
      obtain rfl : n = yk := by rw [← hy.len]; exact HLEN.out.symm
      have HY := Lib.hid hy; have HL14 := Lib.hid (HL13.out.trans hb14)
      clear hy hb14 HK13
      go_wp2_with fail
      refine (sameStrs_yes ya n yc ls a cap _ HY.out (H.out.keep HL14.out)).mono ?_
      rintro e w15 ⟨rfl, hb15⟩
      go_wp2_with fail
      go_ret
      exact ⟨rfl, HL14.out.trans hb15⟩
end Go.Proofs.YtgcmlpcpkpnfnaaGreatDoor

