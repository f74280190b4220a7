import Derived.Test.YtooepflfofgnnaaDoorAppG
import Derived.Test.YtooepflfofgnnaaDoorShelfMul
import Derived.Laws.CopyOwn
import Derived.Deep.RegionLaw
import Derived.IntWalk
import Derived.Test.YtooepflfofgnnaaDoorRiceDec
import Derived.Test.YtooepflfofgnnaaDoorAlone
import Derived.Test.YtooepflfofgnnaaDoorBitsI
import Derived.Test.YtooepflfofgnnaaDoorBase
import Derived.Laws.Concat
import Derived.Test.YtooepflfofgnnaaDoorFilmRow
import Derived.Test.YtooepflfofgnnaaDoorRdr
import Derived.Test.YtooepflfofgnnaaDoorOwnC
import Derived.Lib.ConvBytes
import Derived.Laws.BytesArg
import Derived.Laws.BitsAllLaws
import Derived.Test.YtooepflfofgnnaaDoorFilmDec
import Derived.Deep.DeepCutAuto
import Derived.Deep.CutBlock
import Derived.Test.YtooepflfofgnnaaDoorErrv
import Derived.Test.YtooepflfofgnnaaDoorOffV
import Derived.Test.YtooepflfofgnnaaDoorRefSeen
import Derived.Test.YtooepflfofgnnaaDoorGate
import Derived.Deep.AppendLies
import Derived.Test.YtooepflfofgnnaaDoorUnlike
import Derived.Test.YtooepflfofgnnaaDoorMovedEnc
import Derived.StillTailTactics
import Derived.Test.YtooepflfofgnnaaDoorAs
import Derived.Test.YtooepflfofgnnaaDoorOpenPic
import Derived.Test.YtooepflfofgnnaaDoorOpenPics
namespace Go.Proofs.YtooepflfofgnnaaDoor
open Go.ChangeShapes Go.WideShapes Go.ChangeAt Go.RowKit

theorem run_app_void {P : Program} {w : World} {B : Nat} {t ty e : TypeId} {i : TypeInfo} (ht : P.underlying t = some (.slice e)) (hi : P.info? e = some i)
    {v : Value} {xs : List Value} (hown : Own w B e v xs) (c : Nat) : (Builtin.append_ #[t, t] ty #[v, .slice none 0 c]).run P w = .ok v w := by
  rcases hown.2 with ⟨rfl, h0⟩ | ⟨g, cap, cur, rfl, _, _, hnc, _⟩
  · simp [Builtin.append_, run_underlying ht, sizeOf, typeInfo, hi, Builtin.lenOf, Builtin.firstCells]
  · simp [Builtin.append_, run_underlying ht, sizeOf, typeInfo, hi, Builtin.lenOf, Builtin.firstCells, hnc, storeCells]
theorem run_app_many {P : Program} (w : World) (B : Nat) (t ty e : TypeId) (z : Value) (bytes : Nat) (ht : P.underlying t = some (.slice e)) (hinfo : (P.info? e).map (fun i => (i.zero, i.size, i.bytes)) = some (some z, 1, bytes)) (hz : z.cells.size = 1) (hby : bytes ≤ 16)
    (v : Value) (xs : List Value) (hown : Own w B e v xs) (A : Option Addr) (m c : Nat) (ys : List Value) (hl : ys.length = m) (hr : RowAt w A m c (fun j => ys.getD j undef)) (h1 : ∀ u ∈ ys, u.oneCell' = true) (hn : xs.length + m < 1000000000000) (hB : B ≤ w.heap.size) :
    ∃ v' w', (Builtin.append_ #[t, t] ty #[v, .slice A m c]).run P w = .ok v' w' ∧ Own w' B e v' (xs ++ ys) ∧ w.grownBy w' v.ownBlock ∧ (v'.ownBlock = v.ownBlock ∨ v'.ownBlock = some w.heap.size) := by
  obtain ⟨i0, hi, hz0, hz1, hz2⟩ := info_parts hinfo
  rcases A with _ | ad
  · have hm : m = 0 := by
      rcases Nat.eq_zero_or_pos m with h0 | h0
      · exact h0
      · obtain ⟨b, o, h, _⟩ := hr.at_ (by omega)
        cases h
    subst hm
    have hy : ys = [] := List.eq_nil_of_length_eq_zero hl
    subst hy
    exact ⟨v, w, run_app_void ht hi hown c, by rw [List.append_nil]; exact hown, World.grownBy.refl w _, .inl rfl⟩
  · have hcells : ∀ j u, ys[j]? = some u → w.cell? (ad.add j) = some u := by
      intro j u hu
      have hj : j < m := by rw [← hl]; exact (List.getElem?_eq_some_iff.1 hu).1
      obtain ⟨b, o, h, hc⟩ := hr.at_ (by omega)
      injection h with h
      subst h
      rw [Addr.add_lit, hc j hj, List.getD_eq_getElem?_getD, hu]; rfl
    obtain ⟨v', w', hrun, h2, h3, _, h5⟩ := run_append_own_at (P := P) w B t ty e i0 z 1 bytes ht hi hz0 hz1 hz2 hz (by decide) v xs.length xs hown ad m c ys (by omega) hcells h1 (by unfold maxLen; omega)
      (by calc (xs.length + m) * bytes ≤ (xs.length + m) * 16 := Nat.mul_le_mul_left _ hby
            _ ≤ 140737488355328 := by omega) hB
    refine ⟨v', w', hrun, ?_, h3, h5⟩
    unfold Own; rw [List.length_append, hl]; exact h2
theorem AppStep.of {wr w' : World} {v v' : Value} (hgrow : wr.grownBy w' v.ownBlock) (hloc : v'.ownBlock = v.ownBlock ∨ v'.ownBlock = some wr.heap.size) : AppStep wr w' v v' :=
  ⟨fun k hk hne => hgrow.block k hk hne, hgrow.size, hloc.imp id fun h => ⟨_, h, Nat.le_refl _⟩⟩

theorem wpList_appM {P : Program} (wr w0 : World) (B : Nat) {ops : Array Oper} {rest : List Oper} {o : Oper} {a : Act} {Q : Exit → Act → World → Prop}
    (hg : o.guard = none) (s x : Operand) (t : TypeId) (ho : o.op = .call { callee := .builtin .append, args := #[s, x], argTypes := #[t, t] })
    (e : TypeId) (z : Value) (bytes : Nat) (ht : P.underlying t = some (.slice e)) (hinfo : (P.info? e).map (fun i => (i.zero, i.size, i.bytes)) = some (some z, 1, bytes)) (hz : z.cells.size = 1) (hby : bytes ≤ 16)
    (v : Value) (xs : List Value) (hs : a.eval s = v) (hown : Own wr B e v xs) (A : Option Addr) (m c : Nat) (ys : List Value) (hx : a.eval x = .slice A m c) (hl : ys.length = m) (hr : RowAt wr A m c (fun j => ys.getD j undef)) (h1 : ∀ u ∈ ys, u.oneCell' = true)
    (hn : xs.length + m < 1000000000000) (hB : B = w0.heap.size) (hb : Below B w0 wr)
    (K : ∀ v' w', Own w' B e v' (xs ++ ys) → Below B w0 w' → AppStep wr w' v v' → wpList P ops Q rest (a.put o.dst v') w') :
    wpList P ops Q (o :: rest) a wr := by
  have hsz := hb.size
  obtain ⟨v', w', hrun, h2, h3, h4⟩ := run_app_many wr B t o.type e z bytes ht hinfo hz hby v xs hown A m c ys hl hr h1 hn (by omega)
  refine wpList_plain hg fun K' hK => ?_
  unfold Oper.wp execOp
  simp only [ho, resolve, invoke, builtin, Sem.run_bind, Sem.run_pure, Result.andThen_ok, List.map_toArray, List.map_cons, List.map_nil, hs, hx, hrun]
  exact hK _ _ (K v' w' h2 (Below.grown hb h3 (by omega) fun k hk => (Own.lt hown k hk).1) (AppStep.of h3 h4))
theorem RowAt.ofInts {w : World} {a : Option Addr} {n cap : Nat} {zs : List Int} (h : IntsAt w a n cap zs) : RowAt w a n cap (fun j => (zs.map (Value.int .i64)).getD j undef) :=
  ⟨h.row.le, h.row.cap, fun hn => by
    obtain ⟨b, o, ha, hc⟩ := h.row.at_ hn
    refine ⟨b, o, ha, fun j hj => ?_⟩
    have hl := h.len
    have e : (zs.map (Value.int .i64)).getD j undef = .int .i64 (zs.getD j 0) := by
      rw [List.getD_eq_getElem?_getD, List.getElem?_map, List.getD_eq_getElem?_getD, List.getElem?_eq_getElem (by omega)]; rfl
    rw [hc j hj, e]⟩
theorem RowAt.ofStrs {w : World} {a : Option Addr} {n cap : Nat} {zs : List ByteArray} (h : StrsAt w a n cap zs) : RowAt w a n cap (fun j => (zs.map Value.string).getD j undef) :=
  ⟨h.row.le, h.row.cap, fun hn => by
    obtain ⟨b, o, ha, hc⟩ := h.row.at_ hn
    refine ⟨b, o, ha, fun j hj => ?_⟩
    have hl := h.len
    have e : (zs.map Value.string).getD j undef = .string (zs.getD j ByteArray.empty) := by
      rw [List.getD_eq_getElem?_getD, List.getElem?_map, List.getD_eq_getElem?_getD, List.getElem?_eq_getElem (by omega)]; rfl
    rw [hc j hj, e]⟩
theorem app_ints (wr w0 : World) (B : Nat) {ops : Array Oper} {rest : List Oper} {o : Oper} {a : Act} {Q : Exit → Act → World → Prop}
    (hg : o.guard = none) (s x : Operand) (ho : o.op = .call { callee := .builtin .append, args := #[s, x], argTypes := #[25, 25] })
    (v : Value) (zs ys : List Int) (hs : a.eval s = v) (hown : OwnInts wr B v zs) (A : Option Addr) (m c : Nat) (hx : a.eval x = .slice A m c) (hat : IntsAt wr A m c ys)
    (hn : zs.length + m < 1000000000000) (hB : B = w0.heap.size) (hb : Below B w0 wr)
    (K : ∀ v' w', OwnInts w' B v' (zs ++ ys) → Below B w0 w' → AppStep wr w' v v' → wpList Tryd.prog ops Q rest (a.put o.dst v') w') :
    wpList Tryd.prog ops Q (o :: rest) a wr :=
  wpList_appM wr w0 B hg s x 25 ho 3 (.int .i64 0) 8 Tryd.underlying25 info_int rfl (by decide) v _ hs hown A m c (ys.map (Value.int .i64)) hx (by rw [List.length_map]; exact hat.len) (RowAt.ofInts hat)
    (fun u hu => by obtain ⟨y, _, rfl⟩ := List.mem_map.1 hu; rfl) (by simpa using hn) hB hb
    (fun v' w' h1 h2 h3 => K v' w' (by simpa [OwnInts] using h1) h2 h3)
end Go.Proofs.YtooepflfofgnnaaDoor

namespace Go.Proofs.YtooepflfofgnnaaDoor
open Go.ChangeShapes Go.WideShapes Go.ChangeAt Go.RowKit

def rb (m n : Nat) (c : Int) : List Value := List.replicate n (.int .i64 c) ++ List.replicate (m - n) (.int .i64 0)
theorem rb_length (m n : Nat) (c : Int) (h : n ≤ m) : (rb m n c).length = m := by unfold rb; simp; omega
theorem rb_get (m n : Nat) (c : Int) (j : Nat) (h : j < n) : (rb m n c)[j]? = some (.int .i64 c) := by unfold rb; rw [List.getElem?_append_left (by simpa using h)]; simp [h]
theorem rb_splice (m n k : Nat) (c : Int) (h : n + k ≤ m) : splice (rb m n c) n (List.replicate k (.int .i64 c)) = rb m (n + k) c := by
  unfold splice rb
  rw [List.length_replicate]
  have e1 : (List.replicate n (Value.int .i64 c) ++ List.replicate (m - n) (Value.int .i64 0)).take n = List.replicate n (.int .i64 c) := by
    have := List.take_left (l₁ := List.replicate n (Value.int .i64 c)) (l₂ := List.replicate (m - n) (Value.int .i64 0))
    rwa [List.length_replicate] at this
  have e2 : (List.replicate n (Value.int .i64 c) ++ List.replicate (m - n) (Value.int .i64 0)).drop (n + k) = List.replicate (m - (n + k)) (.int .i64 0) := by
    rw [List.drop_append, List.drop_eq_nil_of_le (by simp), List.nil_append, List.length_replicate, List.drop_replicate]
    congr 1; omega
  rw [e1, e2, ← List.append_assoc, List.replicate_append_replicate]
theorem rb_full (m : Nat) (c : Int) : rb m m c = List.replicate m (.int .i64 c) := by unfold rb; simp

theorem wpList_make_int (w : World) {ops : Array Oper} {rest : List Oper} {o : Oper} {a : Act} {Q : Exit → Act → World → Prop}
    (hg : o.guard = none) (l c : Operand) (hop : o.op = Op.makeSlice 25 l c) (n : Nat) (hl : a.eval l = .int .i64 n) (hc : a.eval c = .int .i64 n) (b3 : n ≤ 1000000)
    (hK : ∀ g w', g = w.heap.size → Hid (w'.heap[g]? = some (.cells (List.replicate n (.int .i64 0)).toArray 3 (0, 0))) → Lat w w' → wpList Tryd.prog ops Q rest (a.put o.dst (.slice (some ⟨g, 0, none⟩) n n)) w') :
    wpList Tryd.prog ops Q (o :: rest) a w := by
  obtain ⟨i, h2, h3, h4, h5⟩ := info_parts info_int
  refine wpList_make_full w hg l c 25 hop w.heap.size 3 i (.int .i64 0) 1 Tryd.underlying25 h2 h3 h4 .i64 .i64 _ _ n hl hc rfl rfl (by rw [h5]; omega) (by unfold maxLen; omega) (Nat.le_refl _) ?_
  intro w' hown hgrow
  refine hK w.heap.size w' rfl ?_ ⟨hgrow.os, hgrow.tape, hgrow.output, hgrow.size, fun k hk => hgrow.block k hk (by simp)⟩
  obtain ⟨hlen, hor⟩ := hown
  rcases hor with ⟨hv, _⟩ | ⟨g, cap, cur, hv, hge, hh, hn, hcm, hs, ht⟩
  · cases hv
  · have hgg : g = w.heap.size := by cases hv; rfl
    have hcc : cap = n := by cases hv; rfl
    subst hgg
    subst hcc
    rw [Nat.mul_one] at ht hs
    have e : cur = (List.replicate cap (Value.int .i64 0)).toArray := by
      have e1 : cur.toList.take cap = cur.toList := List.take_of_length_le (by simp [hs])
      rw [e1] at ht
      apply Array.toList_inj.1
      have hz : (Value.int .i64 0).cells = #[Value.int .i64 0] := rfl
      rw [ht, hz, toList_madeCells_one]
    show _ = _
    rw [hh, e]

theorem own_of_block {w : World} {B g m : Nat} {zs : List Int} (hB : B ≤ g) (hm : m ≤ 1000000) (hl : zs.length = m) (h : w.heap[g]? = some (.cells (zs.map (Value.int .i64)).toArray 3 (0, 0))) : OwnInts w B (.slice (some ⟨g, 0, none⟩) m m) zs := by
  subst hl
  have e : (zs.map (Value.int .i64)).length = zs.length := List.length_map _
  unfold OwnInts Own
  rw [e]
  refine ⟨by rw [e, Nat.mul_one], .inr ⟨g, zs.length, _, rfl, hB, h, Nat.le_refl _, by unfold maxLen; omega, by simp, ?_⟩⟩
  rw [Nat.mul_one]
  exact List.take_of_length_le (by simp)

set_option maxHeartbeats 2000000 in
theorem repeat_any (c : Int) (m : Nat) (b o cap : Nat) (w : World) (h : w.cell? ⟨b, o, none⟩ = some (.int .i64 c)) (hm : m ≤ 100000) :
    Calls Tryd.prog 114 #[.slice (some ⟨b, o, none⟩) 1 cap, .int .i64 m] w fun e w' => ∃ g, e = .returned (.slice (some ⟨g, 0, none⟩) m m) ∧ OwnInts w' w.heap.size (.slice (some ⟨g, 0, none⟩) m m) (List.replicate m c) ∧ Lat w w' := by
  have hbl : b < w.heap.size := World.block_lt_of_cell? _ _ h
  have e1 : (1 * m / 18446744073709551616 : Nat) = 0 := by rw [Nat.one_mul]; exact Nat.div_eq_of_lt (by omega)
  have e2 : (1 * m % 18446744073709551616 : Nat) = m := by rw [Nat.one_mul]; exact Nat.mod_eq_of_lt (by omega)
  have hmul : ∀ W, Calls Tryd.prog 135 #[.int .u64 1, .int .u64 m] W fun e w' => e = .returned (.tuple #[.int .u64 0, .int .u64 m]) ∧ W = w' := fun W =>
    (Tryd.bits_Mul 1 m (by omega) (by omega) W).mono fun e w' hh => ⟨by rw [hh.1, e1, e2]; rfl, hh.2.symm⟩
  have HM := Lib.hid hmul
  have H := Lib.hid h
  clear e1 e2 hmul h
  have d0 : decide ((m : Int) < 0) = false := decide_eq_false (by omega)
  have d9 : decide (9223372036854775807 < (m : Int)) = false := decide_eq_false (by omega)
  go_enter Tryd.func114, Tryd.ntmps114
  go_wp2_with fail
  refine (HM.out _).mono ?_
  rintro e w' ⟨rfl, rfl⟩
  go_wp2_with (at_make; refine wpList_make_int _ rfl _ _ rfl m rfl rfl (by omega) ?_)
  intro g w1 hg hblk hb
  have hsrc : w1.cell? ⟨b, o, none⟩ = some (.int .i64 c) := hb.cell_at H.out
  have hgb : w.heap.size ≤ g := by omega
  have hrb : w1.heap[g]? = some (.cells (rb m 0 c).toArray 3 (0, 0)) := by have := hblk.out; unfold rb; simpa using this
  have HRB := Lib.hid hrb
  have HSRC := Lib.hid hsrc
  have HB := Lib.hid hb
  clear hg hb hsrc hrb hblk
  obtain ⟨k0, hk0⟩ : ∃ k, k = min 1 m := ⟨_, rfl⟩
  obtain ⟨CS, hCS⟩ : ∃ l : List Value, l = List.replicate k0 (.int .i64 c) := ⟨_, rfl⟩
  have hCl : CS.length = k0 := by rw [hCS, List.length_replicate]
  have hc1 : CS.length = Nat.min 1 m := by rw [hCl, hk0]
  have hc2 : 0 < CS.length → (some ⟨g, 0, none⟩ : Option Addr) = some ⟨g, 0, none⟩ ∧ ∃ ad, (some ⟨b, o, none⟩ : Option Addr) = some ad ∧ ∀ j v, CS[j]? = some v → w1.cell? (ad.add j) = some v := fun _ => ⟨rfl, _, rfl, fun j v hj => by
    have hj1 : j < k0 := by have := (List.getElem?_eq_some_iff.1 hj).1; omega
    have hj0 : j = 0 := by omega
    subst hj0
    rw [hCS, List.getElem?_replicate, if_pos hj1] at hj
    injection hj with hj
    subst hj
    rw [Addr.add_lit]; exact HSRC.out⟩
  have hc3 : 0 + CS.length ≤ (rb m 0 c).length := by rw [rb_length _ _ _ (Nat.zero_le _), hCl, hk0]; omega
  have hc4 : ∀ v ∈ CS, v.oneCell' = true := fun v hv => by rw [hCS] at hv; rw [List.eq_of_mem_replicate hv]; rfl
  have hsp : splice (rb m 0 c) 0 CS = rb m k0 c := by rw [hCS, rb_splice m 0 k0 c (by omega), Nat.zero_add]
  have hk0m : k0 ≤ m ∧ (k0 = m ∨ 1 ≤ k0) := by omega
  have C1 := Lib.hid hc1
  have C2 := Lib.hid hc2
  have C3 := Lib.hid hc3
  have C4 := Lib.hid hc4
  have SP := Lib.hid hsp
  have CL := Lib.hid hCl
  clear hk0 hCS hCl hc1 hc2 hc3 hc4 hsp
  go_wp2_with (refine wpList_copy_splice rfl (.tmp 31) (.tmp 32) 25 25 rfl 3 Tryd.underlying25 (by kernel_rfl) (some ⟨g, 0, none⟩) (some ⟨b, o, none⟩) m m 1 cap rfl rfl g 0 (rb m 0 c) 3 HRB.out CS C1.out C2.out C3.out C4.out w.heap.size w HB.out hgb ?_)
  intro w2 hw2 hb2
  have hr2 := hw2.out
  rw [SP.out] at hr2
  rw [CL.out]
  have HR2 := Lib.hid hr2
  have HB2 := Lib.hid hb2
  clear hw2 hb2 hr2 C1 C2 C3 C4 SP CL HRB HSRC HB
  obtain ⟨hk1, hk2⟩ := hk0m
  go_wp2_with fail
  go_loopw [8] (fun n wr => ∃ k : Nat, k ≤ m ∧ (k = m ∨ 1 ≤ k) ∧ n = .int .i64 k ∧ Hid (wr.heap[g]? = some (.cells (rb m k c).toArray 3 (0, 0)) ∧ Lat w wr)) (fun n _ => m - (intOf n).toNat)
  case atStart => exact ⟨k0, hk1, hk2, rfl, HR2.out, HB2.out⟩
  case round =>
    obtain ⟨k, hk, hk3, rfl, hrel⟩ := hrel
    by_cases hlt : k < m
    · have hk4 : 1 ≤ k := by omega
      obtain ⟨q, hq⟩ : ∃ q, q = min k (m - k) := ⟨_, rfl⟩
      obtain ⟨CS, hCS⟩ : ∃ l : List Value, l = List.replicate q (.int .i64 c) := ⟨_, rfl⟩
      have hCl : CS.length = q := by rw [hCS, List.length_replicate]
      have hc1 : CS.length = Nat.min k (m - k) := by rw [hCl, hq]
      have hhp : wr.drew.heap[g]? = some (.cells (rb m k c).toArray 3 (0, 0)) := hrel.out.1
      have hc2 : ∀ j v, CS[j]? = some v → wr.drew.cell? ((⟨g, 0, none⟩ : Addr).add j) = some v := fun j v hj => by
        have hj1 : j < q := by have := (List.getElem?_eq_some_iff.1 hj).1; omega
        rw [hCS, List.getElem?_replicate, if_pos hj1] at hj
        injection hj with hj
        subst hj
        rw [Addr.add_lit, Nat.zero_add]
        have hrg := rb_get m k c j (by omega)
        simp only [World.cell?, hhp]
        simpa using hrg
      have hc3 : k + CS.length ≤ (rb m k c).length := by rw [rb_length _ _ _ hk, hCl, hq]; omega
      have hc4 : ∀ v ∈ CS, v.oneCell' = true := fun v hv => by rw [hCS] at hv; rw [List.eq_of_mem_replicate hv]; rfl
      have hsp : splice (rb m k c) k CS = rb m (k + q) c := by rw [hCS, rb_splice m k q c (by omega)]
      have hq1 : 1 ≤ q := by omega
      have hq2 : k + q ≤ m := by omega
      have hlat : Below w.heap.size w wr.drew := Lat.trans hrel.out.2 (Lat.drew _)
      have C1 := Lib.hid hc1
      have C2 := Lib.hid hc2
      have C3 := Lib.hid hc3
      have C4 := Lib.hid hc4
      have SP := Lib.hid hsp
      have CL := Lib.hid hCl
      have HHP := Lib.hid hhp
      have HLAT := Lib.hid hlat
      have i1 : (0 : Int) ≤ (k : Int) := by omega
      have i2 : (k : Int) ≤ (m : Int) := by omega
      have i3 : (k : Int) < (m : Int) := by omega
      have i4 : k ≠ m := by omega
      have i5 : m ≠ k := by omega
      have i6 : IntKind.i64.wrap ((k : Int) + (q : Int)) = (k : Int) + (q : Int) := IntWalk.i64_in _ (by omega)
      clear hq hCS hCl hc1 hc2 hc3 hc4 hsp hhp hlat hrel
      go_wp2_with fail
      go_region_law (refine step_copy_splice rfl (.tmp 41) (.tmp 44) 25 25 rfl 3 Tryd.underlying25 (by kernel_rfl) (some ⟨g, k, none⟩) (some ⟨g, 0, none⟩) (m - k) (m - k) k m (by simp [Act.eval, Act.put]) (by simp [Act.eval, Act.put]) g k (rb m k c) 3 HHP.out CS C1.out (fun _ => ⟨rfl, _, rfl, C2.out⟩) C3.out C4.out w.heap.size w HLAT.out hgb ?_; intro w3 hw3 hb3; rw [CL.out])
      have hr3 := hw3.out
      rw [SP.out] at hr3
      have HR3 := Lib.hid hr3
      have HB3 := Lib.hid hb3
      clear hw3 hb3 hr3
      simp only [Act.put, List.getElem_toArray, List.getElem_cons_succ, List.getElem_cons_zero]
      go_simp
      go_wp2
      go_roundw
      case rel => exact ⟨k + q, hq2, .inr (by omega), by go_num, HR3.out, HB3.out⟩
      case measure => simp [intOf]; omega
    · obtain rfl : k = m := by omega
      have hown := own_of_block (B := w.heap.size) (m := k) (zs := List.replicate k c) hgb (by omega) List.length_replicate (by rw [List.map_replicate, ← rb_full]; exact hrel.out.1)
      have HOWN := Lib.hid hown
      clear hown
      go_wp2
      go_ret
      exact ⟨g, rfl, HOWN.out, hrel.out.2⟩
end Go.Proofs.YtooepflfofgnnaaDoor

namespace Go.Proofs.YtooepflfofgnnaaDoor
open Go.ChangeShapes Go.WideShapes Go.ChangeAt Go.RowKit

def lowB (n : Int) : Bool := decide (0 ≤ n ∧ n ≤ 7)
theorem fold_any (n : Int) (w : World) (h1 : -100000 ≤ n) (h2 : n ≤ 100000) :
    Calls Tryd.prog 113 #[.int .i64 n] w fun e w' => e = .returned (.int .i64 (fld n)) ∧ w = w' := by
  go_enter Tryd.func113, Tryd.ntmps113
  go_wp2
  all_goals
    go_ret
    exact ⟨int_ret (by unfold fld; split <;> omega), rfl⟩
def rgtB (zs : List Int) : Bool := !zs.any fun z => !restB z
theorem rgtB_yes {zs : List Int} (h : rgtB zs = true) : ∀ z ∈ zs, -255 ≤ z ∧ z ≤ 255 := by
  intro z hz
  simp only [rgtB, Bool.not_eq_true', List.any_eq_false] at h
  have := h z hz
  simpa [restB] using this
theorem rgtB_of {zs : List Int} (h : ∀ z ∈ zs, -255 ≤ z ∧ z ≤ 255) : rgtB zs = true := by
  simp only [rgtB, Bool.not_eq_true', List.any_eq_false]
  intro z hz
  have := h z hz
  simpa [restB] using this
theorem lowb_getD (n : Nat) : ∀ b i, i < b → (lowb n b).getD i 0 = ((n / 2 ^ (b - 1 - i) % 2 : Nat) : Int)
  | b + 1, 0, _ => by rw [lowb]; simp
  | b + 1, i + 1, h => by
    have e : b + 1 - 1 - (i + 1) = b - 1 - i := by omega
    rw [lowb, List.getD_cons_succ, lowb_getD n b i (by omega), e]
theorem ric1_len_le (N low : Nat) (hN : N ≤ 510) (hl : low ≤ 7) : (ric1 N low).length ≤ 518 := by
  have := Nat.div_le_self N (2 ^ low)
  rw [ric1_length]; omega
theorem ric_len (zs : List Int) (low : Nat) (hr : ∀ z ∈ zs, -255 ≤ z ∧ z ≤ 255) (hl : low ≤ 7) : ∀ k, (ric zs low k).length ≤ k * 518
  | 0 => Nat.zero_le _
  | k + 1 => by
    have ih := ric_len zs low hr hl k
    have hz : -255 ≤ zs.getD k 0 ∧ zs.getD k 0 ≤ 255 := by
      by_cases h : k < zs.length
      · exact hr _ (mem_getD zs k h)
      · rw [List.getD_eq_getElem?_getD, List.getElem?_eq_none (by omega)]; simp
    have h1 := fld_le _ hz.1 hz.2
    have h2 := ric1_len_le (fld (zs.getD k 0)).toNat low (by omega) hl
    rw [ric, List.length_append, Nat.succ_mul]; omega
set_option maxHeartbeats 2000000 in
theorem bits_any (a : Option Addr) (n cap : Nat) (zs : List Int) (low : Nat) (w : World) (h : IntsAt w a n cap zs) (hr : ∀ z ∈ zs, -255 ≤ z ∧ z ≤ 255) (hl : low ≤ 7) (hn : n ≤ 100000000) :
    Calls Tryd.prog 94 #[.slice a n cap, .int .i64 low] w fun e w' => ∃ v, e = .returned v ∧ OwnInts w' w.heap.size v (ric zs low n) ∧ Lat w w' := by
  have H := Lib.hid h
  have HR := Lib.hid hr
  have hcap2 := h.row.cap
  have hle2 := h.row.le
  unfold maxLen at hcap2
  clear h hr
  go_enter Tryd.func94, Tryd.ntmps94
  go_wp2_with fail
  go_loopw [5, 11] (fun v i wr => ∃ k : Nat, k ≤ n ∧ i = .int .i64 k ∧ Hid (OwnInts wr w.heap.size v (ric zs low k) ∧ Lat w wr)) (fun _ i _ => n - (intOf i).toNat)
  case atStart => exact ⟨0, Nat.zero_le _, rfl, Own.nil _ _ _, Lat.refl _⟩
  case round =>
    obtain ⟨k, hk, rfl, hrel⟩ := hrel
    by_cases hlt : k < n
    · obtain ⟨b1, o1, rfl, hc1⟩ := (H.out.keep hrel.out.2).row.at_ (by omega)
      have c1 := hc1 k hlt
      have hz := HR.out _ (mem_getD zs k (by rw [H.out.len]; exact hlt))
      obtain ⟨z, hzd⟩ : ∃ z, z = zs.getD k 0 := ⟨_, rfl⟩
      have hst : ric zs low (k + 1) = ric zs low k ++ ric1 (fld z).toNat low := by rw [ric, hzd]
      rw [← hzd] at c1 hz
      have f1 := fld_nonneg z
      have f2 := fld_le z hz.1 hz.2
      obtain ⟨N, hN⟩ := Int.eq_ofNat_of_zero_le f1
      have hN5 : N ≤ 510 := by omega
      rw [hN, Int.toNat_natCast] at hst
      have HN := Lib.hid hN
      clear hc1 hzd hN f1
      go_wp2_with fail
      refine (fold_any z _ (by omega) (by omega)).mono ?_
      rw [HN.out]
      rintro e w' ⟨rfl, rfl⟩
      have hdiv : (N : Int) / 2 ^ low = ((N / 2 ^ low : Nat) : Int) := by simp
      have hq : N / 2 ^ low ≤ 510 := Nat.le_trans (Nat.div_le_self _ _) hN5
      have hrp := repeat_any 1 (N / 2 ^ low) wr.heap.size 0 1 (wr.alloc (.cells #[.int .i64 1] 3)) (by simp) (by omega)
      rw [← hdiv] at hrp
      have HRP := Lib.hid hrp
      obtain ⟨q, hQ⟩ : ∃ q, q = N / 2 ^ low := ⟨_, rfl⟩
      have HQ := Lib.hid hQ
      have hlen1 : (ric zs low k).length < 100000000000 := by
        have := ric_len zs low (fun z hz => HR.out z hz) hl k
        omega
      obtain ⟨L1, hL1⟩ : ∃ L, L = ric zs low k := ⟨_, rfl⟩
      rw [← hL1] at hlen1 hst
      have hrl1 := hrel.out.1
      have hrl2 := hrel.out.2
      rw [← hL1] at hrl1
      have HRL1 := Lib.hid hrl1
      have HRL2 := Lib.hid hrl2
      have HST := Lib.hid hst
      have HLEN := Lib.hid hlen1
      clear hdiv hrp hlen1 hL1 hrl1 hrl2 hrel hst
      go_wp2_with fail
      refine HRP.out.mono ?_
      rw [← hQ]
      rw [← hQ] at hq
      clear hQ
      rintro e w1 ⟨g, rfl, hown1, hb1⟩
      have hl0 := Lat.alloc wr (.cells #[.int .i64 1] 3)
      have ho5 := Own.keep (Own.alloc HRL1.out (.cells #[.int .i64 1] 3)) hb1
      have hbw := Lat.trans HRL2.out (Lat.trans hl0 hb1)
      obtain ⟨ga, gc, hgv, hgat⟩ := OwnInts.sliceN hown1 (n := q) (fun z hz => by rw [List.eq_of_mem_replicate hz]; omega) List.length_replicate
      injection hgv with hg1 _ hg2
      subst hg1 hg2
      have HO5 := Lib.hid ho5
      have HBW := Lib.hid hbw
      have HGAT := Lib.hid hgat
      clear hown1 hb1 hl0 ho5 hbw hgat
      go_wp2_with (at_builtin; refine app_ints w1 w _ rfl _ _ rfl _ _ _ rfl HO5.out _ _ _ rfl HGAT.out (by have := HLEN.out; omega) rfl HBW.out ?_)
      intro v2 w2 hown2 hb2 _
      obtain ⟨L2, hL2⟩ : ∃ L, L = L1 ++ List.replicate q 1 := ⟨_, rfl⟩
      rw [← hL2] at hown2
      have hlen2 : L2.length < 200000000000 := by rw [hL2, List.length_append, List.length_replicate]; have := HLEN.out; omega
      have EL2 := Lib.hid hL2
      have HLEN2 := Lib.hid hlen2
      have HO2 := Lib.hid hown2
      have HB2 := Lib.hid hb2
      clear hown2 hb2 hL2 hlen2
      go_wp2_with (at_builtin; refine app_int w2 w _ rfl _ _ rfl _ _ _ rfl HO2.out rfl (by have := HLEN2.out; omega) rfl HB2.out ?_)
      intro v3 w3 hown3 hb3 _
      obtain ⟨L3, hL3⟩ : ∃ L, L = L2 ++ [0] := ⟨_, rfl⟩
      rw [← hL3] at hown3
      have hlen3 : L3.length < 300000000000 := by rw [hL3, List.length_append, List.length_singleton]; have := HLEN2.out; omega
      have EL3 := Lib.hid hL3
      have HLEN3 := Lib.hid hlen3
      have HO3 := Lib.hid hown3
      have HB3 := Lib.hid hb3
      clear hown3 hb3 hL3 hlen3
      go_wp2_with fail
      go_loopw [5, 8] (fun v b wx => ∃ r : Nat, r ≤ low ∧ b = .int .i64 ((r : Int) - 1) ∧ Hid (OwnInts wx w.heap.size v (L3 ++ (lowb N low).take (low - r)) ∧ Lat w wx)) (fun _ b _ => (intOf b + 1).toNat)
      case atStart => exact ⟨low, Nat.le_refl _, rfl, by rw [Nat.sub_self, List.take_zero, List.append_nil]; exact HO3.out, HB3.out⟩
      case round =>
        obtain ⟨r, hr, hb, hrl⟩ := hrel
        cases r with
        | zero =>
          have e : ((0 : Nat) : Int) - 1 = -1 := by omega
          rw [e] at hb
          subst hb
          clear e
          go_wp2
          go_roundw
          case rel => exact ⟨k + 1, by omega, by go_num, by
            have := hrl.out.1
            rw [Nat.sub_zero, List.take_of_length_le (by rw [lowb_length]; omega)] at this
            rw [HST.out, ric1, ← HQ.out, show List.replicate q (1 : Int) ++ 0 :: lowb N low = (List.replicate q 1 ++ [0]) ++ lowb N low by simp, ← List.append_assoc, ← List.append_assoc, ← EL2.out, ← EL3.out]
            exact this, hrl.out.2⟩
          case measure => simp [intOf]; omega
        | succ r =>
          have e : ((r + 1 : Nat) : Int) - 1 = (r : Int) := by omega
          rw [e] at hb
          subst hb
          clear e
          obtain ⟨D, hD⟩ : ∃ D : Nat, D = N / 2 ^ r := ⟨_, rfl⟩
          have hD1 : D ≤ 510 := by rw [hD]; exact Nat.le_trans (Nat.div_le_self _ _) hN5
          have hdv : (N : Int) / 2 ^ r = (D : Int) := by rw [hD]; simp
          have hbt := bits_and_one D (by omega)
          have hstp : (lowb N low).take (low - r) = (lowb N low).take (low - (r + 1)) ++ [((D % 2 : Nat) : Int)] := by
            have e1 : low - r = (low - (r + 1)) + 1 := by omega
            have e2 : low - 1 - (low - (r + 1)) = r := by omega
            rw [e1, take_snoc _ _ (by rw [lowb_length]; omega), lowb_getD N low _ (by omega), e2, ← hD]
          obtain ⟨L4, hL4⟩ : ∃ L, L = L3 ++ (lowb N low).take (low - (r + 1)) := ⟨_, rfl⟩
          have hlen4 : L4.length < 1000000000000 := by
            have := HLEN3.out
            rw [hL4, List.length_append, List.length_take, lowb_length]
            omega
          obtain ⟨hw1, hw2⟩ := hrl.out
          rw [← hL4] at hw1
          have HST3 := Lib.hid hstp
          have HLEN4 := Lib.hid hlen4
          have HBT := Lib.hid hbt
          have EL4 := Lib.hid hL4
          have HW1 := Lib.hid hw1
          have HW2 := Lib.hid hw2
          clear hbt hstp hlen4 hD hw1 hw2 hrl hL4
          go_wp2_with (at_builtin; refine app_int wr w _ rfl _ _ rfl _ _ _ rfl HW1.out rfl HLEN4.out rfl HW2.out ?_)
          intro v4 w4 hown4 hb4 _
          have HO4 := Lib.hid hown4
          have HB4 := Lib.hid hb4
          clear hown4 hb4
          go_wp2
          go_roundw
          case rel => exact ⟨r, by omega, rfl, by rw [HST3.out, ← List.append_assoc, ← EL4.out, ← HBT.out]; exact HO4.out, HB4.out⟩
          case measure => simp [intOf]
    · obtain rfl : k = n := by omega
      go_wp2
      go_ret
      exact ⟨_, rfl, hrel.out⟩
end Go.Proofs.YtooepflfofgnnaaDoor

namespace Go.Proofs.YtooepflfofgnnaaDoor

def xorL (a b : List UInt8) : List UInt8 := List.zipWith (fun x y => x ^^^ y) a b
abbrev S (l : List UInt8) : ByteArray := ⟨l.toArray⟩
theorem S_of (b : ByteArray) : ∃ l, b = S l := ⟨b.data.toList, by cases b; rfl⟩
theorem S_size (l : List UInt8) : (S l).size = l.length := rfl
theorem xorL_length (a b : List UInt8) (h : a.length = b.length) : (xorL a b).length = a.length := by simp [xorL, h]
theorem xorL_comm (a b : List UInt8) : xorL a b = xorL b a := by
  unfold xorL; rw [List.zipWith_comm]; congr 1; funext x y; exact UInt8.xor_comm y x
theorem xorL_assoc : ∀ a b c : List UInt8, xorL (xorL a b) c = xorL a (xorL b c)
  | [], _, _ => by simp [xorL]
  | _ :: _, [], _ => by simp [xorL]
  | _ :: _, _ :: _, [] => by simp [xorL]
  | x :: a, y :: b, z :: c => by
    have := xorL_assoc a b c
    simp only [xorL, List.zipWith_cons_cons, List.cons.injEq] at this ⊢
    exact ⟨UInt8.xor_assoc x y z, this⟩
def noughts (n : Nat) : List UInt8 := List.replicate n 0
theorem xorL_self : ∀ a : List UInt8, xorL a a = noughts a.length
  | [] => rfl
  | x :: a => by
    have := xorL_self a
    simp only [xorL, noughts, List.zipWith_cons_cons, List.length_cons, List.replicate_succ, List.cons.injEq] at this ⊢
    exact ⟨UInt8.xor_self, this⟩
theorem xorL_noughts : ∀ a : List UInt8, xorL a (noughts a.length) = a
  | [] => rfl
  | x :: a => by
    have := xorL_noughts a
    simp only [xorL, noughts, List.length_cons, List.replicate_succ, List.zipWith_cons_cons, List.cons.injEq] at this ⊢
    exact ⟨UInt8.xor_zero, this⟩
theorem xorL_back (a b : List UInt8) (h : a.length = b.length) : xorL (xorL a b) b = a := by
  rw [xorL_assoc, xorL_self, ← h, xorL_noughts]
theorem S_append (a b : List UInt8) : S a ++ S b = S (a ++ b) := ByteArray.mk_append_mk a b
theorem noughts_succ (k : Nat) : S (noughts k) ++ { data := #[0] } = S (noughts (k + 1)) := by
  rw [show ({ data := #[0] } : ByteArray) = S [0] from rfl, S_append, noughts, noughts, List.replicate_succ']
end Go.Proofs.YtooepflfofgnnaaDoor

namespace Go.Proofs.YtooepflfofgnnaaDoor

def bcod (c : Ct) : List Int := (if c.al = true then [1] else 0 :: (lowb (c.x + 1).toNat 2 ++ lowb (c.y + 1).toNat 2)) ++ ricL 2 c.rs
def bcods : List Ct → List Int
  | [] => []
  | c :: cs => bcod c ++ bcods cs
theorem bcods_append : ∀ l k : List Ct, bcods (l ++ k) = bcods l ++ bcods k
  | [], _ => rfl
  | c :: l, k => by rw [List.cons_append, bcods, bcods, bcods_append l k, List.append_assoc]
theorem bcod_bit (c : Ct) : ∀ z ∈ bcod c, z = 0 ∨ z = 1 := by
  intro z hz
  unfold bcod at hz
  rcases List.mem_append.1 hz with hz | hz
  · split at hz
    · rw [List.mem_singleton] at hz; exact .inr hz
    · rcases List.mem_cons.1 hz with hz | hz
      · exact .inl hz
      · rcases List.mem_append.1 hz with hz | hz
        · exact lowb_bit _ _ z hz
        · exact lowb_bit _ _ z hz
  · exact ricL_bit 2 c.rs z hz
theorem bcods_bit : ∀ l : List Ct, ∀ z ∈ bcods l, z = 0 ∨ z = 1
  | [], z, h => by simp [bcods] at h
  | c :: l, z, h => by
    rw [bcods, List.mem_append] at h
    rcases h with h | h
    · exact bcod_bit c z h
    · exact bcods_bit l z h
theorem pow_le_256 {j : Nat} (h : j ≤ 8) : 2 ^ j ≤ 256 := Nat.pow_le_pow_right (n := 2) (by omega) h
def padn (n : Nat) : Nat := (8 - n % 8) % 8
def pad8 (l : List Int) : List Int := l ++ List.replicate (padn l.length) 0
theorem pad8_len (l : List Int) : (pad8 l).length = l.length + padn l.length := by unfold pad8; rw [List.length_append, List.length_replicate]
theorem pad8_mod (l : List Int) : (pad8 l).length % 8 = 0 := by rw [pad8_len]; unfold padn; omega
theorem pad8_bit {l : List Int} (h : ∀ z ∈ l, z = 0 ∨ z = 1) : ∀ z ∈ pad8 l, z = 0 ∨ z = 1 := by
  intro z hz
  unfold pad8 at hz
  rcases List.mem_append.1 hz with hz | hz
  · exact h z hz
  · exact .inl (List.eq_of_mem_replicate hz)

/-! one coded picture read -/
def rdC (many : Nat) : List Int → Option (Ct × List Int)
  | [] => none
  | b :: r => if b = 1 then
      match numbs 2 many r with
      | none => none
      | some (vs, r2) => some (⟨true, 0, 0, vs⟩, r2)
    else match bitsN 2 0 r with
      | none => none
      | some (x, r1) => match bitsN 2 0 r1 with
        | none => none
        | some (y, r2) => match numbs 2 many r2 with
          | none => none
          | some (vs, r3) => some (⟨false, (x : Int) - 1, (y : Int) - 1, vs⟩, r3)
def rdCs (many : Nat) : Nat → List Int → Option (List Ct × List Int)
  | 0, l => some ([], l)
  | k + 1, l => match rdC many l with
    | none => none
    | some (c, r) => match rdCs many k r with
      | none => none
      | some (cs, r2) => some (c :: cs, r2)
theorem rdCs_snoc {many : Nat} : ∀ {k : Nat} {l r : List Int} {vs : List Ct}, rdCs many k l = some (vs, r) → rdCs many (k + 1) l = match rdC many r with
    | none => none
    | some (v, r2) => some (vs ++ [v], r2)
  | 0, l, r, vs, h => by
    simp only [rdCs, Option.some.injEq, Prod.mk.injEq] at h
    obtain ⟨rfl, rfl⟩ := h
    rw [rdCs]
    cases rdC many l with
    | none => rfl
    | some x => obtain ⟨v, r2⟩ := x; rfl
  | k + 1, l, r, vs, h => by
    rw [rdCs] at h ⊢
    cases hn : rdC many l with
    | none => rw [hn] at h; simp at h
    | some x =>
      obtain ⟨v, r1⟩ := x
      rw [hn] at h
      simp only at h ⊢
      cases hm : rdCs many k r1 with
      | none => rw [hm] at h; simp at h
      | some y =>
        obtain ⟨us, r2⟩ := y
        rw [hm] at h
        simp only [Option.some.injEq, Prod.mk.injEq] at h
        obtain ⟨rfl, rfl⟩ := h
        rw [rdCs_snoc hm]
        cases rdC many r2 with
        | none => rfl
        | some z => obtain ⟨v2, r3⟩ := z; rfl
theorem rdCs_dead1 {many : Nat} : ∀ {k : Nat} {l : List Int}, rdCs many k l = none → rdCs many (k + 1) l = none
  | 0, l, h => by simp [rdCs] at h
  | k + 1, l, h => by
    rw [rdCs] at h ⊢
    cases hn : rdC many l with
    | none => rfl
    | some x =>
      obtain ⟨v, r1⟩ := x
      rw [hn] at h
      simp only at h ⊢
      cases hm : rdCs many k r1 with
      | none => rw [rdCs_dead1 hm]
      | some y => obtain ⟨us, r2⟩ := y; rw [hm] at h; simp at h
theorem rdCs_dead {many k m : Nat} {l : List Int} (h : rdCs many k l = none) (hm : k ≤ m) : rdCs many m l = none := by
  obtain ⟨d, rfl⟩ : ∃ d, m = k + d := ⟨m - k, by omega⟩
  clear hm
  induction d with
  | zero => exact h
  | succ d ih => rw [← Nat.add_assoc]; exact rdCs_dead1 ih
/-! a longer row reads alike -/
theorem unary_ext : ∀ {l : List Int} {q : Nat} {r : List Int} (t : List Int), unary l = some (q, r) → unary (l ++ t) = some (q, r ++ t)
  | [], q, r, t, h => by simp [unary] at h
  | b :: l, q, r, t, h => by
    rw [List.cons_append]
    rw [unary] at h ⊢
    by_cases hb : b = 0
    · rw [if_pos hb] at h ⊢
      simp only [Option.some.injEq, Prod.mk.injEq] at h
      obtain ⟨rfl, rfl⟩ := h
      rfl
    · rw [if_neg hb] at h ⊢
      cases hu : unary l with
      | none => rw [hu] at h; simp at h
      | some x =>
        obtain ⟨q1, r1⟩ := x
        rw [hu] at h
        simp only [Option.some.injEq, Prod.mk.injEq] at h
        obtain ⟨rfl, rfl⟩ := h
        rw [unary_ext t hu]
theorem bitsN_ext : ∀ {k a : Nat} {l : List Int} {v : Nat} {r : List Int} (t : List Int), bitsN k a l = some (v, r) → bitsN k a (l ++ t) = some (v, r ++ t)
  | 0, a, l, v, r, t, h => by
    simp only [bitsN, Option.some.injEq, Prod.mk.injEq] at h ⊢
    obtain ⟨rfl, rfl⟩ := h
    exact ⟨rfl, rfl⟩
  | k + 1, a, [], v, r, t, h => by simp [bitsN] at h
  | k + 1, a, b :: l, v, r, t, h => by
    rw [List.cons_append]
    rw [bitsN] at h ⊢
    exact bitsN_ext t h
theorem numb_ext {low : Nat} {l : List Int} {v : Int} {r : List Int} (t : List Int) (h : numb low l = some (v, r)) : numb low (l ++ t) = some (v, r ++ t) := by
  unfold numb at h ⊢
  cases hu : unary l with
  | none => rw [hu] at h; simp at h
  | some x =>
    obtain ⟨q, r1⟩ := x
    rw [hu] at h
    rw [unary_ext t hu]
    simp only at h ⊢
    cases hb : bitsN low 0 r1 with
    | none => rw [hb] at h; simp at h
    | some y =>
      obtain ⟨m, r2⟩ := y
      rw [hb] at h
      rw [bitsN_ext t hb]
      simp only at h ⊢
      split at h
      · rename_i h510
        rw [if_pos h510]
        simp only [Option.some.injEq, Prod.mk.injEq] at h ⊢
        exact ⟨h.1, by rw [h.2]⟩
      · cases h
theorem numbs_ext {low : Nat} : ∀ {k : Nat} {l : List Int} {vs r : List Int} (t : List Int), numbs low k l = some (vs, r) → numbs low k (l ++ t) = some (vs, r ++ t)
  | 0, l, vs, r, t, h => by
    simp only [numbs, Option.some.injEq, Prod.mk.injEq] at h ⊢
    obtain ⟨rfl, rfl⟩ := h
    exact ⟨rfl, rfl⟩
  | k + 1, l, vs, r, t, h => by
    rw [numbs] at h ⊢
    cases hn : numb low l with
    | none => rw [hn] at h; simp at h
    | some x =>
      obtain ⟨v, r1⟩ := x
      rw [hn] at h
      rw [numb_ext t hn]
      simp only at h ⊢
      cases hm : numbs low k r1 with
      | none => rw [hm] at h; simp at h
      | some y =>
        obtain ⟨us, r2⟩ := y
        rw [hm] at h
        rw [numbs_ext t hm]
        simp only [Option.some.injEq, Prod.mk.injEq] at h ⊢
        exact ⟨h.1, by rw [h.2]⟩
theorem rdC_ext {many : Nat} {l : List Int} {c : Ct} {r : List Int} (t : List Int) (h : rdC many l = some (c, r)) : rdC many (l ++ t) = some (c, r ++ t) := by
  cases l with
  | nil => simp [rdC] at h
  | cons b l =>
    rw [List.cons_append]
    rw [rdC] at h ⊢
    by_cases hb : b = 1
    · rw [if_pos hb] at h ⊢
      cases hm : numbs 2 many l with
      | none => rw [hm] at h; simp at h
      | some y =>
        obtain ⟨us, r2⟩ := y
        rw [hm] at h
        rw [numbs_ext t hm]
        simp only [Option.some.injEq, Prod.mk.injEq] at h ⊢
        exact ⟨h.1, by rw [h.2]⟩
    · rw [if_neg hb] at h ⊢
      cases h1 : bitsN 2 0 l with
      | none => rw [h1] at h; simp at h
      | some y =>
        obtain ⟨x, r1⟩ := y
        rw [h1] at h
        rw [bitsN_ext t h1]
        simp only at h ⊢
        cases h2 : bitsN 2 0 r1 with
        | none => rw [h2] at h; simp at h
        | some y =>
          obtain ⟨x2, r2⟩ := y
          rw [h2] at h
          rw [bitsN_ext t h2]
          simp only at h ⊢
          cases hm : numbs 2 many r2 with
          | none => rw [hm] at h; simp at h
          | some y =>
            obtain ⟨us, r3⟩ := y
            rw [hm] at h
            rw [numbs_ext t hm]
            simp only [Option.some.injEq, Prod.mk.injEq] at h ⊢
            exact ⟨h.1, by rw [h.2]⟩
theorem rdCs_ext {many : Nat} : ∀ {k : Nat} {l : List Int} {vs : List Ct} {r : List Int} (t : List Int), rdCs many k l = some (vs, r) → rdCs many k (l ++ t) = some (vs, r ++ t)
  | 0, l, vs, r, t, h => by
    simp only [rdCs, Option.some.injEq, Prod.mk.injEq] at h ⊢
    obtain ⟨rfl, rfl⟩ := h
    exact ⟨rfl, rfl⟩
  | k + 1, l, vs, r, t, h => by
    rw [rdCs] at h ⊢
    cases hn : rdC many l with
    | none => rw [hn] at h; simp at h
    | some x =>
      obtain ⟨v, r1⟩ := x
      rw [hn] at h
      rw [rdC_ext t hn]
      simp only at h ⊢
      cases hm : rdCs many k r1 with
      | none => rw [hm] at h; simp at h
      | some y =>
        obtain ⟨us, r2⟩ := y
        rw [hm] at h
        rw [rdCs_ext t hm]
        simp only [Option.some.injEq, Prod.mk.injEq] at h ⊢
        exact ⟨h.1, by rw [h.2]⟩
/-! what is right is read back -/
structure CdOk (many : Nat) (c : Ct) : Prop where
  len : c.rs.length = many
  bd : ∀ z ∈ c.rs, -255 ≤ z ∧ z ≤ 255
  al : c.al = true → c.x = 0 ∧ c.y = 0
  mv : c.al = false → -1 ≤ c.x ∧ c.x ≤ 1 ∧ -1 ≤ c.y ∧ c.y ≤ 1
theorem rdC_of {many : Nat} {c : Ct} (h : CdOk many c) (t : List Int) : rdC many (bcod c ++ t) = some (c, t) := by
  obtain ⟨al, x, y, rs⟩ := c
  have hl : rs.length = many := h.len
  have hn := numbs_of 2 t rs h.bd
  rw [hl] at hn
  cases al with
  | true =>
    obtain ⟨h1, h2⟩ := h.al rfl
    change x = 0 at h1
    change y = 0 at h2
    subst h1 h2
    show rdC many (([1] ++ ricL 2 rs) ++ t) = _
    rw [List.append_assoc, List.singleton_append, rdC, if_pos rfl, hn]
  | false =>
    have hm : -1 ≤ x ∧ x ≤ 1 ∧ -1 ≤ y ∧ y ≤ 1 := h.mv rfl
    show rdC many (((0 :: (lowb (x + 1).toNat 2 ++ lowb (y + 1).toNat 2)) ++ ricL 2 rs) ++ t) = _
    rw [List.append_assoc, List.cons_append, rdC, if_neg (by omega), List.append_assoc, bitsN_of]
    simp only
    rw [bitsN_of]
    simp only
    rw [hn]
    have e1 : ((0 * 2 ^ 2 + (x + 1).toNat % 2 ^ 2 : Nat) : Int) - 1 = x := by omega
    have e2 : ((0 * 2 ^ 2 + (y + 1).toNat % 2 ^ 2 : Nat) : Int) - 1 = y := by omega
    simp only [e1, e2]
theorem rdCs_of {many : Nat} (t : List Int) : ∀ {cs : List Ct}, (∀ c ∈ cs, CdOk many c) → rdCs many cs.length (bcods cs ++ t) = some (cs, t)
  | [], _ => rfl
  | c :: cs, h => by
    rw [List.length_cons, rdCs, bcods, List.append_assoc, rdC_of (h c (List.mem_cons_self ..))]
    simp only
    rw [rdCs_of t fun d hd => h d (List.mem_cons_of_mem _ hd)]

/-! bits in eights as bytes -/
def val (l : List Int) : Nat → Nat
  | 0 => 0
  | k + 1 => 2 * val l k + (l.getD k 0).toNat
theorem val_lt {l : List Int} (h : ∀ z ∈ l, z = 0 ∨ z = 1) : ∀ k, val l k < 2 ^ k
  | 0 => by simp [val]
  | k + 1 => by
    have ih := val_lt h k
    have hb : (l.getD k 0).toNat ≤ 1 := by
      rw [List.getD_eq_getElem?_getD]
      cases hg : l[k]? with
      | none => simp
      | some z => rcases h z (List.mem_of_getElem? hg) with e | e <;> subst e <;> simp
    rw [val, Nat.pow_succ]; omega
theorem val_congr {l m : List Int} : ∀ {k : Nat}, (∀ j, j < k → l.getD j 0 = m.getD j 0) → val l k = val m k
  | 0, _ => rfl
  | k + 1, h => by rw [val, val, val_congr fun j hj => h j (by omega), h k (by omega)]
def oct (l : List Int) (i : Nat) : Nat := val (l.drop (8 * i)) 8
def octs (l : List Int) (k : Nat) : List UInt8 := (List.range k).map fun i => UInt8.ofNat (oct l i)
theorem octs_len (l : List Int) (k : Nat) : (octs l k).length = k := by simp [octs]
theorem octs_succ (l : List Int) (k : Nat) : octs l (k + 1) = octs l k ++ [UInt8.ofNat (oct l k)] := by unfold octs; rw [List.range_succ, List.map_append]; rfl
theorem oct_lt {l : List Int} (h : ∀ z ∈ l, z = 0 ∨ z = 1) (i : Nat) : oct l i < 256 := val_lt (fun z hz => h z (List.mem_of_mem_drop hz)) 8
def bitsOf : List UInt8 → List Int
  | [] => []
  | b :: l => lowb b.toNat 8 ++ bitsOf l
theorem bitsOf_append : ∀ l k : List UInt8, bitsOf (l ++ k) = bitsOf l ++ bitsOf k
  | [], _ => rfl
  | c :: l, k => by rw [List.cons_append, bitsOf, bitsOf, bitsOf_append l k, List.append_assoc]
theorem bitsOf_len : ∀ l : List UInt8, (bitsOf l).length = 8 * l.length
  | [] => rfl
  | c :: l => by rw [bitsOf, List.length_append, lowb_length, bitsOf_len l, List.length_cons]; omega
theorem bitsOf_bit : ∀ l : List UInt8, ∀ z ∈ bitsOf l, z = 0 ∨ z = 1
  | [], z, h => by simp [bitsOf] at h
  | c :: l, z, h => by
    rw [bitsOf, List.mem_append] at h
    rcases h with h | h
    · exact lowb_bit _ _ z h
    · exact bitsOf_bit l z h
theorem lowb_val {l : List Int} (h : ∀ z ∈ l, z = 0 ∨ z = 1) : ∀ (k : Nat), k ≤ l.length → lowb (val l k) k = l.take k
  | 0, _ => rfl
  | k + 1, hk => by
    apply List.ext_getElem
    · rw [lowb_length, List.length_take]; omega
    · intro j h1 h2
      rw [lowb_length] at h1
      have e1 : (lowb (val l (k + 1)) (k + 1))[j]'(by rw [lowb_length]; exact h1) = (lowb (val l (k + 1)) (k + 1)).getD j 0 := by
        rw [List.getD_eq_getElem?_getD, List.getElem?_eq_getElem (by rw [lowb_length]; exact h1)]; rfl
      rw [e1, lowb_getD _ _ _ h1, List.getElem_take]
      have hb : ∀ i, i < l.length → ∃ c : Nat, c < 2 ∧ l.getD i 0 = c := fun i hi => by
        have : l.getD i 0 ∈ l := by rw [List.getD_eq_getElem?_getD, List.getElem?_eq_getElem hi]; exact List.getElem_mem _
        rcases h _ this with e | e
        · exact ⟨0, by omega, by rw [e]; rfl⟩
        · exact ⟨1, by omega, by rw [e]; rfl⟩
      have ej : l[j]'(by omega) = l.getD j 0 := by rw [List.getD_eq_getElem?_getD, List.getElem?_eq_getElem (by omega)]; rfl
      rw [ej]
      obtain ⟨c, hc, he⟩ := hb k (by omega)
      have hv : val l (k + 1) = 2 * val l k + c := by rw [val, he, Int.toNat_natCast]
      by_cases hjk : j = k
      · subst hjk
        rw [he, hv, show j + 1 - 1 - j = 0 by omega, Nat.pow_zero, Nat.div_one]
        congr 1
        omega
      · have ih := lowb_val h k (by omega)
        have hg : (lowb (val l k) k).getD j 0 = (l.take k).getD j 0 := by rw [ih]
        rw [lowb_getD _ _ _ (by omega)] at hg
        have et : (l.take k).getD j 0 = l.getD j 0 := by
          rw [List.getD_eq_getElem?_getD, List.getD_eq_getElem?_getD, List.getElem?_take, if_pos (by omega)]
        rw [et] at hg
        rw [← hg, hv, show k + 1 - 1 - j = (k - 1 - j) + 1 by omega, Nat.pow_succ]
        congr 1
        rw [Nat.mul_comm (2 ^ (k - 1 - j)) 2, ← Nat.div_div_eq_div_mul, show (2 * val l k + c) / 2 = val l k by omega]
theorem bitsOf_octs {l : List Int} (h : ∀ z ∈ l, z = 0 ∨ z = 1) : ∀ k, 8 * k ≤ l.length → bitsOf (octs l k) = l.take (8 * k)
  | 0, _ => rfl
  | k + 1, hk => by
    rw [octs_succ, bitsOf_append, bitsOf_octs h k (by omega)]
    have e : (UInt8.ofNat (oct l k)).toNat = oct l k := by rw [UInt8.toNat_ofNat']; exact Nat.mod_eq_of_lt (oct_lt h k)
    show l.take (8 * k) ++ (lowb (UInt8.ofNat (oct l k)).toNat 8 ++ []) = _
    rw [e, List.append_nil]
    unfold oct
    rw [lowb_val (fun z hz => h z (List.mem_of_mem_drop hz)) 8 (by rw [List.length_drop]; omega), ← List.take_add]
    congr 1
theorem octs_all {l : List Int} (h : ∀ z ∈ l, z = 0 ∨ z = 1) (h8 : l.length % 8 = 0) : bitsOf (octs l (l.length / 8)) = l := by
  rw [bitsOf_octs h _ (by omega), List.take_of_length_le (by omega)]
end Go.Proofs.YtooepflfofgnnaaDoor

namespace Go.Proofs.YtooepflfofgnnaaDoor

structure FdOk (wd hg s : Int) (cs : List Ct) : Prop where
  n1 : 1 ≤ cs.length
  n6 : cs.length ≤ 6
  w1 : 1 ≤ wd
  w6 : wd ≤ 6
  h1 : 1 ≤ hg
  h6 : hg ≤ 6
  s1 : 1 ≤ s
  s64 : s ≤ 64
  cd : ∀ k, k < cs.length → CdOk (wd * hg).toNat (cs.getD k default)
theorem tl_zero {wd hg s : Int} {L : Pt} {c : Ct} (hL : c.al = false → (L.d = wd ∧ L.g = hg)) (h : tlE wd hg s L c = 0) :
    CdOk (wd * hg).toNat c ∧ (tlS wd hg s L c).d = wd ∧ (tlS wd hg s L c).g = hg := by
  obtain ⟨al, x, y, rs⟩ := c
  obtain ⟨ld, lg, ls⟩ := L
  change tldE ld lg ls wd hg s al x y rs = 0 at h
  show CdOk _ _ ∧ tldD ld lg ls wd hg s al x y rs = wd ∧ tldG ld lg ls wd hg s al x y rs = hg
  cases al with
  | false =>
    obtain ⟨e1, e2⟩ := hL rfl
    change ld = wd at e1
    change lg = hg at e2
    subst e1 e2
    unfold tldE at h
    rw [if_pos rfl] at h
    have h0 := h
    obtain ⟨hk, _, _, _, hm, hre⟩ := behE_zero h
    obtain ⟨r1, r2⟩ := rstE_zero hre
    have oa := chkPic_ok hk
    refine ⟨⟨?_, r2, (fun e => by cases e), fun _ => hm⟩, ?_, ?_⟩
    · show rs.length = _
      have := oa.len
      omega
    · unfold tldD behD; rw [if_pos rfl, if_pos h0]
    · unfold tldG behG; rw [if_pos rfl, if_pos h0]
  | true =>
    unfold tldE at h
    rw [if_neg (by simp)] at h
    by_cases hq : x ≠ 0 ∨ y ≠ 0
    · rw [if_pos hq] at h; omega
    · rw [if_neg hq] at h
      have h0 := h
      obtain ⟨_, _, _, _, _, _, r1, r2⟩ := dcE_zero h
      refine ⟨⟨?_, r2, fun _ => ⟨show x = 0 by omega, show y = 0 by omega⟩, (fun e => by cases e)⟩, ?_, ?_⟩
      · show rs.length = _
        omega
      · unfold tldD tolD; rw [if_neg (by simp), if_neg hq, if_pos h0]
      · unfold tldG tolG; rw [if_neg (by simp), if_neg hq, if_pos h0]
theorem dst_ok {wd hg s : Int} {cs : List Ct} (h0 : (cs.getD 0 default).al = true) : ∀ k, dstE wd hg s cs k = 0 → (∀ i, i < k → CdOk (wd * hg).toNat (cs.getD i default)) ∧ (1 ≤ k → (dst wd hg s cs k).2.d = wd ∧ (dst wd hg s cs k).2.g = hg)
  | 0, _ => ⟨fun i hi => by omega, fun h => by omega⟩
  | k + 1, h => by
    have hk : dstE wd hg s cs k = 0 := by
      by_cases q : dstE wd hg s cs k = 0
      · exact q
      · rw [dstE, if_pos q] at h; exact h
    rw [dstE, if_neg (by omega)] at h
    obtain ⟨i1, i2⟩ := dst_ok h0 k hk
    have ht := tl_zero (fun hal => i2 (by
      by_cases e : k = 0
      · subst e; rw [h0] at hal; cases hal
      · omega)) h
    refine ⟨fun i hi => ?_, fun _ => ?_⟩
    · by_cases e : i = k
      · subst e; exact ht.1
      · exact i1 i (by omega)
    · rw [dst_succ]; exact ht.2
theorem fd_ok {wd hg s : Int} {cs : List Ct} (h : fdE wd hg s cs = 0) : FdOk wd hg s cs := by
  unfold fdE at h
  split at h
  · omega
  rename_i h1
  split at h
  · omega
  rename_i h2
  split at h
  · omega
  rename_i h3
  have hn : 1 ≤ cs.length ∧ cs.length ≤ 6 := by
    have hz : fchkE cs.length = 0 := by omega
    unfold fchkE at hz
    split at hz
    · omega
    split at hz
    · omega
    omega
  have a1 : sideB wd = true := by cases hq : sideB wd <;> simp_all
  have a2 : sideB hg = true := by cases hq : sideB hg <;> simp_all
  have a3 : stepB s = true := by cases hq : stepB s <;> simp_all
  have a4 : (cs.getD 0 default).al = true := by cases hq : (cs.getD 0 default).al <;> simp_all
  simp only [sideB, stepB, decide_eq_true_eq] at a1 a2 a3
  exact ⟨hn.1, hn.2, a1.1, a1.2, a2.1, a2.2, a3.1, a3.2, (dst_ok a4 _ h).1⟩
theorem FdOk.all {wd hg s : Int} {cs : List Ct} (h : FdOk wd hg s cs) : ∀ c ∈ cs, CdOk (wd * hg).toNat c := fun c hc => by
  obtain ⟨i, hi, e⟩ := List.getElem_of_mem hc
  have := h.cd i hi
  rw [List.getD_eq_getElem?_getD, List.getElem?_eq_getElem hi] at this
  simpa [e] using this
theorem FdOk.many {wd hg s : Int} {cs : List Ct} (h : FdOk wd hg s cs) : (wd * hg).toNat ≤ 36 := by
  have : wd * hg ≤ 6 * 6 := Int.mul_le_mul h.w6 h.h6 (by have := h.h1; omega) (by omega)
  omega
def pkB (wd hg s : Int) (cs : List Ct) : List UInt8 := [UInt8.ofNat wd.toNat, UInt8.ofNat hg.toNat, UInt8.ofNat s.toNat, UInt8.ofNat cs.length] ++ octs (pad8 (bcods cs)) ((pad8 (bcods cs)).length / 8)
def pkE (wd hg s : Int) (cs : List Ct) : Nat := if fdE wd hg s cs ≠ 0 then fdE wd hg s cs else if 120 < (pkB wd hg s cs).length then 4 else 0
def pkS (wd hg s : Int) (cs : List Ct) : ByteArray := if pkE wd hg s cs = 0 then S (pkB wd hg s cs) else .empty
theorem ric1_le {n : Int} (h1 : -255 ≤ n) (h2 : n ≤ 255) : (ric1 (fld n).toNat 2).length ≤ 130 := by
  have := fld_le n h1 h2
  have h0 := fld_nonneg n
  rw [ric1_length]
  have : (fld n).toNat / 2 ^ 2 ≤ 127 := by omega
  omega
theorem ricL_le : ∀ {l : List Int}, (∀ z ∈ l, -255 ≤ z ∧ z ≤ 255) → (ricL 2 l).length ≤ 130 * l.length
  | [], _ => by simp [ricL]
  | n :: l, h => by
    have h1 := h n (List.mem_cons_self ..)
    have := ric1_le h1.1 h1.2
    have ih := ricL_le (l := l) fun z hz => h z (List.mem_cons_of_mem _ hz)
    rw [ricL, List.length_append, List.length_cons]; omega
theorem bcod_le {many : Nat} {c : Ct} (h : CdOk many c) : (bcod c).length ≤ 5 + 130 * many := by
  have := ricL_le h.bd
  have hl := h.len
  unfold bcod
  rw [List.length_append]
  split
  · rw [List.length_singleton]; rw [← hl]; omega
  · rw [List.length_cons, List.length_append, lowb_length, lowb_length]; rw [← hl]; omega
theorem bcods_le {many : Nat} : ∀ {cs : List Ct}, (∀ c ∈ cs, CdOk many c) → (bcods cs).length ≤ (5 + 130 * many) * cs.length
  | [], _ => by simp [bcods]
  | c :: cs, h => by
    have h1 := bcod_le (h c (List.mem_cons_self ..))
    have ih := bcods_le (cs := cs) fun d hd => h d (List.mem_cons_of_mem _ hd)
    rw [bcods, List.length_append, List.length_cons, Nat.mul_succ]; omega
theorem bcods_take {cs : List Ct} {k : Nat} (h : k < cs.length) : bcods (cs.take (k + 1)) = bcods (cs.take k) ++ bcod (cs.getD k default) := by
  rw [List.take_add_one, List.getElem?_eq_getElem h, bcods_append, List.getD_eq_getElem?_getD, List.getElem?_eq_getElem h]
  show _ ++ (bcod _ ++ []) = _
  rw [List.append_nil]; rfl
end Go.Proofs.YtooepflfofgnnaaDoor

namespace Go.Proofs.YtooepflfofgnnaaDoor
open Go.ChangeShapes Go.WideShapes Go.ChangeAt Go.RowKit

def bt (s : ByteArray) (j : Nat) : Nat := (s.data.toList.getD j 0).toNat
theorem bt_lt (s : ByteArray) (j : Nat) : bt s j < 256 := (s.data.toList.getD j 0).toNat_lt
theorem bt_get (s : ByteArray) (j : Nat) (h : j < s.size) : s[j].toNat = bt s j := by
  have hs : j < s.data.toList.length := by simpa using h
  unfold bt
  rw [List.getD_eq_getElem?_getD, List.getElem?_eq_getElem hs]
  rfl
theorem wpList_conv_bytes {P : Program} (w : World) {ops : Array Oper} {rest : List Oper} {o : Oper} {a : Act} {Q : Exit → Act → World → Prop}
    (hg : o.guard = none) (x : Operand) (src dst e : TypeId) (hop : o.op = Op.convert src dst x) {u : TypeDesc}
    (hs : P.underlying src = some u) (hd : P.underlying dst = some (.slice e)) (he : P.underlying e = some (.int .u8)) (s : ByteArray) (hx : a.eval x = .string s)
    (hK : ∀ (g cap : Nat) w', g = w.heap.size → s.size ≤ cap → Below w.heap.size w w' → w'.heap.size = w.heap.size + 1 →
      (∀ j, j < s.size → w'.cell? ⟨g, j, none⟩ = some (.int .u8 (bt s j))) → (∀ j, j < s.size → w'.frozen? ⟨g, j, none⟩ = false) →
      wpList P ops Q rest (a.put o.dst (.slice (some ⟨g, 0, none⟩) s.size cap)) w') :
    wpList P ops Q (o :: rest) a w := by
  refine wpList_plain hg fun K hK' => ?_
  unfold Oper.wp
  have hrun := Lib.run_convert_string_bytes (P := P) w src dst e s hs hd he
  simp [execOp, hop, hx, hrun, Result.andThen]
  have hcap : s.size ≤ grownCap w s.size 0 e := grownCap_ge w s.size 0 e
  refine hK' _ _ (hK w.heap.size _ _ rfl hcap ⟨rfl, rfl, rfl, ?_, fun k hk => Lib.bytesWorld_at_old w e s k hk⟩ (Lib.bytesWorld_size w e s) ?_ ?_)
  · rw [Lib.bytesWorld_size]; omega
  · intro j hj; exact Lib.bytesWorld_cell w e s j hj
  · intro j hj
    have h1 : s.size ≤ (Lib.bytesCells w e s).size := by
      unfold Lib.bytesCells; rw [Array.size_append, Array.size_map]; exact Nat.le_add_right _ _
    simp [World.frozen?, Lib.bytesWorld_at_new]
    omega
def strF (n : Nat) (F : Nat → Nat) : ByteArray := ⟨((List.range n).map fun j => UInt8.ofNat (F j)).toArray⟩
theorem run_conv_str {P : Program} (w : World) (src e dst : TypeId) (hs : P.underlying src = some (.slice e)) (he : P.underlying e = some (.int .u8)) (hd : P.underlying dst = some .string) (b off n cap : Nat) (F : Nat → Nat)
    (hc : ∀ j, j < n → w.cell? ⟨b, off + j, none⟩ = some (.int .u8 (F j))) : (convert src dst (.slice (some ⟨b, off, none⟩) n cap)).run P w = .ok (.string (strF n F)) w := by
  have := run_convert_bytes_arg (P := P) w src e hs he b off n cap ((List.range n).map fun j => (F j : Int)) (by simp) (fun i hi => by rw [hc i hi]; simp [hi]) dst hd
  rw [this]
  simp [strOfNums, strF, List.map_map, Function.comp_def]
theorem info_u8 : (Tryd.prog.info? 5).map (fun i => (i.zero, i.size, i.bytes)) = some (some (.int .u8 0), 1, 1) := by kernel_rfl
abbrev OwnBytes (w : World) (B : Nat) (v : Value) (bs : List UInt8) : Prop := Own w B 5 v (bs.map fun x => Value.int .u8 x.toNat)
theorem app_u8 (wr w0 : World) (B : Nat) {ops : Array Oper} {rest : List Oper} {o : Oper} {a : Act} {Q : Exit → Act → World → Prop}
    (hg : o.guard = none) (s x : Operand) (ho : o.op = .call { callee := .builtin .append, args := #[s, x], argTypes := #[111, 111] })
    (v : Value) (bs : List UInt8) (z : Nat) (hs : a.eval s = v) (hown : OwnBytes wr B v bs) (hx : a.eval x = .slice (some ⟨wr.heap.size, 0, none⟩) 1 1)
    (hz : z < 256) (hn : bs.length < 1000000000000) (hB : B = w0.heap.size) (hb : Below B w0 wr)
    (K : ∀ v' w', OwnBytes w' B v' (bs ++ [UInt8.ofNat z]) → Below B w0 w' → AppStep wr w' v v' → wpList Tryd.prog ops Q rest (a.put o.dst v') w') :
    wpList Tryd.prog ops Q (o :: rest) a (wr.alloc (.cells #[.int .u8 z] 5)) :=
  wpList_app1 wr w0 B hg s x 111 ho 5 (.int .u8 0) 1 Tryd.underlying111 info_u8 rfl (by decide) v _ (.int .u8 z) hs hown hx rfl (by simpa using hn) hB hb
    (fun v' w' h1 h2 h3 => K v' w' (by
      have e : (UInt8.ofNat z).toNat = z := by rw [UInt8.toNat_ofNat']; exact Nat.mod_eq_of_lt hz
      unfold OwnBytes
      rw [List.map_append, List.map_cons, List.map_nil, e]; exact h1) h2 h3)
theorem strF_bytes (bs : List UInt8) : strF bs.length (fun j => (bs.getD j 0).toNat) = S bs := by
  unfold strF S
  congr 2
  apply List.ext_getElem
  · simp
  · intro j h1 h2
    simp only [List.getElem_map, List.getElem_range]
    rw [List.getD_eq_getElem?_getD, List.getElem?_eq_getElem h2]
    exact UInt8.ofNat_toNat
theorem conv_own {w : World} {B : Nat} {v : Value} {bs : List UInt8} (h : OwnBytes w B v bs) : (convert 111 9 v).run Tryd.prog w = .ok (.string (S bs)) w := by
  have h0 := h
  obtain ⟨hl, hor⟩ := h
  rcases hor with ⟨rfl, hz⟩ | ⟨g, cap, cur, rfl, hg, hh, hn, hc, hs, ht⟩
  · have e : bs = [] := by simpa using hz
    subst e
    exact run_convert_bytes_nil (P := Tryd.prog) w 111 5 Tryd.underlying111 Tryd.underlying5 0 0 9 Tryd.underlying9
  · rw [List.length_map] at *
    have hc2 := run_conv_str (P := Tryd.prog) w 111 5 9 Tryd.underlying111 Tryd.underlying5 Tryd.underlying9 g 0 bs.length cap (fun j => (bs.getD j 0).toNat) (fun j hj => by
      have := World.ownsRow.cells h0 (g := g) rfl j (.int .u8 (bs.getD j 0).toNat) (by simp [List.getD, hj])
      rw [Addr.add_lit] at this
      exact this)
    rw [hc2, strF_bytes]

theorem Own.new (w : World) (B : Nat) (e : TypeId) (xs : Array Value) (hB : B ≤ w.heap.size) (hm : xs.size ≤ 1000) : Own (w.alloc (.cells xs e)) B e (.slice (some ⟨w.heap.size, 0, none⟩) xs.size xs.size) xs.toList := by
  refine ⟨by simp, .inr ⟨w.heap.size, xs.size, xs, by simp, hB, ?_, by simp, by unfold maxLen; omega, by simp, by rw [List.take_of_length_le (by simp)]⟩⟩
  exact (heap_alloc_new w _)
end Go.Proofs.YtooepflfofgnnaaDoor

namespace Go.Proofs.YtooepflfofgnnaaDoor
open Go.ChangeShapes Go.WideShapes Go.ChangeAt Go.RowKit

set_option maxHeartbeats 1000000 in
theorem spread_any (N width : Nat) (w : World) (hN : N ≤ 1000000) (hw : width ≤ 8) :
    Calls Tryd.prog 74 #[.int .i64 N, .int .i64 width] w fun e w' => ∃ v, e = .returned v ∧ OwnInts w' w.heap.size v (lowb N width) ∧ Lat w w' := by
  go_enter Tryd.func74, Tryd.ntmps74
  go_wp2_with fail
  go_loopw [5, 6] (fun v b wx => ∃ r : Nat, r ≤ width ∧ b = .int .i64 ((r : Int) - 1) ∧ Hid (OwnInts wx w.heap.size v ((lowb N width).take (width - r)) ∧ Lat w wx)) (fun _ b _ => (intOf b + 1).toNat)
  case atStart => exact ⟨width, Nat.le_refl _, rfl, by rw [Nat.sub_self, List.take_zero]; exact Own.nil _ _ _, Lat.refl _⟩
  case round =>
    obtain ⟨r, hr, hb, hrl⟩ := hrel
    cases r with
    | zero =>
      have e : ((0 : Nat) : Int) - 1 = -1 := by omega
      rw [e] at hb
      subst hb
      clear e
      go_wp2
      go_ret
      exact ⟨_, rfl, by
        have := hrl.out.1
        rw [Nat.sub_zero, List.take_of_length_le (by rw [lowb_length]; omega)] at this
        exact this, hrl.out.2⟩
    | succ r =>
      have e : ((r + 1 : Nat) : Int) - 1 = (r : Int) := by omega
      rw [e] at hb
      subst hb
      clear e
      obtain ⟨D, hD⟩ : ∃ D : Nat, D = N / 2 ^ r := ⟨_, rfl⟩
      have hD1 : D ≤ 1000000 := by rw [hD]; exact Nat.le_trans (Nat.div_le_self _ _) hN
      have hdv : (N : Int) / 2 ^ r = (D : Int) := by rw [hD]; simp
      have hbt := bits_and_one D (by omega)
      have hstp : (lowb N width).take (width - r) = (lowb N width).take (width - (r + 1)) ++ [((D % 2 : Nat) : Int)] := by
        have e1 : width - r = (width - (r + 1)) + 1 := by omega
        have e2 : width - 1 - (width - (r + 1)) = r := by omega
        rw [e1, take_snoc _ _ (by rw [lowb_length]; omega), lowb_getD N width _ (by omega), e2, ← hD]
      obtain ⟨L4, hL4⟩ : ∃ L, L = (lowb N width).take (width - (r + 1)) := ⟨_, rfl⟩
      have hlen4 : L4.length < 1000000000000 := by
        rw [hL4, List.length_take, lowb_length]
        omega
      obtain ⟨hw1, hw2⟩ := hrl.out
      rw [← hL4] at hw1
      have HST3 := Lib.hid hstp
      have HLEN4 := Lib.hid hlen4
      have HBT := Lib.hid hbt
      have EL4 := Lib.hid hL4
      have HW1 := Lib.hid hw1
      have HW2 := Lib.hid hw2
      clear hbt hstp hlen4 hD hw1 hw2 hrl hL4
      go_wp2_with (at_builtin; refine app_int wr w _ rfl _ _ rfl _ _ _ rfl HW1.out rfl HLEN4.out rfl HW2.out ?_)
      intro v4 w4 hown4 hb4 _
      have HO4 := Lib.hid hown4
      have HB4 := Lib.hid hb4
      clear hown4 hb4
      go_wp2
      go_roundw
      case rel => exact ⟨r, by omega, rfl, by rw [HST3.out, ← EL4.out, ← HBT.out]; exact HO4.out, HB4.out⟩
      case measure => simp [intOf]
theorem spread_at (N width : Nat) (w : World) (hN : N ≤ 1000000) (hw : width ≤ 8) :
    Calls Tryd.prog 74 #[.int .i64 N, .int .i64 width] w fun e w' => ∃ a c, e = .returned (.slice a width c) ∧ IntsAt w' a width c (lowb N width) ∧ Lat w w' := by
  refine (spread_any N width w hN hw).mono ?_
  rintro e w' ⟨v, rfl, ho, hb⟩
  obtain ⟨a, c, rfl, hat⟩ := OwnInts.sliceN ho (fun z hz => by rcases lowb_bit N width z hz with h | h <;> omega) (lowb_length N width)
  exact ⟨a, c, rfl, hat, hb⟩
theorem rbits_at (a : Option Addr) (n cap : Nat) (zs : List Int) (w : World) (h : IntsAt w a n cap zs) (hr : ∀ z ∈ zs, -255 ≤ z ∧ z ≤ 255) (hn : n ≤ 1000000) :
    Calls Tryd.prog 94 #[.slice a n cap, .int .i64 2] w fun e w' => ∃ b m c, e = .returned (.slice b m c) ∧ IntsAt w' b m c (ricL 2 zs) ∧ Lat w w' := by
  refine (bits_any a n cap zs 2 w h hr (by omega) (by omega)).mono ?_
  rintro e w' ⟨v, rfl, ho, hb⟩
  have e1 : ric zs 2 n = ricL 2 zs := by rw [← h.len, ric_all]
  rw [e1] at ho
  obtain ⟨b, c, rfl, hat⟩ := OwnInts.sliceN ho (fun z hz => by rcases ricL_bit 2 zs z hz with h | h <;> omega) rfl
  exact ⟨b, _, c, rfl, hat, hb⟩

theorem AppStep.box {wr w' : World} {v v' : Value} {gb : Nat} {x y z u : Value} (hs : AppStep wr w' v v') (hc : Cells4 wr gb x y z u) (hne : v.ownBlock ≠ some gb) : Cells4 w' gb x y z u ∧ v'.ownBlock ≠ some gb := by
  refine ⟨⟨hs.cell hc.c0 hne, hs.cell hc.c1 hne, hs.cell hc.c2 hne, hs.cell hc.c3 hne⟩, fun e => ?_⟩
  have hlt := World.block_lt_of_cell? _ _ hc.c0
  rcases hs.loc with hl | ⟨g, hl, hg⟩
  · exact hne (hl ▸ e)
  · rw [hl] at e
    simp only [Option.some.injEq] at e
    simp at hlt
    omega
set_option maxHeartbeats 4000000 in
set_option maxRecDepth 100000 in
theorem bbits_any (a : Option Addr) (n cap many : Nat) (cs : List Cd) (w : World) (h : CodsAt w a n cap cs) (hk : ∀ k, k < n → CdOk many (cs.getD k default).c) (hm : many ≤ 36) (hn : n ≤ 6) :
    Calls Tryd.prog 70 #[.slice a n cap] w fun e w' => ∃ b m c, e = .returned (.slice b m c) ∧ IntsAt w' b m c (pad8 (bcods (cs.map Cd.c))) ∧ Fresh w b m ∧ Lat w w' := by
  have hl := h.len
  have hall : ∀ c ∈ cs.map Cd.c, CdOk many c := fun c hc => by
    obtain ⟨d, hd, rfl⟩ := List.mem_map.1 hc
    obtain ⟨i, hi, e⟩ := List.getElem_of_mem hd
    have := hk i (by omega)
    rw [List.getD_eq_getElem?_getD, List.getElem?_eq_getElem hi] at this
    simpa [e] using this
  have hlen : ∀ k, (bcods ((cs.map Cd.c).take k)).length ≤ 28110 := fun k => by
    have h1 := bcods_le (fun c hc => hall c (List.mem_of_mem_take hc) : ∀ c ∈ (cs.map Cd.c).take k, CdOk many c)
    have h2 : ((cs.map Cd.c).take k).length ≤ 6 := by rw [List.length_take, List.length_map]; omega
    have h3 : (5 + 130 * many) * ((cs.map Cd.c).take k).length ≤ 4685 * 6 := Nat.mul_le_mul (by omega) h2
    omega
  have hstp : ∀ k, k < n → bcods ((cs.map Cd.c).take (k + 1)) = bcods ((cs.map Cd.c).take k) ++ bcod (cs.getD k default).c := fun k hk => by
    rw [bcods_take (by rw [List.length_map, hl]; exact hk), cts_getD (by rw [hl]; exact hk)]
  have hfin : (cs.map Cd.c).take n = cs.map Cd.c := List.take_of_length_le (by rw [List.length_map, hl]; exact Nat.le_refl _)
  have H := Lib.hid h
  have HK := Lib.hid hk
  have HLEN := Lib.hid hlen
  have HSTP := Lib.hid hstp
  have HFIN := Lib.hid hfin
  clear h hl hall hk hlen hstp hfin
  go_enter Tryd.func70, Tryd.ntmps70
  go_wp2_with fail
  go_loopw [3, 8] (fun v i wx => ∃ k : Nat, k ≤ n ∧ i = .int .i64 k ∧ Hid (OwnInts wx w.heap.size v (bcods ((cs.map Cd.c).take k)) ∧ Lat w wx)) (fun _ i _ => n - (intOf i).toNat)
  case atStart => exact ⟨0, Nat.zero_le _, rfl, Own.nil _ _ _, Lat.refl _⟩
  case round =>
    obtain ⟨k, hk, rfl, hrel⟩ := hrel
    obtain ⟨ho, hb⟩ := hrel.out
    have hle := HLEN.out k
    obtain ⟨L, hL⟩ : ∃ L, L = bcods ((cs.map Cd.c).take k) := ⟨_, rfl⟩
    rw [← hL] at ho hle
    have HO := Lib.hid ho
    have HB := Lib.hid hb
    have HLE := Lib.hid hle
    have HL := Lib.hid hL
    clear hrel ho hb hle hL
    by_cases hlt : k < n
    · obtain ⟨b1, o1, rfl, _, hcc⟩ := cods_at H.out (by omega)
      obtain ⟨y0, y1, y2, y3, yi⟩ := hcc k hlt
      have hok := HK.out k hlt
      have hst := HSTP.out k hlt
      rw [← HL.out] at hst
      obtain ⟨⟨⟨al, x, y, rs⟩, ra, rn, rc⟩, hq⟩ : ∃ q, q = cs.getD k default := ⟨_, rfl⟩
      rw [← hq] at y0 y1 y2 y3 yi hok hst
      change w.cell? ⟨b1, o1 + k * 4, none⟩ = some (.bool al) at y0
      change w.cell? ⟨b1, o1 + k * 4 + 1, none⟩ = some (.int .i64 x) at y1
      change w.cell? ⟨b1, o1 + k * 4 + 2, none⟩ = some (.int .i64 y) at y2
      change w.cell? ⟨b1, o1 + k * 4 + 3, none⟩ = some (.slice ra rn rc) at y3
      change IntsAt w ra rn rc rs at yi
      change CdOk many ⟨al, x, y, rs⟩ at hok
      have z0 := HB.out.cell_at y0
      have z1 := HB.out.cell_at y1
      have z2 := HB.out.cell_at y2
      have z3 := HB.out.cell_at y3
      have hrl : rs.length = many := hok.len
      have hrb : ∀ z ∈ rs, -255 ≤ z ∧ z ≤ 255 := hok.bd
      have hrn : rn ≤ 36 := by have := yi.len; omega
      have hrll := ricL_le hrb
      obtain ⟨W1, hW1⟩ : ∃ W, W = wr.alloc (.cells #[.bool al, .int .i64 x, .int .i64 y, .slice ra rn rc] 110) := ⟨_, rfl⟩
      have hl1 : Lat wr W1 := by rw [hW1]; exact Lat.alloc _ _
      have hc4 : Cells4 W1 wr.heap.size (.bool al) (.int .i64 x) (.int .i64 y) (.slice ra rn rc) := by rw [hW1]; exact cells4_new rfl rfl rfl rfl rfl
      obtain ⟨gb, hgb⟩ : ∃ g, g = wr.heap.size := ⟨_, rfl⟩
      have hne : u3.ownBlock ≠ some gb := fun e => by have := (Own.lt HO.out gb e).2; omega
      rw [← hgb] at hc4
      have HNE := Lib.hid hne
      have HO1 := Lib.hid (Own.keep HO.out hl1)
      have HB1 := Lib.hid (Lat.trans HB.out hl1)
      have HI0 := Lib.hid yi
      have HC4 := Lib.hid hc4
      have HRB := Lib.hid hrb
      have HRL := Lib.hid (show (ricL 2 rs).length ≤ 4680 by rw [hrl] at hrll; omega)
      have HOK := Lib.hid hok
      have HST := Lib.hid hst
      have x0 := hc4.c0
      clear y0 y1 y2 y3 yi hcc hok hst hrl hrb hrll hl1 hc4 hq hne
      go_upto_region 5 with fail
      rw [← hW1, ← hgb]
      clear hW1 hgb z0 z1 z2 z3
      go_upto_if 13 with fail
      go_cut [3] (fun v wx => Hid (OwnInts wx w.heap.size v (L ++ (if al = true then [1] else 0 :: (lowb (x + 1).toNat 2 ++ lowb (y + 1).toNat 2))) ∧ Lat w wx ∧ Cells4 wx gb (.bool al) (.int .i64 x) (.int .i64 y) (.slice ra rn rc)))
      case first =>
        cases al with
        | true =>
          go_wp2_with (at_builtin; refine app_int W1 w _ rfl _ _ rfl _ _ _ rfl HO1.out rfl (by have := HLE.out; omega) rfl HB1.out ?_)
          intro v2 w2 hown2 hb2 hs2
          have HO2 := Lib.hid hown2
          have HB2 := Lib.hid hb2
          have HX2 := Lib.hid (hs2.box HC4.out HNE.out).1
          clear hown2 hb2 hs2 x0
          go_wp2_with fail
          go_meet
          case rel => exact ⟨by rw [if_pos trivial]; exact HO2.out, HB2.out, HX2.out⟩
        | false =>
          have hm : -1 ≤ x ∧ x ≤ 1 ∧ -1 ≤ y ∧ y ≤ 1 := HOK.out.mv rfl
          obtain ⟨X, hX⟩ := Int.eq_ofNat_of_zero_le (show 0 ≤ x + 1 by omega)
          obtain ⟨Y, hY⟩ := Int.eq_ofNat_of_zero_le (show 0 ≤ y + 1 by omega)
          have hX2 : X ≤ 2 := by omega
          have hY2 : Y ≤ 2 := by omega
          have hsx := fun W => spread_at X 2 W (by omega) (by omega)
          have hsy := fun W => spread_at Y 2 W (by omega) (by omega)
          rw [← hX] at hsx
          rw [← hY] at hsy
          have HSX := Lib.hid hsx
          have HSY := Lib.hid hsy
          have HX := Lib.hid hX
          have HY := Lib.hid hY
          clear hsx hsy hX hY
          go_wp2_with (at_builtin; refine app_int W1 w _ rfl _ _ rfl _ _ _ rfl HO1.out rfl (by have := HLE.out; omega) rfl HB1.out ?_)
          intro v2 w2 hown2 hb2 hs2
          have hx2 := hs2.box HC4.out HNE.out
          obtain ⟨L2, hL2⟩ : ∃ K, K = L ++ [0] := ⟨_, rfl⟩
          rw [← hL2] at hown2
          have hle2 : L2.length ≤ 28200 := by rw [hL2, List.length_append, List.length_singleton]; have := HLE.out; omega
          have HO2 := Lib.hid hown2
          have HB2 := Lib.hid hb2
          have HX2 := Lib.hid hx2
          have HL2 := Lib.hid hL2
          have HLE2 := Lib.hid hle2
          have x1 := hx2.1.c1
          clear hown2 hb2 hs2 x0 hx2 hL2 hle2
          go_wp2_with fail
          refine (HSX.out _).mono ?_
          rintro e w3 ⟨a3, c3, rfl, hat3, hb3⟩
          have HAT3 := Lib.hid hat3
          have HO3 := Lib.hid (Own.keep HO2.out hb3)
          have HB3 := Lib.hid (Lat.trans HB2.out hb3)
          have HX3 := Lib.hid (HX2.out.1.keep hb3)
          clear hat3 hb3 x1
          go_wp2_with (at_builtin; refine app_ints w3 w _ rfl _ _ rfl _ _ _ rfl HO3.out _ _ _ rfl HAT3.out (by have := HLE2.out; omega) rfl HB3.out ?_)
          intro v4 w4 hown4 hb4 hs4
          have hx4 := hs4.box HX3.out HX2.out.2
          obtain ⟨L3, hL3⟩ : ∃ K, K = L2 ++ lowb X 2 := ⟨_, rfl⟩
          rw [← hL3] at hown4
          have hle3 : L3.length ≤ 28300 := by rw [hL3, List.length_append, lowb_length]; have := HLE2.out; omega
          have HO4 := Lib.hid hown4
          have HB4 := Lib.hid hb4
          have HX4 := Lib.hid hx4
          have HL3 := Lib.hid hL3
          have HLE3 := Lib.hid hle3
          have x2 := hx4.1.c2
          clear hown4 hb4 hs4 hx4 hL3 hle3
          go_wp2_with fail
          refine (HSY.out _).mono ?_
          rintro e w5 ⟨a5, c5, rfl, hat5, hb5⟩
          have HAT5 := Lib.hid hat5
          have HO5 := Lib.hid (Own.keep HO4.out hb5)
          have HB5 := Lib.hid (Lat.trans HB4.out hb5)
          have HX5 := Lib.hid (HX4.out.1.keep hb5)
          clear hat5 hb5 x2
          go_wp2_with (at_builtin; refine app_ints w5 w _ rfl _ _ rfl _ _ _ rfl HO5.out _ _ _ rfl HAT5.out (by have := HLE3.out; omega) rfl HB5.out ?_)
          intro v6 w6 hown6 hb6 hs6
          have hx6 := hs6.box HX5.out HX4.out.2
          have HO6 := Lib.hid hown6
          have HB6 := Lib.hid hb6
          have HX6 := Lib.hid hx6.1
          clear hown6 hb6 hs6 hx6
          go_wp2_with fail
          go_meet
          case rel => exact ⟨by
            rw [if_neg (by simp), HX.out, HY.out, Int.toNat_natCast, Int.toNat_natCast, show L ++ 0 :: (lowb X 2 ++ lowb Y 2) = ((L ++ [0]) ++ lowb X 2) ++ lowb Y 2 by simp, ← HL2.out, ← HL3.out]; exact HO6.out, HB6.out, HX6.out⟩
      case rest =>
      obtain ⟨hc1, hc2, hc3⟩ := hcut.out
      obtain ⟨L2, hL2⟩ : ∃ K, K = L ++ (if al = true then [1] else 0 :: (lowb (x + 1).toNat 2 ++ lowb (y + 1).toNat 2)) := ⟨_, rfl⟩
      rw [← hL2] at hc1
      have hle2 : L2.length ≤ 28200 := by
        rw [hL2, List.length_append]
        have := HLE.out
        split
        · rw [List.length_singleton]; omega
        · rw [List.length_cons, List.length_append, lowb_length, lowb_length]; omega
      have HO2 := Lib.hid hc1
      have HB2 := Lib.hid hc2
      have HLE2 := Lib.hid hle2
      have HL2 := Lib.hid hL2
      have x3 := hc3.c3
      clear hcut hc1 hc2 hc3 hL2 hle2 x0
      generalize wc = w2 at *
      go_wp2_with fail
      refine (rbits_at ra rn rc rs w2 (HI0.out.keep HB2.out) HRB.out (by omega)).mono ?_
      rintro e w3 ⟨a3, m3, c3, rfl, hat3, hb3⟩
      have hm3 : m3 ≤ 4680 := by have := hat3.len; have := HRL.out; omega
      have HAT3 := Lib.hid hat3
      have HO3 := Lib.hid (Own.keep HO2.out hb3)
      have HB3 := Lib.hid (Lat.trans HB2.out hb3)
      clear hat3 hb3 x3
      go_wp2_with (at_builtin; refine app_ints w3 w _ rfl _ _ rfl _ _ _ rfl HO3.out _ _ _ rfl HAT3.out (by have := HLE2.out; omega) rfl HB3.out ?_)
      intro v4 w4 hown4 hb4 hs4
      have hfin : L2 ++ ricL 2 rs = bcods ((cs.map Cd.c).take (k + 1)) := by
        rw [HST.out, HL2.out]; unfold bcod; rw [List.append_assoc]
      rw [hfin] at hown4
      have HO4 := Lib.hid hown4
      have HB4 := Lib.hid hb4
      clear hown4 hb4 hs4 hfin
      go_wp2_with fail
      go_roundw
      case rel => exact ⟨k + 1, by omega, by go_num, HO4.out, HB4.out⟩
      case measure => simp [intOf]; omega
    · obtain rfl : n = k := by omega
      have hbit : ∀ z ∈ L, z = 0 ∨ z = 1 := by rw [HL.out]; exact bcods_bit _
      have hwf : ∀ j, ∀ z ∈ L ++ List.replicate j 0, -9223372036854775808 ≤ z ∧ z ≤ 9223372036854775807 := fun j z hz => by
        rcases List.mem_append.1 hz with hz | hz
        · rcases hbit z hz with e | e <;> omega
        · rw [List.eq_of_mem_replicate hz]; omega
      obtain ⟨M, hM⟩ : ∃ M, M = L.length := ⟨_, rfl⟩
      have hlenj : ∀ j, (L ++ List.replicate j (0 : Int)).length = M + j := fun j => by rw [List.length_append, List.length_replicate, hM]
      have hM2 : M ≤ 28110 := by rw [hM]; exact HLE.out
      have ho0 : OwnInts wr w.heap.size u3 (L ++ List.replicate 0 0) := by rw [List.replicate_zero, List.append_nil]; exact HO.out
      obtain ⟨a0, c0, rfl, hat0⟩ := OwnInts.sliceN ho0 (hwf 0) (hlenj 0)
      have HO0 := Lib.hid ho0
      have HWF := Lib.hid hwf
      have HLJ := Lib.hid hlenj
      have HLM := Lib.hid hM
      clear hbit hwf hlenj ho0 hat0 hM
      rw [Nat.add_zero] at HO0 ⊢
      go_wp2_with fail
      go_loopw [3] (fun v wx => ∃ (m : Nat) (a : Option Addr) (c : Nat), v = .slice a m c ∧ m ≤ 28200 ∧ Hid (∃ j, m = M + j ∧ j ≤ padn M ∧ OwnInts wx w.heap.size (.slice a m c) (L ++ List.replicate j 0) ∧ Lat w wx)) (fun v _ => match v with | .slice _ m _ => (8 - m % 8) % 8 | _ => 0)
      case atStart => exact ⟨M, a0, c0, rfl, by omega, 0, rfl, Nat.zero_le _, HO0.out, HB.out⟩
      case round =>
        obtain ⟨m, a, c, rfl, hm, hrel⟩ := hrel
        obtain ⟨j, hj, hjp, ho, hb⟩ := hrel.out
        have hpd : padn M = (8 - M % 8) % 8 := rfl
        have HO := Lib.hid ho
        have HB := Lib.hid hb
        by_cases hm8 : m % 8 = 0
        · have t0 : ((m : Int) % 8 != 0) = false := by rw [bne_eq_false_iff_eq]; omega
          have hjj : j = padn M := by rw [hpd] at hjp ⊢; omega
          have HJ := Lib.hid hj
          obtain ⟨a', c', hv, hat⟩ := OwnInts.sliceN ho (HWF.out j) (HLJ.out j)
          injection hv with q1 q2 q3
          subst q1 q3
          have hat' : IntsAt wr a m c (pad8 (bcods (cs.map Cd.c))) := by
            unfold pad8
            have e1 : bcods (cs.map Cd.c) = L := by rw [HL.out, HFIN.out]
            rw [e1, ← HLM.out, ← hjj, q2]
            exact hat
          have hfr : Fresh w a m := fun g' hg' => own_ne HO.out hg'
          have HFR := Lib.hid hfr
          have HAT := Lib.hid hat'
          clear hrel hj hjp ho hb hpd hm8 hjj hat hat' q2 hfr
          go_wp2_with fail
          go_ret
          exact ⟨a, m, c, rfl, HAT.out, HFR.out, HB.out⟩
        · have t0 : ((m : Int) % 8 != 0) = true := by rw [bne_iff_ne]; omega
          have hjj : j + 1 ≤ padn M := by rw [hpd] at hjp ⊢; omega
          have hlen : (L ++ List.replicate j (0 : Int)).length < 1000000000000 := by rw [HLJ.out]; omega
          have HJ := Lib.hid hj
          have HJJ := Lib.hid hjj
          have HLEN := Lib.hid hlen
          have HM8 := Lib.hid hm8
          have hm9 : m ≤ 28120 := by rw [hpd] at hjp; omega
          clear hrel hj hjp ho hb hpd hm8 hjj hlen
          go_wp2_with (at_builtin; refine app_int wr w _ rfl _ _ rfl _ _ _ rfl HO.out rfl HLEN.out rfl HB.out ?_)
          intro v2 w2 hown2 hb2 _
          rw [← List.replicate_succ'] at hown2
          obtain ⟨a2, c2, rfl, _⟩ := OwnInts.sliceN hown2 (HWF.out (j + 1)) (HLJ.out (j + 1))
          have HO2 := Lib.hid hown2
          have HB2 := Lib.hid hb2
          clear hown2 hb2
          go_wp2_with fail
          go_roundw
          case rel => exact ⟨M + (j + 1), a2, c2, rfl, by have := HJ.out; omega, j + 1, rfl, HJJ.out, HO2.out, HB2.out⟩
          case measure =>
            have h1 := HM8.out
            have h2 := HJ.out
            simp
            omega
end Go.Proofs.YtooepflfofgnnaaDoor

namespace Go.Proofs.YtooepflfofgnnaaDoor
open Go.ChangeShapes Go.WideShapes Go.ChangeAt Go.RowKit

theorem IntsAt.sub {w : World} {a : Option Addr} {n cap : Nat} {zs : List Int} (h : IntsAt w a n cap zs) {b o : Nat} (ha : a = some ⟨b, o, none⟩) {j : Nat} (hj : j < n) : w.cell? ⟨b, o + j, none⟩ = some (.int .i64 (zs.getD j 0)) := by
  obtain ⟨b', o', ha', hc⟩ := h.row.at_ (by omega)
  rw [ha] at ha'
  simp only [Option.some.injEq, Addr.mk.injEq] at ha'
  obtain ⟨rfl, rfl, _⟩ := ha'
  exact hc j hj
set_option maxHeartbeats 4000000 in
set_option maxRecDepth 100000 in
theorem pack_any (wd hg s : Int) (a : Option Addr) (n cap : Nat) (cs : List Cd) (w : World) (h : CodsAt w a n cap cs) :
    Calls Tryd.prog 38 #[.int .i64 wd, .int .i64 hg, .int .i64 s, .slice a n cap] w fun e w' => e = .returned (.tuple #[.string (pkS wd hg s (cs.map Cd.c)), errv (pkE wd hg s (cs.map Cd.c))]) ∧ Lat w w' := by
  have hl := h.len
  obtain ⟨E, hE⟩ : ∃ E, E = fdE wd hg s (cs.map Cd.c) := ⟨_, rfl⟩
  obtain ⟨PE, hPE⟩ : ∃ E, E = pkE wd hg s (cs.map Cd.c) := ⟨_, rfl⟩
  obtain ⟨PS, hPS⟩ : ∃ E, E = pkS wd hg s (cs.map Cd.c) := ⟨_, rfl⟩
  have hpe : PE = if E ≠ 0 then E else if 120 < (pkB wd hg s (cs.map Cd.c)).length then 4 else 0 := by rw [hPE, hE]; rfl
  have hps : PS = if PE = 0 then S (pkB wd hg s (cs.map Cd.c)) else .empty := by rw [hPS, hPE]; rfl
  rw [← hPE, ← hPS]
  have hcall := fdecode_any wd hg s a n cap cs w h
  rw [← hE] at hcall
  have HCL := Lib.hid hcall
  have HE := Lib.hid hE
  have HPE := Lib.hid hpe
  have HPS := Lib.hid hps
  have HLN := Lib.hid hl
  have H := Lib.hid h
  clear hl hE hPE hPS hpe hps hcall h
  by_cases hE0 : E = 0
  case neg =>
    have e1 : PE = E := by rw [HPE.out, if_pos hE0]
    have e2 : PS = .empty := by rw [HPS.out, if_neg (by rw [e1]; exact hE0)]
    rw [e1, e2, errv_pos hE0]
    rw [errv_pos hE0] at HCL
    clear e1 e2 hE0
    go_enter Tryd.func38, Tryd.ntmps38
    go_wp2_with fail
    refine HCL.out.mono ?_
    rintro e w1 ⟨va, vc, ds, rfl, _, _, hb1⟩
    have HB1 := Lib.hid hb1
    clear hb1
    go_wp2_with fail
    go_ret2
    exact ⟨rfl, HB1.out⟩
  subst hE0
  have hfd := fd_ok HE.out.symm
  have hn1 : 1 ≤ n := by have := hfd.n1; rw [List.length_map, HLN.out] at this; exact this
  have hn6 : n ≤ 6 := by have := hfd.n6; rw [List.length_map, HLN.out] at this; exact this
  obtain ⟨wn, rfl⟩ := Int.eq_ofNat_of_zero_le (show 0 ≤ wd by have := hfd.w1; omega)
  obtain ⟨hn, rfl⟩ := Int.eq_ofNat_of_zero_le (show 0 ≤ hg by have := hfd.h1; omega)
  obtain ⟨sn, rfl⟩ := Int.eq_ofNat_of_zero_le (show 0 ≤ s by have := hfd.s1; omega)
  have w6 : wn ≤ 6 := by have := hfd.w6; omega
  have h6 : hn ≤ 6 := by have := hfd.h6; omega
  have s64 : sn ≤ 64 := by have := hfd.s64; omega
  have hcd : ∀ k, k < n → CdOk ((wn : Int) * hn).toNat (cs.getD k default).c := fun k hk => by
    rw [← cts_getD (by rw [HLN.out]; exact hk)]; exact hfd.cd k (by rw [List.length_map, HLN.out]; exact hk)
  have hmany := hfd.many
  have hbc := fun W (hW : CodsAt W a n cap cs) => bbits_any a n cap _ cs W hW hcd hmany hn6
  obtain ⟨B, hB⟩ : ∃ B, B = pad8 (bcods (cs.map Cd.c)) := ⟨_, rfl⟩
  have hBb : ∀ z ∈ B, z = 0 ∨ z = 1 := by rw [hB]; exact pad8_bit (bcods_bit _)
  have hB8 : B.length % 8 = 0 := by rw [hB]; exact pad8_mod _
  have hBl : B.length ≤ 30000 := by
    rw [hB, pad8_len]
    have h1 := bcods_le hfd.all
    rw [List.length_map, HLN.out] at h1
    have h3 : (5 + 130 * ((wn : Int) * hn).toNat) * n ≤ 4685 * 6 := Nat.mul_le_mul (by omega) hn6
    unfold padn
    omega
  obtain ⟨q, hq⟩ : ∃ q, B.length = 8 * q := ⟨B.length / 8, by omega⟩
  have hq3 : q ≤ 3750 := by omega
  have hpk : pkB wn hn sn (cs.map Cd.c) = [UInt8.ofNat wn, UInt8.ofNat hn, UInt8.ofNat sn, UInt8.ofNat n] ++ octs B q := by
    unfold pkB
    rw [← hB, Int.toNat_natCast, Int.toNat_natCast, Int.toNat_natCast, List.length_map, HLN.out, hq, Nat.mul_div_cancel_left _ (by omega)]
  rw [← hB] at hbc
  have hpe := HPE.out
  rw [if_neg (by simp), hpk, List.length_append, octs_len] at hpe
  have hps := HPS.out
  rw [hpk] at hps
  have e8 : ∀ m : Nat, m < 256 → (UInt8.ofNat m).toNat = m := fun m hm => by rw [UInt8.toNat_ofNat']; exact Nat.mod_eq_of_lt hm
  have hown0 : ∀ W : World, w.heap.size ≤ W.heap.size → OwnBytes (W.alloc (.cells #[.int .u8 wn, .int .u8 hn, .int .u8 sn, .int .u8 n] 5)) w.heap.size (.slice (some ⟨W.heap.size, 0, none⟩) 4 4) ([UInt8.ofNat wn, UInt8.ofNat hn, UInt8.ofNat sn, UInt8.ofNat n] ++ octs B 0) := fun W hW => by
    have := Own.new W w.heap.size 5 #[.int .u8 wn, .int .u8 hn, .int .u8 sn, .int .u8 n] hW (by simp)
    show Own _ _ _ _ (List.map _ [UInt8.ofNat wn, UInt8.ofNat hn, UInt8.ofNat sn, UInt8.ofNat n])
    simp only [List.map_cons, List.map_nil, e8 wn (by omega), e8 hn (by omega), e8 sn (by omega), e8 n (by omega)]
    exact this
  have HBC := Lib.hid hbc
  have HBB := Lib.hid hBb
  have HQ := Lib.hid hq
  have HPE2 := Lib.hid hpe
  have HPS2 := Lib.hid hps
  have HOW0 := Lib.hid hown0
  rw [errv_zero rfl] at HCL
  have u1 : IntKind.u8.wrap (wn : Int) = wn := by unfold IntKind.wrap; simp [IntKind.signed, IntKind.bits]; omega
  have u2 : IntKind.u8.wrap (hn : Int) = hn := by unfold IntKind.wrap; simp [IntKind.signed, IntKind.bits]; omega
  have u3 : IntKind.u8.wrap (sn : Int) = sn := by unfold IntKind.wrap; simp [IntKind.signed, IntKind.bits]; omega
  have u4 : IntKind.u8.wrap (n : Int) = n := by unfold IntKind.wrap; simp [IntKind.signed, IntKind.bits]; omega
  clear hfd hcd hmany hbc hB hBb hB8 hBl hq hpk hpe hps hown0 e8 HPE HPS HE
  go_enter Tryd.func38, Tryd.ntmps38
  go_wp2_with fail
  refine HCL.out.mono ?_
  rintro e w1 ⟨va, vc, ds, rfl, _, _, hb1⟩
  have HB1 := Lib.hid hb1
  clear hb1
  go_wp2_with fail
  clear u1 u2 u3 u4
  have hl1 : Lat w1 (w1.alloc (.cells #[.int .u8 wn, .int .u8 hn, .int .u8 sn, .int .u8 n] 5)) := Lat.alloc _ _
  have how1 := HOW0.out w1 HB1.out.size
  have HL1 := Lib.hid hl1
  have HO1 := Lib.hid how1
  clear hl1 how1
  refine (HBC.out _ (H.out.keep (Lat.trans HB1.out HL1.out))).mono ?_
  rintro e w2 ⟨b, m, c, rfl, hat, hfr, hb2⟩
  have hoff0 : OffV b m (.slice (some ⟨w1.heap.size, 0, none⟩) 4 4) := OffV.fresh hfr (fun k hk => by have := (Own.lt HO1.out k hk).2; exact this)
  have HOFF0 := Lib.hid hoff0
  have hm8 : m = 8 * q := by rw [← HQ.out]; exact hat.len.symm
  have hmc := hat.row.le
  have hcc := hat.row.cap
  unfold maxLen at hcc
  have hm3 : m ≤ 30000 := by omega
  have HM := Lib.hid hm8
  have HO2 := Lib.hid (Own.keep HO1.out hb2)
  have HB2 := Lib.hid (Lat.trans (Lat.trans HB1.out HL1.out) hb2)
  have HAT := Lib.hid hat
  clear hm8 hat hb2 HO1 hfr hoff0
  go_wp2_with fail
  go_loopw [12, 14] (fun v i wx => ∃ I : Nat, I ≤ m ∧ i = .int .i64 I ∧ Hid (∃ k, I = 8 * k ∧ OwnBytes wx w.heap.size v ([UInt8.ofNat wn, UInt8.ofNat hn, UInt8.ofNat sn, UInt8.ofNat n] ++ octs B k) ∧ Lat w wx ∧ IntsAt wx b m c B ∧ OffV b m v)) (fun _ i _ => m - (intOf i).toNat)
  case atStart => exact ⟨0, Nat.zero_le _, rfl, 0, rfl, HO2.out, HB2.out, HAT.out, HOFF0.out⟩
  case round =>
    obtain ⟨I, hI, rfl, hrel⟩ := hrel
    obtain ⟨k, hk, ho, hb, hat, hoff⟩ := hrel.out
    have HK := Lib.hid hk
    have HO := Lib.hid ho
    have HB := Lib.hid hb
    have HAT2 := Lib.hid hat
    have HOFF := Lib.hid hoff
    by_cases hlt : I < m
    · have hI8 : I + 8 ≤ m := by have := HM.out; omega
      obtain ⟨bb, oo, rfl, hcell⟩ := hat.row.at_ (by omega)
      have j1 : (0 : Int) ≤ (I : Int) := by omega
      have j2 : (I : Int) ≤ (I : Int) + 8 := by omega
      have j3 : (I : Int) + 8 ≤ (c : Int) := by omega
      have j4 : I ≤ I + 8 := by omega
      have j5 : I + 8 ≤ c := by omega
      have HCE := Lib.hid hcell
      clear hrel hk ho hb hat hoff hcell
      go_wp2_with fail
      rw [show I + 8 - I = 8 by omega]
      go_loop [15, 53] (fun nv jv => ∃ j : Nat, j ≤ 8 ∧ jv = .int .i64 j ∧ nv = .int .i64 (val (B.drop I) j)) (fun _ jv => 8 - (intOf jv).toNat)
      case atStart => exact ⟨0, by omega, rfl, rfl⟩
      case round =>
        obtain ⟨j, hj, rfl, rfl⟩ := hrel
        have hBd : ∀ z ∈ B.drop I, z = 0 ∨ z = 1 := fun z hz => HBB.out z (List.mem_of_mem_drop hz)
        have hv := val_lt hBd j
        have hv8 : val (B.drop I) j < 256 := Nat.lt_of_lt_of_le hv (pow_le_256 hj)
        obtain ⟨V, hV⟩ : ∃ V, V = val (B.drop I) j := ⟨_, rfl⟩
        rw [← hV] at hv hv8 ⊢
        by_cases hj8 : j < 8
        · have cj := HCE.out (I + j) (by omega)
          rw [← Nat.add_assoc] at cj
          have hz := HBB.out _ (mem_getD B (I + j) (by have := HAT.out.len; omega))
          obtain ⟨cb, hcb, hcc2⟩ : ∃ c : Nat, c < 2 ∧ B.getD (I + j) 0 = c := by rcases hz with h | h; exact ⟨0, by omega, by rw [h]; rfl⟩; exact ⟨1, by omega, by rw [h]; rfl⟩
          rw [hcc2] at cj
          have hst : val (B.drop I) (j + 1) = 2 * V + cb := by
            rw [val, ← hV]
            congr 1
            rw [List.getD_eq_getElem?_getD, List.getElem?_drop, ← List.getD_eq_getElem?_getD, hcc2, Int.toNat_natCast]
          have hor := bits_or_nat (2 * V) cb (by omega) (by omega)
          rw [or_bit V cb hcb, Int.natCast_mul, Int.mul_comm] at hor
          have HST := Lib.hid hst
          have HOR := Lib.hid hor
          have k1 : (j : Int) < 8 := by omega
          clear hBd hv hV hz hcc2 hst hor
          go_wp2_with fail
          go_round
          case rel => exact ⟨j + 1, by omega, by go_num, by rw [HST.out]; exact congrArg _ HOR.out⟩
          case measure => simp [intOf]; omega
        · obtain rfl : j = 8 := by omega
          have hoct : V = oct B k := by rw [hV, HK.out]; rfl
          have u5 : IntKind.u8.wrap (V : Int) = V := by unfold IntKind.wrap; simp [IntKind.signed, IntKind.bits]; omega
          have hst : ([UInt8.ofNat wn, UInt8.ofNat hn, UInt8.ofNat sn, UInt8.ofNat n] ++ octs B k) ++ [UInt8.ofNat V] = [UInt8.ofNat wn, UInt8.ofNat hn, UInt8.ofNat sn, UInt8.ofNat n] ++ octs B (k + 1) := by rw [octs_succ, ← hoct, List.append_assoc]
          have hlen : ([UInt8.ofNat wn, UInt8.ofNat hn, UInt8.ofNat sn, UInt8.ofNat n] ++ octs B k).length < 1000000000000 := by
            rw [List.length_append, octs_len]
            have := HK.out
            simp
            omega
          obtain ⟨L, hL⟩ : ∃ L, L = [UInt8.ofNat wn, UInt8.ofNat hn, UInt8.ofNat sn, UInt8.ofNat n] ++ octs B k := ⟨_, rfl⟩
          have ho := HO.out
          rw [← hL] at hst hlen ho
          have HST := Lib.hid hst
          have HLEN := Lib.hid hlen
          have HOL := Lib.hid ho
          clear hBd hv hV hoct hst hlen hL ho
          go_wp2_with (at_builtin; refine app_u8 wr w _ rfl _ _ rfl _ _ V rfl HOL.out rfl hv8 HLEN.out rfl HB.out ?_)
          intro v2 w4 hown2 hb4 hs4
          rw [HST.out] at hown2
          have hat4 := HAT2.out.stepV (w' := w4) ⟨fun k hk hne => by
            have := hs4.block k hk hne
            exact this, hs4.size, hs4.loc⟩ HOFF.out
          have HO4 := Lib.hid hown2
          have HB4 := Lib.hid hb4
          have HAT4 := Lib.hid hat4
          clear hown2 hb4 hat4 hs4
          go_wp2_with fail
          go_roundw
          case rel => exact ⟨I + 8, by omega, by go_num, k + 1, by have := HK.out; omega, HO4.out, HB4.out, HAT4.out.1, HAT4.out.2⟩
          case measure => simp [intOf]; omega
    · obtain rfl : I = m := by have := HM.out; omega
      have hkq : k = q := by have := HM.out; omega
      rw [hkq] at ho
      have hcv := conv_own ho
      have hlen : ([UInt8.ofNat wn, UInt8.ofNat hn, UInt8.ofNat sn, UInt8.ofNat n] ++ octs B q).length = 4 + q := by rw [List.length_append, octs_len]; rfl
      obtain ⟨a1, c1, rfl, hrow⟩ := Own.slice ho
      obtain ⟨Z, hZ⟩ : ∃ Z, Z = 4 + q := ⟨_, rfl⟩
      rw [List.length_map, hlen, ← hZ] at hcv ⊢
      have hpe : PE = if 120 < Z then 4 else 0 := by rw [HPE2.out, hZ]; rfl
      have HZ := Lib.hid hZ
      clear hZ
      have hps := HPS2.out
      have HCV := Lib.hid hcv
      by_cases h120 : 120 < Z
      · have d1 : decide (120 < (Z : Int)) = true := decide_eq_true (by omega)
        rw [if_pos h120] at hpe
        rw [if_neg (by omega)] at hps
        have E1 := Lib.hid hpe
        have E2 := Lib.hid hps
        clear hrel hk ho hb hat hoff hkq hcv hlen hrow hpe hps h120
        go_wp2_with fail
        go_ret2
        exact ⟨by rw [E1.out, E2.out, errv_pos (by omega)]; rfl, HB.out⟩
      · have d1 : decide (120 < (Z : Int)) = false := decide_eq_false (by omega)
        rw [if_neg h120] at hpe
        rw [if_pos hpe] at hps
        have E1 := Lib.hid hpe
        have E2 := Lib.hid hps
        clear hrel hk ho hb hat hoff hkq hlen hrow hpe hps h120
        go_wp2_with fail
        go_ret2
        exact ⟨by rw [E1.out, E2.out, errv_zero rfl]; rfl, HB.out⟩
end Go.Proofs.YtooepflfofgnnaaDoor

namespace Go.Proofs.YtooepflfofgnnaaDoor
open Go.ChangeShapes Go.WideShapes Go.ChangeAt Go.RowKit

theorem mod_div_pow (N r : Nat) : N % 2 ^ (r + 1) / 2 ^ r = N / 2 ^ r % 2 := by rw [Nat.pow_succ, Nat.mod_mul_right_div_self]
theorem mod_mod_pow (N r : Nat) : N % 2 ^ (r + 1) % 2 ^ r = N % 2 ^ r := by
  rw [Nat.pow_succ]; exact Nat.mod_mod_of_dvd N (Nat.dvd_mul_right _ _)
theorem pow_le_128 {j low : Nat} (h : j ≤ low) (hl : low ≤ 7) : 1 ≤ 2 ^ j ∧ 2 ^ j ≤ 128 :=
  ⟨Nat.one_le_two_pow, by have := Nat.pow_le_pow_right (show 0 < 2 by omega) (show j ≤ 7 by omega); omega⟩

set_option maxHeartbeats 4000000 in
set_option maxRecDepth 100000 in
theorem refRice (a : Option Addr) (n cap : Nat) (zs : List Int) (low : Nat) (w : World) (h : IntsAt w a n cap zs) (hr : ∀ z ∈ zs, -255 ≤ z ∧ z ≤ 255) (hl : low ≤ 7) (hn : n ≤ 100000000) :
    Calls Tryd.prog 68 #[.slice a n cap, .int .i64 low] w fun e w' => ∃ v, e = .returned v ∧ OwnInts w' w.heap.size v (ric zs low n) ∧ Lat w w' := by
  have H := Lib.hid h
  have HR := Lib.hid hr
  have hcap2 := h.row.cap
  have hle2 := h.row.le
  unfold maxLen at hcap2
  clear h hr
  go_enter Tryd.func68, Tryd.ntmps68
  go_wp2_with fail
  go_loopw [5, 6] (fun v i wr => ∃ k : Nat, k ≤ n ∧ i = .int .i64 k ∧ Hid (OwnInts wr w.heap.size v (ric zs low k) ∧ Lat w wr)) (fun _ i _ => n - (intOf i).toNat)
  case atStart => exact ⟨0, Nat.zero_le _, rfl, Own.nil _ _ _, Lat.refl _⟩
  case round =>
    obtain ⟨k, hk, rfl, hrel⟩ := hrel
    by_cases hlt : k < n
    case neg =>
      obtain rfl : k = n := by omega
      go_wp2
      go_ret
      exact ⟨_, rfl, hrel.out⟩
    obtain ⟨b1, o1, rfl, hc1⟩ := (H.out.keep hrel.out.2).row.at_ (by omega)
    have c1 := hc1 k hlt
    have hz := HR.out _ (mem_getD zs k (by rw [H.out.len]; exact hlt))
    obtain ⟨z, hzd⟩ : ∃ z, z = zs.getD k 0 := ⟨_, rfl⟩
    have hst : ric zs low (k + 1) = ric zs low k ++ ric1 (fld z).toNat low := by rw [ric, hzd]
    rw [← hzd] at c1 hz
    have f1 := fld_nonneg z
    have f2 := fld_le z hz.1 hz.2
    obtain ⟨N, hN⟩ := Int.eq_ofNat_of_zero_le f1
    have hN5 : N ≤ 510 := by omega
    rw [hN, Int.toNat_natCast] at hst
    have hlen1 : (ric zs low k).length < 100000000000 := by
      have := ric_len zs low (fun z hz => HR.out z hz) hl k
      omega
    obtain ⟨L1, hL1⟩ : ∃ L, L = ric zs low k := ⟨_, rfl⟩
    rw [← hL1] at hlen1 hst
    have hrl1 := hrel.out.1
    have hrl2 := hrel.out.2
    rw [← hL1] at hrl1
    have HRL1 := Lib.hid hrl1
    have HRL2 := Lib.hid hrl2
    have HST := Lib.hid hst
    have HLEN := Lib.hid hlen1
    have hval : (z < 0 ∧ -(2 * z) - 1 = (N : Int)) ∨ (¬ z < 0 ∧ 2 * z = (N : Int)) := by
      rw [← hN]; unfold fld; split <;> omega
    clear hlen1 hL1 hrl1 hrl2 hrel hst hc1 hzd hN f1 f2
    rcases hval with ⟨hneg, hv⟩ | ⟨hneg, hv⟩
    all_goals
      have HV := Lib.hid hv
      clear hv
      go_wp2_with fail
      rw [HV.out]
      go_loop [8, 9] (fun p b => ∃ j : Nat, j ≤ low ∧ b = .int .i64 j ∧ p = .int .i64 ((2 ^ j : Nat) : Int)) (fun _ b => low - (intOf b).toNat)
      case atStart => exact ⟨0, Nat.zero_le _, rfl, rfl⟩
      case round =>
        obtain ⟨j, hj, rfl, rfl⟩ := hrel
        by_cases hjl : j < low
        · have hp := pow_le_128 hj hl
          have hps : 2 ^ (j + 1) = 2 * 2 ^ j := by rw [Nat.pow_succ]; omega
          obtain ⟨P, hP⟩ : ∃ P, P = 2 ^ j := ⟨_, rfl⟩
          rw [← hP] at hp hps
          rw [← hP]
          have HPS := Lib.hid hps
          clear hP hps
          go_wp2
          go_round
          case rel => exact ⟨j + 1, by omega, by go_num, by rw [HPS.out]; go_num⟩
          case measure => simp [intOf]; omega
        · obtain rfl : j = low := by omega
          have hp := pow_le_128 (Nat.le_refl j) hl
          have hdv : (N : Int) / ((2 ^ j : Nat) : Int) = ((N / 2 ^ j : Nat) : Int) := (Int.natCast_ediv N (2 ^ j)).symm
          have hmd : (N : Int) % ((2 ^ j : Nat) : Int) = ((N % 2 ^ j : Nat) : Int) := (Int.natCast_emod N (2 ^ j)).symm
          have hq : N / 2 ^ j ≤ 510 := Nat.le_trans (Nat.div_le_self _ _) hN5
          have hmm : N % 2 ^ j < 2 ^ j := Nat.mod_lt _ (by omega)
          obtain ⟨P, hP⟩ : ∃ P, P = 2 ^ j := ⟨_, rfl⟩
          obtain ⟨Q, hQ⟩ : ∃ Q, Q = N / 2 ^ j := ⟨_, rfl⟩
          obtain ⟨M, hM⟩ : ∃ M, M = N % 2 ^ j := ⟨_, rfl⟩
          rw [← hQ] at hdv hq
          rw [← hM] at hmd hmm
          rw [← hP] at hp hdv hmd hmm
          rw [← hP]
          have HP := Lib.hid hP
          have HQ := Lib.hid hQ
          have HM := Lib.hid hM
          have HMD := Lib.hid hmd
          clear hP hQ hM hmd
          go_wp2_with fail
          clear hdv
          go_loopw [5, 10] (fun v q wx => ∃ i : Nat, i ≤ Q ∧ q = .int .i64 i ∧ Hid (OwnInts wx w.heap.size v (L1 ++ List.replicate (Q - i) 1) ∧ Lat w wx)) (fun _ q _ => (intOf q).toNat)
          case atStart => exact ⟨Q, Nat.le_refl _, rfl, by rw [Nat.sub_self, List.replicate_zero, List.append_nil]; exact HRL1.out, HRL2.out⟩
          case round =>
            obtain ⟨i, hi, rfl, hrl⟩ := hrel
            cases i with
            | succ i =>
              have hst2 : List.replicate (Q - i) (1 : Int) = List.replicate (Q - (i + 1)) 1 ++ [1] := by
                rw [show Q - i = (Q - (i + 1)) + 1 by omega, List.replicate_succ']
              have hlen2 : (L1 ++ List.replicate (Q - (i + 1)) (1 : Int)).length < 1000000000000 := by
                rw [List.length_append, List.length_replicate]; have := HLEN.out; omega
              have hd1 : (0 : Int) < ((i + 1 : Nat) : Int) := by omega
              have he1 : ((i + 1 : Nat) : Int) - 1 = (i : Int) := by omega
              have HW1 := Lib.hid hrl.out.1
              have HW2 := Lib.hid hrl.out.2
              have HST2 := Lib.hid hst2
              have HLEN2 := Lib.hid hlen2
              have HE1 := Lib.hid he1
              clear hrl hst2 hlen2 he1
              go_wp2_with (at_builtin; refine app_int wr w _ rfl _ _ rfl _ _ _ rfl HW1.out rfl HLEN2.out rfl HW2.out ?_)
              intro v2 w2 hown2 hb2 _
              have HO2 := Lib.hid hown2
              have HB2 := Lib.hid hb2
              clear hown2 hb2
              go_wp2_with fail
              go_roundw
              case rel => exact ⟨i, by omega, rfl, by rw [HST2.out]; first | exact HO2.out | (rw [← List.append_assoc]; exact HO2.out), HB2.out⟩
              case measure => simp [intOf]
            | zero =>
              obtain ⟨L2, hL2⟩ : ∃ L, L = L1 ++ List.replicate Q 1 := ⟨_, rfl⟩
              have hw1 := hrl.out.1
              rw [Nat.sub_zero, ← hL2] at hw1
              have hlen2 : L2.length < 200000000000 := by rw [hL2, List.length_append, List.length_replicate]; have := HLEN.out; omega
              have HW1 := Lib.hid hw1
              have HW2 := Lib.hid hrl.out.2
              have EL2 := Lib.hid hL2
              have HLEN2 := Lib.hid hlen2
              clear hrl hw1 hL2 hlen2
              have hmd := HMD.out
              go_wp2_with (at_builtin; refine app_int wr w _ rfl _ _ rfl _ _ _ rfl HW1.out rfl (by have := HLEN2.out; omega) rfl HW2.out ?_)
              intro v3 w3 hown3 hb3 _
              obtain ⟨L3, hL3⟩ : ∃ L, L = L2 ++ [0] := ⟨_, rfl⟩
              rw [← hL3] at hown3
              have hlen3 : L3.length < 300000000000 := by rw [hL3, List.length_append, List.length_singleton]; have := HLEN2.out; omega
              have EL3 := Lib.hid hL3
              have HLEN3 := Lib.hid hlen3
              have HO3 := Lib.hid hown3
              have HB3 := Lib.hid hb3
              clear hown3 hb3 hL3 hlen3
              go_wp2_with fail
              clear hmd
              go_loopw [5, 7, 8] (fun v nn p wx => ∃ r PP MM : Nat, r ≤ j ∧ p = .int .i64 PP ∧ nn = .int .i64 MM ∧ Hid (PP = 2 ^ r ∧ MM = N % 2 ^ r ∧ OwnInts wx w.heap.size v (L3 ++ (lowb N j).take (j - r)) ∧ Lat w wx)) (fun _ _ p _ => (intOf p).toNat)
              case atStart => exact ⟨j, P, M, Nat.le_refl _, rfl, by rw [HMD.out], HP.out, HM.out, by rw [Nat.sub_self, List.take_zero, List.append_nil]; exact HO3.out, HB3.out⟩
              case round =>
                obtain ⟨r, PP, MM, hr, rfl, rfl, hrl⟩ := hrel
                obtain ⟨e1, e2, hw1, hw2⟩ := hrl.out
                cases r with
                | zero =>
                  have hP1 : PP = 1 := e1
                  have hlt1 : ¬ (1 < PP) := by omega
                  have hd1 : decide (1 < (PP : Int)) = false := decide_eq_false (by omega)
                  rw [Nat.sub_zero, List.take_of_length_le (by rw [lowb_length]; omega)] at hw1
                  have HW1 := Lib.hid hw1
                  have HW2 := Lib.hid hw2
                  clear hP1 hlt1 e1 e2 hw1 hw2 hrl
                  go_wp2_with fail
                  go_roundw
                  case rel => exact ⟨k + 1, by omega, by go_num, by
                    rw [HST.out, ric1, ← HQ.out, show List.replicate Q (1 : Int) ++ 0 :: lowb N j = (List.replicate Q 1 ++ [0]) ++ lowb N j by simp, ← List.append_assoc, ← List.append_assoc, ← EL2.out, ← EL3.out]
                    exact HW1.out, HW2.out⟩
                  case measure => simp [intOf]; omega
                | succ r =>
                  have hpr := pow_le_128 (show r ≤ j by omega) hl
                  have hps : 2 ^ (r + 1) = 2 * 2 ^ r := by rw [Nat.pow_succ]; omega
                  have e3 := mod_div_pow N r
                  have e4 := mod_mod_pow N r
                  rw [← e2] at e3 e4
                  have hmm2 : MM < PP := by rw [e1, e2]; exact Nat.mod_lt _ (by rw [hps]; omega)
                  obtain ⟨D, hD⟩ : ∃ D, D = 2 ^ r := ⟨_, rfl⟩
                  rw [← hD] at hpr hps e3 e4
                  rw [hps] at e1
                  obtain ⟨C, hC⟩ : ∃ C, C = N / D % 2 := ⟨_, rfl⟩
                  obtain ⟨M2, hM2⟩ : ∃ C, C = N % D := ⟨_, rfl⟩
                  rw [← hC] at e3
                  rw [← hM2] at e4
                  have i1 : (PP : Int) / 2 = (D : Int) := by omega
                  have i2 : (MM : Int) / (D : Int) = (C : Int) := by rw [← e3]; exact (Int.natCast_ediv MM D).symm
                  have i3 : (MM : Int) % (D : Int) = (M2 : Int) := by rw [← e4]; exact (Int.natCast_emod MM D).symm
                  have hC2 : C < 2 := by rw [hC]; exact Nat.mod_lt _ (by omega)
                  have hM3 : M2 < D := by rw [hM2]; exact Nat.mod_lt _ (by omega)
                  have hd1 : decide (1 < (PP : Int)) = true := decide_eq_true (by omega)
                  have hPP : PP ≤ 256 := by omega
                  have hDP : D < PP := by omega
                  have hstp : (lowb N j).take (j - r) = (lowb N j).take (j - (r + 1)) ++ [(C : Int)] := by
                    have q1 : j - r = (j - (r + 1)) + 1 := by omega
                    have q2 : j - 1 - (j - (r + 1)) = r := by omega
                    rw [q1, take_snoc _ _ (by rw [lowb_length]; omega), lowb_getD N j _ (by omega), q2, ← hD, ← hC]
                  obtain ⟨L4, hL4⟩ : ∃ L, L = L3 ++ (lowb N j).take (j - (r + 1)) := ⟨_, rfl⟩
                  have hlen4 : L4.length < 1000000000000 := by
                    have := HLEN3.out
                    rw [hL4, List.length_append, List.length_take, lowb_length]
                    omega
                  rw [← hL4] at hw1
                  have HST3 := Lib.hid hstp
                  have HLEN4 := Lib.hid hlen4
                  have EL4 := Lib.hid hL4
                  have HW1 := Lib.hid hw1
                  have HW2 := Lib.hid hw2
                  have HD := Lib.hid hD
                  have HM2 := Lib.hid hM2
                  have HDP := Lib.hid hDP
                  have I3 := Lib.hid i3
                  clear e1 e2 e3 e4 hps hC hM2 hD hstp hlen4 hw1 hw2 hrl hL4 hDP
                  go_wp2_with (at_builtin; refine app_int wr w _ rfl _ _ rfl _ _ _ rfl HW1.out rfl HLEN4.out rfl HW2.out ?_)
                  intro v4 w4 hown4 hb4 _
                  have HO4 := Lib.hid hown4
                  have HB4 := Lib.hid hb4
                  clear hown4 hb4
                  go_wp2_with fail
                  go_roundw
                  case rel => exact ⟨r, D, M2, by omega, rfl, by rw [I3.out], HD.out, by rw [HM2.out, HD.out], by rw [HST3.out, ← List.append_assoc, ← EL4.out]; exact HO4.out, HB4.out⟩
                  case measure => have := HDP.out; simp [intOf]; omega
end Go.Proofs.YtooepflfofgnnaaDoor

namespace Go.Proofs.YtooepflfofgnnaaDoor
open Go.ChangeShapes Go.WideShapes Go.ChangeAt Go.RowKit

theorem refRice_at (a : Option Addr) (n cap : Nat) (zs : List Int) (w : World) (h : IntsAt w a n cap zs) (hr : ∀ z ∈ zs, -255 ≤ z ∧ z ≤ 255) (hn : n ≤ 1000000) :
    Calls Tryd.prog 68 #[.slice a n cap, .int .i64 2] w fun e w' => ∃ b m c, e = .returned (.slice b m c) ∧ IntsAt w' b m c (ricL 2 zs) ∧ Lat w w' := by
  refine (refRice a n cap zs 2 w h hr (by omega) (by omega)).mono ?_
  rintro e w' ⟨v, rfl, ho, hb⟩
  have e1 : ric zs 2 n = ricL 2 zs := by rw [← h.len, ric_all]
  rw [e1] at ho
  obtain ⟨b, c, rfl, hat⟩ := OwnInts.sliceN ho (fun z hz => by rcases ricL_bit 2 zs z hz with h | h <;> omega) rfl
  exact ⟨b, _, c, rfl, hat, hb⟩
theorem two_bits {x : Int} (h1 : -1 ≤ x) (h2 : x ≤ 1) : lowb (x + 1).toNat 2 = [(x + 1) / 2, (x + 1) % 2] := by
  obtain rfl | rfl | rfl : x = -1 ∨ x = 0 ∨ x = 1 := by omega
  · decide
  · decide
  · decide
theorem pad_get (L : List Int) (i : Nat) (h : L.length ≤ i) : (pad8 L).getD i 0 = 0 := by
  unfold pad8
  rw [List.getD_eq_getElem?_getD, List.getElem?_append_right h, List.getElem?_replicate]
  split <;> rfl
theorem pad_get0 (L : List Int) (i : Nat) (h : i < L.length) : (pad8 L).getD i 0 = L.getD i 0 := by
  unfold pad8
  rw [List.getD_eq_getElem?_getD, List.getElem?_append_left h, ← List.getD_eq_getElem?_getD]

set_option maxHeartbeats 4000000 in
set_option maxRecDepth 100000 in
theorem refBytes (wd hg s : Int) (a : Option Addr) (n cap : Nat) (cs : List Cd) (w : World) (h : CodsAt w a n cap cs) :
    Calls Tryd.prog 37 #[.int .i64 wd, .int .i64 hg, .int .i64 s, .slice a n cap] w fun e w' => e = .returned (.tuple #[.string (pkS wd hg s (cs.map Cd.c)), .int .i64 (pkE wd hg s (cs.map Cd.c))]) ∧ Lat w w' := by
  have hl := h.len
  obtain ⟨E, hE⟩ : ∃ E, E = fdE wd hg s (cs.map Cd.c) := ⟨_, rfl⟩
  obtain ⟨PE, hPE⟩ : ∃ E, E = pkE wd hg s (cs.map Cd.c) := ⟨_, rfl⟩
  obtain ⟨PS, hPS⟩ : ∃ E, E = pkS wd hg s (cs.map Cd.c) := ⟨_, rfl⟩
  have hpe : PE = if E ≠ 0 then E else if 120 < (pkB wd hg s (cs.map Cd.c)).length then 4 else 0 := by rw [hPE, hE]; rfl
  have hps : PS = if PE = 0 then S (pkB wd hg s (cs.map Cd.c)) else .empty := by rw [hPS, hPE]; rfl
  rw [← hPE, ← hPS]
  have hcall := refSeen wd hg s a n cap cs w h
  rw [← hE] at hcall
  have HCL := Lib.hid hcall
  have HE := Lib.hid hE
  have HPE := Lib.hid hpe
  have HPS := Lib.hid hps
  have HLN := Lib.hid hl
  have H := Lib.hid h
  clear hl hE hPE hPS hpe hps hcall h
  by_cases hE0 : E = 0
  case neg =>
    have e1 : PE = E := by rw [HPE.out, if_pos hE0]
    have e2 : PS = .empty := by rw [HPS.out, if_neg (by rw [e1]; exact hE0)]
    have t0 : ((E : Int) != 0) = true := by rw [bne_iff_ne]; omega
    rw [e1, e2]
    clear e1 e2 hE0
    go_enter Tryd.func37, Tryd.ntmps37
    go_wp2_with fail
    refine HCL.out.mono ?_
    rintro e w1 ⟨va, vc, ds, rfl, _, _, hb1⟩
    have HB1 := Lib.hid hb1
    clear hb1
    go_wp2_with fail
    go_ret2
    exact ⟨rfl, HB1.out⟩
  subst hE0
  have hfd := fd_ok HE.out.symm
  have hn1 : 1 ≤ n := by have := hfd.n1; rw [List.length_map, HLN.out] at this; exact this
  have hn6 : n ≤ 6 := by have := hfd.n6; rw [List.length_map, HLN.out] at this; exact this
  obtain ⟨wn, rfl⟩ := Int.eq_ofNat_of_zero_le (show 0 ≤ wd by have := hfd.w1; omega)
  obtain ⟨hn, rfl⟩ := Int.eq_ofNat_of_zero_le (show 0 ≤ hg by have := hfd.h1; omega)
  obtain ⟨sn, rfl⟩ := Int.eq_ofNat_of_zero_le (show 0 ≤ s by have := hfd.s1; omega)
  have w6 : wn ≤ 6 := by have := hfd.w6; omega
  have h6 : hn ≤ 6 := by have := hfd.h6; omega
  have s64 : sn ≤ 64 := by have := hfd.s64; omega
  have hmany := hfd.many
  obtain ⟨many, hmm⟩ : ∃ m, m = ((wn : Int) * hn).toNat := ⟨_, rfl⟩
  have hall : ∀ c ∈ cs.map Cd.c, CdOk many c := by rw [hmm]; exact hfd.all
  rw [← hmm] at hmany
  have hk : ∀ k, k < n → CdOk many (cs.getD k default).c := fun k hk => by
    rw [← cts_getD (by rw [HLN.out]; exact hk), hmm]; exact hfd.cd k (by rw [List.length_map, HLN.out]; exact hk)
  have hlen : ∀ k, (bcods ((cs.map Cd.c).take k)).length ≤ 28110 := fun k => by
    have h1 := bcods_le (fun c hc => hall c (List.mem_of_mem_take hc) : ∀ c ∈ (cs.map Cd.c).take k, CdOk many c)
    have h2 : ((cs.map Cd.c).take k).length ≤ 6 := by rw [List.length_take, List.length_map, HLN.out]; omega
    have h3 : (5 + 130 * many) * ((cs.map Cd.c).take k).length ≤ 4685 * 6 := Nat.mul_le_mul (by omega) h2
    omega
  have hstp : ∀ k, k < n → bcods ((cs.map Cd.c).take (k + 1)) = bcods ((cs.map Cd.c).take k) ++ bcod (cs.getD k default).c := fun k hk => by
    rw [bcods_take (by rw [List.length_map, HLN.out]; exact hk), cts_getD (by rw [HLN.out]; exact hk)]
  have hfin : (cs.map Cd.c).take n = cs.map Cd.c := List.take_of_length_le (by rw [List.length_map, HLN.out]; exact Nat.le_refl _)
  have hpk : pkB wn hn sn (cs.map Cd.c) = [UInt8.ofNat wn, UInt8.ofNat hn, UInt8.ofNat sn, UInt8.ofNat n] ++ octs (pad8 (bcods (cs.map Cd.c))) ((pad8 (bcods (cs.map Cd.c))).length / 8) := by
    unfold pkB
    rw [Int.toNat_natCast, Int.toNat_natCast, Int.toNat_natCast, List.length_map, HLN.out]
  have hpe := HPE.out
  rw [if_neg (by simp), hpk, List.length_append, octs_len] at hpe
  have hps := HPS.out
  rw [hpk] at hps
  have e8 : ∀ m : Nat, m < 256 → (UInt8.ofNat m).toNat = m := fun m hm => by rw [UInt8.toNat_ofNat']; exact Nat.mod_eq_of_lt hm
  have hown0 : ∀ (W : World) (B : List Int), w.heap.size ≤ W.heap.size → OwnBytes (W.alloc (.cells #[.int .u8 wn, .int .u8 hn, .int .u8 sn, .int .u8 n] 5)) w.heap.size (.slice (some ⟨W.heap.size, 0, none⟩) 4 4) ([UInt8.ofNat wn, UInt8.ofNat hn, UInt8.ofNat sn, UInt8.ofNat n] ++ octs B 0) := fun W B hW => by
    have := Own.new W w.heap.size 5 #[.int .u8 wn, .int .u8 hn, .int .u8 sn, .int .u8 n] hW (by simp)
    show Own _ _ _ _ (List.map _ [UInt8.ofNat wn, UInt8.ofNat hn, UInt8.ofNat sn, UInt8.ofNat n])
    simp only [List.map_cons, List.map_nil, e8 wn (by omega), e8 hn (by omega), e8 sn (by omega), e8 n (by omega)]
    exact this
  have HPE2 := Lib.hid hpe
  have HPS2 := Lib.hid hps
  have HOW0 := Lib.hid hown0
  have HK := Lib.hid hk
  have HLEN := Lib.hid hlen
  have HSTP := Lib.hid hstp
  have HFIN := Lib.hid hfin
  have u1 : IntKind.u8.wrap (wn : Int) = wn := by unfold IntKind.wrap; simp [IntKind.signed, IntKind.bits]; omega
  have u2 : IntKind.u8.wrap (hn : Int) = hn := by unfold IntKind.wrap; simp [IntKind.signed, IntKind.bits]; omega
  have u3 : IntKind.u8.wrap (sn : Int) = sn := by unfold IntKind.wrap; simp [IntKind.signed, IntKind.bits]; omega
  have u4 : IntKind.u8.wrap (n : Int) = n := by unfold IntKind.wrap; simp [IntKind.signed, IntKind.bits]; omega
  have U1 := Lib.hid u1
  have U2 := Lib.hid u2
  have U3 := Lib.hid u3
  have U4 := Lib.hid u4
  clear hfd hall hmm hk hlen hstp hfin hpk hpe hps hown0 e8 HPE HPS HE u1 u2 u3 u4
  go_enter Tryd.func37, Tryd.ntmps37
  go_wp2_with fail
  refine HCL.out.mono ?_
  rintro e w1 ⟨va, vc, ds, rfl, _, _, hb1⟩
  have HB1 := Lib.hid hb1
  clear hb1 HCL
  go_wp2_with fail
  go_loopw [12, 13] (fun v i wx => ∃ k : Nat, k ≤ n ∧ i = .int .i64 k ∧ Hid (OwnInts wx w.heap.size v (bcods ((cs.map Cd.c).take k)) ∧ Lat w wx)) (fun _ i _ => n - (intOf i).toNat)
  case atStart => exact ⟨0, Nat.zero_le _, rfl, Own.nil _ _ _, HB1.out⟩
  case round =>
    obtain ⟨k, hk, rfl, hrel⟩ := hrel
    obtain ⟨ho, hb⟩ := hrel.out
    have hle := HLEN.out k
    obtain ⟨L, hL⟩ : ∃ L, L = bcods ((cs.map Cd.c).take k) := ⟨_, rfl⟩
    rw [← hL] at ho hle
    have HO := Lib.hid ho
    have HB := Lib.hid hb
    have HLE := Lib.hid hle
    have HL := Lib.hid hL
    clear hrel ho hb hle hL
    by_cases hlt : k < n
    · obtain ⟨b1, o1, rfl, _, hcc⟩ := cods_at H.out (by omega)
      obtain ⟨y0, y1, y2, y3, yi⟩ := hcc k hlt
      have hok := HK.out k hlt
      have hst := HSTP.out k hlt
      rw [← HL.out] at hst
      obtain ⟨⟨⟨al, x, y, rs⟩, ra, rn, rc⟩, hq⟩ : ∃ q, q = cs.getD k default := ⟨_, rfl⟩
      rw [← hq] at y0 y1 y2 y3 yi hok hst
      change w.cell? ⟨b1, o1 + k * 4, none⟩ = some (.bool al) at y0
      change w.cell? ⟨b1, o1 + k * 4 + 1, none⟩ = some (.int .i64 x) at y1
      change w.cell? ⟨b1, o1 + k * 4 + 2, none⟩ = some (.int .i64 y) at y2
      change w.cell? ⟨b1, o1 + k * 4 + 3, none⟩ = some (.slice ra rn rc) at y3
      change IntsAt w ra rn rc rs at yi
      change CdOk many ⟨al, x, y, rs⟩ at hok
      have z0 := HB.out.cell_at y0
      have z1 := HB.out.cell_at y1
      have z2 := HB.out.cell_at y2
      have hrl : rs.length = many := hok.len
      have hrb : ∀ z ∈ rs, -255 ≤ z ∧ z ≤ 255 := hok.bd
      have hrn : rn ≤ 36 := by have := yi.len; omega
      have hrll := ricL_le hrb
      have hmv : al = false → -1 ≤ x ∧ x ≤ 1 ∧ -1 ≤ y ∧ y ≤ 1 := fun e => hok.mv e
      have HMV := Lib.hid hmv
      have HI0 := Lib.hid yi
      have HRB := Lib.hid hrb
      have HRL := Lib.hid (show (ricL 2 rs).length ≤ 4680 by rw [hrl] at hrll; omega)
      have HST := Lib.hid hst
      have HY3 := Lib.hid y3
      clear y0 y1 y2 y3 yi hcc hok hst hrl hrb hrll hq hmv
      go_upto_if 41 with fail
      go_cut [12] (fun v wx => Hid (OwnInts wx w.heap.size v (L ++ (if al = true then [1] else 0 :: (lowb (x + 1).toNat 2 ++ lowb (y + 1).toNat 2))) ∧ Lat w wx))
      case first =>
        cases al with
        | true =>
          go_wp2_with (at_builtin; refine app_int wr w _ rfl _ _ rfl _ _ _ rfl HO.out rfl (by have := HLE.out; omega) rfl HB.out ?_)
          intro v2 w2 hown2 hb2 hs2
          have HO2 := Lib.hid hown2
          have HB2 := Lib.hid hb2
          clear hown2 hb2 hs2 z0 z1 z2
          go_wp2_with fail
          go_meet
          case rel => exact ⟨by rw [if_pos trivial]; exact HO2.out, HB2.out⟩
        | false =>
          obtain ⟨x1, x2, yy1, yy2⟩ := HMV.out rfl
          have f1 : 0 ≤ x + 1 := by omega
          have f2 : 0 ≤ y + 1 := by omega
          obtain ⟨W5, hW5⟩ : ∃ W, W = wr.alloc (.cells #[.int .i64 0, .int .i64 ((x + 1) / 2), .int .i64 ((x + 1) % 2), .int .i64 ((y + 1) / 2), .int .i64 ((y + 1) % 2)] 3) := ⟨_, rfl⟩
          have hl5 : Lat wr W5 := by rw [hW5]; exact Lat.alloc _ _
          have hat5 : IntsAt W5 (some ⟨wr.heap.size, 0, none⟩) 5 5 [0, (x + 1) / 2, (x + 1) % 2, (y + 1) / 2, (y + 1) % 2] := by
            rw [hW5]
            exact ints_new wr [0, (x + 1) / 2, (x + 1) % 2, (y + 1) / 2, (y + 1) % 2] 3 (by simp) (by
              intro z hz
              simp only [List.mem_cons, List.not_mem_nil, or_false] at hz
              rcases hz with rfl | rfl | rfl | rfl | rfl <;> omega)
          have e5 : [0, (x + 1) / 2, (x + 1) % 2, (y + 1) / 2, (y + 1) % 2] = 0 :: (lowb (x + 1).toNat 2 ++ lowb (y + 1).toNat 2) := by rw [two_bits x1 x2, two_bits yy1 yy2]; rfl
          have HAT5 := Lib.hid hat5
          have HO5 := Lib.hid (Own.keep HO.out hl5)
          have HB5 := Lib.hid (Lat.trans HB.out hl5)
          have HE5 := Lib.hid e5
          clear hl5 hat5 e5
          go_wp2_with (at_builtin; rw [← hW5]; refine app_ints W5 w _ rfl _ _ rfl _ _ _ rfl HO5.out _ _ _ rfl HAT5.out (by have := HLE.out; omega) rfl HB5.out ?_)
          intro v2 w2 hown2 hb2 hs2
          have HO2 := Lib.hid hown2
          have HB2 := Lib.hid hb2
          clear hown2 hb2 hs2 z0 z1 z2 hW5
          go_wp2_with fail
          go_meet
          case rel => exact ⟨by rw [if_neg (by simp), ← HE5.out]; exact HO2.out, HB2.out⟩
      case rest =>
      obtain ⟨hc1, hc2⟩ := hcut.out
      obtain ⟨L2, hL2⟩ : ∃ K, K = L ++ (if al = true then [1] else 0 :: (lowb (x + 1).toNat 2 ++ lowb (y + 1).toNat 2)) := ⟨_, rfl⟩
      rw [← hL2] at hc1
      have hle2 : L2.length ≤ 28200 := by
        rw [hL2, List.length_append]
        have := HLE.out
        split
        · rw [List.length_singleton]; omega
        · rw [List.length_cons, List.length_append, lowb_length, lowb_length]; omega
      have HO2 := Lib.hid hc1
      have HB2 := Lib.hid hc2
      have HLE2 := Lib.hid hle2
      have HL2 := Lib.hid hL2
      clear hcut hc1 hc2 hL2 hle2 z0 z1 z2
      generalize wc = w2 at *
      have z3 := HB2.out.cell_at HY3.out
      go_wp2_with fail
      refine (refRice_at ra rn rc rs w2 (HI0.out.keep HB2.out) HRB.out (by omega)).mono ?_
      rintro e w3 ⟨a3, m3, c3, rfl, hat3, hb3⟩
      have hm3 : m3 ≤ 4680 := by have := hat3.len; have := HRL.out; omega
      have HAT3 := Lib.hid hat3
      have HO3 := Lib.hid (Own.keep HO2.out hb3)
      have HB3 := Lib.hid (Lat.trans HB2.out hb3)
      clear hat3 hb3 z3
      go_wp2_with (at_builtin; refine app_ints w3 w _ rfl _ _ rfl _ _ _ rfl HO3.out _ _ _ rfl HAT3.out (by have := HLE2.out; omega) rfl HB3.out ?_)
      intro v4 w4 hown4 hb4 hs4
      have hfin : L2 ++ ricL 2 rs = bcods ((cs.map Cd.c).take (k + 1)) := by
        rw [HST.out, HL2.out]; unfold bcod; rw [List.append_assoc]
      rw [hfin] at hown4
      have HO4 := Lib.hid hown4
      have HB4 := Lib.hid hb4
      clear hown4 hb4 hs4 hfin
      go_wp2_with fail
      go_roundw
      case rel => exact ⟨k + 1, by omega, by go_num, HO4.out, HB4.out⟩
      case measure => simp [intOf]; omega
    · obtain rfl : n = k := by omega
      obtain ⟨B, hB⟩ : ∃ B, B = pad8 L := ⟨_, rfl⟩
      have hLf : L = bcods (cs.map Cd.c) := by rw [HL.out, HFIN.out]
      have hLb : ∀ z ∈ L, z = 0 ∨ z = 1 := by rw [hLf]; exact bcods_bit _
      have hBb : ∀ z ∈ B, z = 0 ∨ z = 1 := by rw [hB]; exact pad8_bit hLb
      have hB8 : B.length % 8 = 0 := by rw [hB]; exact pad8_mod _
      obtain ⟨M, hM⟩ : ∃ M, L.length = M := ⟨_, rfl⟩
      have hM2 : M ≤ 28110 := by rw [← hM]; exact HLE.out
      have hBM : B.length = M + padn M := by rw [hB, pad8_len, hM]
      obtain ⟨q, hq⟩ : ∃ q, B.length = 8 * q := ⟨B.length / 8, by omega⟩
      have hpd : padn M < 8 := by unfold padn; omega
      have hge : ∀ i, M ≤ i → B.getD i 0 = 0 := fun i hi => by rw [hB]; exact pad_get L i (by omega)
      have hlt2 : ∀ i, i < M → B.getD i 0 = L.getD i 0 := fun i hi => by rw [hB]; exact pad_get0 L i (by omega)
      have hpe := HPE2.out
      have hps := HPS2.out
      rw [← hLf, ← hB, hq, Nat.mul_div_cancel_left _ (by omega)] at hpe hps
      obtain ⟨a0, c0, rfl, hat0⟩ := OwnInts.sliceN HO.out (fun z hz => by rcases hLb z hz with e | e <;> omega) hM
      have HAT0 := Lib.hid hat0
      have HBB := Lib.hid hBb
      have HQ := Lib.hid (show 8 * q = M + padn M by omega)
      have HPD := Lib.hid hpd
      have HGE := Lib.hid hge
      have HLT := Lib.hid hlt2
      have HPE3 := Lib.hid hpe
      have HPS3 := Lib.hid hps
      have HLb := Lib.hid hLb
      have HLM := Lib.hid hM
      clear hB hLf hLb hBb hB8 hM hBM hq hpd hge hlt2 hpe hps hat0 HPE2 HPS2 HL HFIN HSTP HLEN HK HLE hlt hk
      have u1 : IntKind.u8.wrap (wn : Int) = wn := U1.out
      have u2 : IntKind.u8.wrap (hn : Int) = hn := U2.out
      have u3 : IntKind.u8.wrap (sn : Int) = sn := U3.out
      have u4 : IntKind.u8.wrap (n : Int) = n := U4.out
      have hl1 : Lat wr (wr.alloc (.cells #[.int .u8 wn, .int .u8 hn, .int .u8 sn, .int .u8 n] 5)) := Lat.alloc _ _
      have how1 := HOW0.out wr B HB.out.size
      have hat1 := HAT0.out.keep hl1
      have hoff : OffV a0 M (.slice (some ⟨wr.heap.size, 0, none⟩) 4 4) := fun hn0 b o ha e => by
        have h1 := HAT0.out.lt hn0 ha
        simp [Value.ownBlock] at e
        omega
      have HB2 := Lib.hid (Lat.trans HB.out hl1)
      have HO2 := Lib.hid how1
      have HAT1 := Lib.hid hat1
      have HOFF0 := Lib.hid hoff
      clear hl1 how1 hat1 hoff HO HB HAT0
      go_wp2_with fail
      clear u1 u2 u3 u4
      go_loopw [16, 17] (fun v i wx => ∃ I : Nat, I ≤ M + 7 ∧ i = .int .i64 I ∧ Hid (∃ k, I = 8 * k ∧ I ≤ 8 * q ∧ OwnBytes wx w.heap.size v ([UInt8.ofNat wn, UInt8.ofNat hn, UInt8.ofNat sn, UInt8.ofNat n] ++ octs B k) ∧ Lat w wx ∧ IntsAt wx a0 M c0 L ∧ OffV a0 M v)) (fun _ i _ => M + 7 - (intOf i).toNat)
      case atStart => exact ⟨0, Nat.zero_le _, rfl, 0, rfl, Nat.zero_le _, HO2.out, HB2.out, HAT1.out, HOFF0.out⟩
      case round =>
        obtain ⟨I, hI, rfl, hrel⟩ := hrel
        obtain ⟨k, hk, hkq, ho, hb, hat, hoff⟩ := hrel.out
        have HK := Lib.hid hk
        have HKQ := Lib.hid hkq
        have HO := Lib.hid ho
        have HB := Lib.hid hb
        have HAT2 := Lib.hid hat
        have HOFF := Lib.hid hoff
        by_cases hlt : I < M
        · have hI8 : I + 8 ≤ M + 7 := by have := HQ.out; have := HPD.out; omega
          have hI9 : I + 8 ≤ 8 * q := by have := HQ.out; omega
          obtain ⟨bb, oo, rfl, hcell⟩ := hat.row.at_ (by omega)
          have HCE := Lib.hid hcell
          clear hrel hk hkq ho hb hat hoff hcell
          go_wp2_with fail
          go_loop [18, 19] (fun nv jv => ∃ j : Nat, j ≤ 8 ∧ jv = .int .i64 ((I + j : Nat) : Int) ∧ nv = .int .i64 (val (B.drop I) j)) (fun _ jv => I + 8 - (intOf jv).toNat)
          case atStart => exact ⟨0, by omega, rfl, rfl⟩
          case round =>
            obtain ⟨j, hj, rfl, rfl⟩ := hrel
            have hBd : ∀ z ∈ B.drop I, z = 0 ∨ z = 1 := fun z hz => HBB.out z (List.mem_of_mem_drop hz)
            have hv := val_lt hBd j
            have hv8 : val (B.drop I) j < 256 := Nat.lt_of_lt_of_le hv (pow_le_256 hj)
            obtain ⟨V, hV⟩ : ∃ V, V = val (B.drop I) j := ⟨_, rfl⟩
            rw [← hV] at hv hv8 ⊢
            obtain ⟨J, hJ⟩ : ∃ J, J = I + j := ⟨_, rfl⟩
            rw [← hJ]
            by_cases hj8 : j < 8
            · have hst : val (B.drop I) (j + 1) = 2 * V + (B.getD J 0).toNat := by
                rw [val, ← hV, hJ]
                congr 1
                rw [List.getD_eq_getElem?_getD, List.getElem?_drop, ← List.getD_eq_getElem?_getD]
              have k1 : (J : Int) < (I : Int) + 8 := by omega
              have k2 : decide ((J : Int) < (I : Int) + 8) = true := decide_eq_true k1
              by_cases hjm : J < M
              · have cj := HCE.out J hjm
                have hz := HLb.out _ (mem_getD L J (by have := HLM.out; omega))
                rw [HLT.out J hjm] at hst
                obtain ⟨cb, hcb, hcc2⟩ : ∃ c : Nat, c < 2 ∧ L.getD J 0 = c := by rcases hz with h | h; exact ⟨0, by omega, by rw [h]; rfl⟩; exact ⟨1, by omega, by rw [h]; rfl⟩
                rw [hcc2] at cj
                rw [hcc2, Int.toNat_natCast] at hst
                have HST := Lib.hid hst
                have HJ := Lib.hid hJ
                clear hBd hv hV hz hcc2 hst hJ
                go_wp2_with fail
                go_round
                case rel => exact ⟨j + 1, by omega, by rw [HJ.out]; go_num, by rw [HST.out]; go_num⟩
                case measure => have := HJ.out; simp [intOf]; omega
              · rw [HGE.out J (by omega)] at hst
                have HST := Lib.hid hst
                have HJ := Lib.hid hJ
                clear hBd hv hV hst hJ
                go_wp2_with fail
                go_round
                case rel => exact ⟨j + 1, by omega, by rw [HJ.out]; go_num, by rw [HST.out]; go_num⟩
                case measure => have := HJ.out; simp [intOf]; omega
            · obtain rfl : j = 8 := by omega
              have k2 : decide ((J : Int) < (I : Int) + 8) = false := decide_eq_false (by omega)
              have hoct : V = oct B k := by rw [hV, HK.out]; rfl
              have u5 : IntKind.u8.wrap (V : Int) = V := by unfold IntKind.wrap; simp [IntKind.signed, IntKind.bits]; omega
              have hst : ([UInt8.ofNat wn, UInt8.ofNat hn, UInt8.ofNat sn, UInt8.ofNat n] ++ octs B k) ++ [UInt8.ofNat V] = [UInt8.ofNat wn, UInt8.ofNat hn, UInt8.ofNat sn, UInt8.ofNat n] ++ octs B (k + 1) := by rw [octs_succ, ← hoct, List.append_assoc]
              have hlen : ([UInt8.ofNat wn, UInt8.ofNat hn, UInt8.ofNat sn, UInt8.ofNat n] ++ octs B k).length < 1000000000000 := by
                rw [List.length_append, octs_len]
                have := HK.out
                simp
                omega
              obtain ⟨LL, hLL⟩ : ∃ L, L = [UInt8.ofNat wn, UInt8.ofNat hn, UInt8.ofNat sn, UInt8.ofNat n] ++ octs B k := ⟨_, rfl⟩
              have ho := HO.out
              rw [← hLL] at hst hlen ho
              have HST := Lib.hid hst
              have HLEN := Lib.hid hlen
              have HOL := Lib.hid ho
              clear hBd hv hV hoct hst hlen hLL ho hJ
              go_wp2_with (at_builtin; refine app_u8 wr w _ rfl _ _ rfl _ _ V rfl HOL.out rfl hv8 HLEN.out rfl HB.out ?_)
              intro v2 w4 hown2 hb4 hs4
              rw [HST.out] at hown2
              have hat4 := HAT2.out.stepV (w' := w4) ⟨fun k hk hne => by
                have := hs4.block k hk hne
                exact this, hs4.size, hs4.loc⟩ HOFF.out
              have HO4 := Lib.hid hown2
              have HB4 := Lib.hid hb4
              have HAT4 := Lib.hid hat4
              clear hown2 hb4 hat4 hs4
              go_wp2_with fail
              go_roundw
              case rel => exact ⟨I + 8, by omega, by go_num, k + 1, by have := HK.out; omega, hI9, HO4.out, HB4.out, HAT4.out.1, HAT4.out.2⟩
              case measure => simp [intOf]; omega
        · have hkq2 : k = q := by have := HQ.out; have := HPD.out; omega
          rw [hkq2] at ho
          have hcv := conv_own ho
          have hlen : ([UInt8.ofNat wn, UInt8.ofNat hn, UInt8.ofNat sn, UInt8.ofNat n] ++ octs B q).length = 4 + q := by rw [List.length_append, octs_len]; rfl
          obtain ⟨a1, c1, rfl, hrow⟩ := Own.slice ho
          obtain ⟨Z, hZ⟩ : ∃ Z, Z = 4 + q := ⟨_, rfl⟩
          rw [List.length_map, hlen, ← hZ] at hcv ⊢
          have hpe : PE = if 120 < Z then 4 else 0 := by rw [HPE3.out, hZ]; rfl
          have hps := HPS3.out
          have HCV := Lib.hid hcv
          have HB9 := Lib.hid hb
          have k0 : decide ((I : Int) < (M : Int)) = false := decide_eq_false (by omega)
          by_cases h120 : 120 < Z
          · have d1 : decide (120 < (Z : Int)) = true := decide_eq_true (by omega)
            rw [if_pos h120] at hpe
            rw [if_neg (by omega)] at hps
            have E1 := Lib.hid hpe
            have E2 := Lib.hid hps
            clear hrel hk hkq ho hb hat hoff hkq2 hcv hlen hrow hpe hps h120 hZ
            go_wp2_with fail
            go_ret2
            exact ⟨by rw [E1.out, E2.out]; rfl, HB9.out⟩
          · have d1 : decide (120 < (Z : Int)) = false := decide_eq_false (by omega)
            rw [if_neg h120] at hpe
            rw [if_pos hpe] at hps
            have E1 := Lib.hid hpe
            have E2 := Lib.hid hps
            clear hrel hk hkq ho hb hat hoff hkq2 hlen hrow hpe hps h120 hZ
            go_wp2_with fail
            go_ret2
            exact ⟨by rw [E1.out, E2.out]; rfl, HB9.out⟩
end Go.Proofs.YtooepflfofgnnaaDoor

namespace Go.Proofs.YtooepflfofgnnaaDoor
open Go.ChangeShapes Go.WideShapes Go.ChangeAt Go.RowKit

structure RdR (w : World) (g : Nat) (a : Option Addr) (n cap p : Nat) (zs : List Int) (bad : Bool) : Prop where
  c0 : w.cell? ⟨g, 0, none⟩ = some (.slice a n cap)
  c1 : w.cell? ⟨g, 1, none⟩ = some (.int .i64 p)
  c2 : w.cell? ⟨g, 2, none⟩ = some (.bool bad)
  f1 : w.frozen? ⟨g, 1, none⟩ = false
  f2 : w.frozen? ⟨g, 2, none⟩ = false
  ints : IntsAt w a n cap zs
  far : n ≠ 0 → ∀ b o, a = some ⟨b, o, none⟩ → b ≠ g
  le : p ≤ n
theorem RdR.set {w : World} {g : Nat} {a : Option Addr} {n cap p : Nat} {zs : List Int} {bad : Bool} (h : RdR w g a n cap p zs bad) {q : Nat} {v : Int} (hq : q ≤ n) (hv : v = q) : RdR (w.setCell ⟨g, 1, none⟩ (.int .i64 v)) g a n cap q zs bad := by
  subst hv
  refine ⟨?_, World.cell?_setCell_same _ _ _ h.c1, ?_, by rw [World.frozen?_setCell]; exact h.f1, by rw [World.frozen?_setCell]; exact h.f2, h.ints.only (Only.set w ⟨g, 1, none⟩ _) h.far, h.far, hq⟩
  · rw [World.cell?_setCell_other _ _ _ _ (by simp)]; exact h.c0
  · rw [World.cell?_setCell_other _ _ _ _ (by simp)]; exact h.c2
theorem RdR.setBad {w : World} {g : Nat} {a : Option Addr} {n cap p : Nat} {zs : List Int} {bad : Bool} (h : RdR w g a n cap p zs bad) (b : Bool) : RdR (w.setCell ⟨g, 2, none⟩ (.bool b)) g a n cap p zs b := by
  refine ⟨?_, ?_, World.cell?_setCell_same _ _ _ h.c2, by rw [World.frozen?_setCell]; exact h.f1, by rw [World.frozen?_setCell]; exact h.f2, h.ints.only (Only.set w ⟨g, 2, none⟩ _) h.far, h.far, h.le⟩
  · rw [World.cell?_setCell_other _ _ _ _ (by simp)]; exact h.c0
  · rw [World.cell?_setCell_other _ _ _ _ (by simp)]; exact h.c1
theorem RdR.lt {w : World} {g : Nat} {a : Option Addr} {n cap p : Nat} {zs : List Int} {bad : Bool} (h : RdR w g a n cap p zs bad) : g < w.heap.size := World.block_lt_of_cell? _ _ h.c0
theorem RdR.keep {w w' : World} {g : Nat} {a : Option Addr} {n cap p : Nat} {zs : List Int} {bad : Bool} (h : RdR w g a n cap p zs bad) (hb : Lat w w') : RdR w' g a n cap p zs bad :=
  ⟨hb.cell_at h.c0, hb.cell_at h.c1, hb.cell_at h.c2, hb.free_at h.lt h.f1, hb.free_at h.lt h.f2, h.ints.keep hb, h.far, h.le⟩
theorem RdR.below {w w1 w2 : World} {g : Nat} {a : Option Addr} {n cap p q : Nat} {zs : List Int} {bad bad1 : Bool} (h0 : RdR w g a n cap p zs bad) (h1 : RdR w1 g a n cap q zs bad1) (ho : But g w w1) (hb : Below w.heap.size w1 w2) : RdR w2 g a n cap q zs bad1 := by
  have hl := h0.lt
  exact ⟨by rw [hb.cell hl]; exact h1.c0, by rw [hb.cell hl]; exact h1.c1, by rw [hb.cell hl]; exact h1.c2, by rw [hb.frozen hl]; exact h1.f1, by rw [hb.frozen hl]; exact h1.f2, h0.ints.but (ho.below hb) h0.far, h0.far, h1.le⟩

set_option maxHeartbeats 1000000 in
theorem sbit_yes (w : World) (g : Nat) (a : Option Addr) (n cap p : Nat) (zs : List Int) (bad : Bool) (h : RdR w g a n cap p zs bad) (hp : p < n) :
    Calls Tryd.prog 71 #[.pointer (some ⟨g, 0, none⟩)] w fun e w' => e = .returned (.int .i64 (zs.getD p 0)) ∧ RdR w' g a n cap (p + 1) zs bad ∧ Only g w w' := by
  have c0 := h.c0
  have c1 := h.c1
  have f1 := h.f1
  have hcap := h.ints.row.cap
  have hle := h.ints.row.le
  unfold maxLen at hcap
  have d1 : decide ((n : Int) ≤ (p : Int)) = false := decide_eq_false (by omega)
  obtain ⟨b1, o1, rfl, hc1⟩ := h.ints.row.at_ (by omega)
  have k1 := hc1 p hp
  have hf := h.far (by omega) b1 o1 rfl
  obtain ⟨z, hz⟩ : ∃ z, z = zs.getD p 0 := ⟨_, rfl⟩
  rw [← hz] at k1 ⊢
  have hf2 : ¬ g = b1 := fun e => hf e.symm
  have H := Lib.hid h
  clear h hc1 hz
  go_enter Tryd.func71, Tryd.ntmps71
  go_wp2_with fail
  go_quiet (fail)
  go_wp2_with fail
  have u1 : IntKind.i64.wrap ((p : Int) + 1 - 1) = p := by rw [Int.add_sub_cancel]; exact IntWalk.i64_in _ (by omega)
  have u2 : IntKind.i64.wrap (p : Int) = p := IntWalk.i64_in _ (by omega)
  have u3 : (0 : Int) ≤ p := by omega
  have u4 : (p : Int) < n := by omega
  go_quiet (fail)
  clear u1 u2 u3 u4
  go_wp2_with fail
  go_ret
  exact ⟨rfl, ((H.out.keep (Lat.drewN _ _)).set (by omega) (by omega)).keep (Lat.drewN _ _), ((Only.start _ _ _).trans (Only.set _ ⟨g, 1, none⟩ _)).drewN _⟩
set_option maxHeartbeats 1000000 in
theorem sbit_no (w : World) (g : Nat) (a : Option Addr) (n cap p : Nat) (zs : List Int) (bad : Bool) (h : RdR w g a n cap p zs bad) (hp : p = n) :
    Calls Tryd.prog 71 #[.pointer (some ⟨g, 0, none⟩)] w fun e w' => e = .returned (.int .i64 0) ∧ RdR w' g a n cap p zs true ∧ Only g w w' := by
  subst hp
  have c0 := h.c0
  have c1 := h.c1
  have c2 := h.c2
  have f2 := h.f2
  have d1 : decide ((p : Int) ≤ (p : Int)) = true := decide_eq_true (by omega)
  have H := Lib.hid h
  clear h
  go_enter Tryd.func71, Tryd.ntmps71
  go_wp2_with fail
  go_quiet (fail)
  go_wp2_with fail
  go_ret
  exact ⟨rfl, (H.out.keep (Lat.drewN _ _)).setBad true, (Only.start _ _ _).trans (Only.set _ ⟨g, 2, none⟩ _)⟩

theorem bitsN_from : ∀ (k a : Nat) (l : List Int), bitsN k a l = match bitsN k 0 l with
    | none => none
    | some (n, r) => some (a * 2 ^ k + n, r)
  | 0, a, l => by simp [bitsN]
  | k + 1, a, [] => by simp [bitsN]
  | k + 1, a, b :: t => by
    rw [bitsN, bitsN, bitsN_from k (2 * a + b.toNat) t, bitsN_from k (2 * 0 + b.toNat) t]
    cases bitsN k 0 t with
    | none => rfl
    | some y =>
      obtain ⟨n, r⟩ := y
      simp only [Option.some.injEq, Prod.mk.injEq, and_true]
      rw [Nat.pow_succ, Nat.mul_zero, Nat.zero_add, Nat.add_mul, Nat.mul_comm 2 a, Nat.mul_assoc, Nat.mul_comm 2 (2 ^ k), Nat.add_assoc]
def RNumPost (low : Nat) (zs : List Int) (p : Nat) (bad : Bool) (x : Int) (q : Nat) (bad2 : Bool) : Prop := match numb low (zs.drop p) with
  | some (v, r) => bad2 = bad ∧ x = v ∧ zs.drop q = r
  | none => bad2 = true
def RAt (low : Nat) (zs : List Int) (p : Nat) (bad : Bool) (i m q : Nat) (bad2 : Bool) : Prop :=
  (∃ u l, unary (zs.drop p) = some (u, l) ∧ bad2 = bad ∧ bitsN low u l = bitsN (low - i) m (zs.drop q)) ∨ (bad2 = true ∧ numb low (zs.drop p) = none)
theorem RAt.end_ {low : Nat} {zs : List Int} {p q k : Nat} {bad : Bool} {i m : Nat} {q2 : Nat} (h : unary (zs.drop p) = bump k (unary (zs.drop q))) (hq : zs.length ≤ q) : RAt low zs p bad i m q2 true := by
  refine .inr ⟨rfl, ?_⟩
  unfold numb; rw [h, List.drop_eq_nil_of_le hq]; rfl
theorem RAt.begin_ {low : Nat} {zs : List Int} {p k : Nat} {bad : Bool} (h : unary (zs.drop p) = bump k (unary (zs.drop (p + k)))) (hz : zs.getD (p + k) 0 = 0) (hl : p + k < zs.length) : RAt low zs p bad 0 k (p + k + 1) bad := by
  refine .inl ⟨k, zs.drop (p + k + 1), ?_, rfl, rfl⟩
  rw [h, drop_cons zs _ hl, hz, unary, if_pos rfl]
  simp [bump]
theorem RAt.go {low : Nat} {zs : List Int} {p q : Nat} {bad bad2 : Bool} {i m c : Nat} (h : RAt low zs p bad i m q bad2) (hi : i < low) (hq : q < zs.length) (hc : zs.getD q 0 = (c : Int)) : RAt low zs p bad (i + 1) (2 * m + c) (q + 1) bad2 := by
  rcases h with ⟨u, l, h1, h2, h3⟩ | h
  · refine .inl ⟨u, l, h1, h2, ?_⟩
    rw [h3, drop_cons zs q hq, hc, show low - i = (low - (i + 1)) + 1 by omega, bitsN, Int.toNat_natCast]
  · exact .inr h
theorem RAt.stop {low : Nat} {zs : List Int} {p q : Nat} {bad bad2 : Bool} {i m i2 m2 q2 : Nat} (h : RAt low zs p bad i m q bad2) (hi : i < low) (hq : zs.length ≤ q) : RAt low zs p bad i2 m2 q2 true := by
  refine .inr ⟨rfl, ?_⟩
  rcases h with ⟨u, l, h1, h2, h3⟩ | h
  · rw [List.drop_eq_nil_of_le hq, show low - i = (low - (i + 1)) + 1 by omega, bitsN, bitsN_from] at h3
    unfold numb
    rw [h1]
    simp only
    cases hn : bitsN low 0 l with
    | none => rfl
    | some y => rw [hn] at h3; simp at h3
  · exact h.2
theorem RAt.big {low : Nat} {zs : List Int} {p q : Nat} {bad bad2 : Bool} {m : Nat} (h : RAt low zs p bad low m q bad2) (hm : 510 < m) (x : Int) : RNumPost low zs p bad x q true := by
  unfold RNumPost
  rcases h with ⟨u, l, h1, h2, h3⟩ | h
  · rw [Nat.sub_self, bitsN, bitsN_from] at h3
    unfold numb
    rw [h1]
    simp only
    cases hn : bitsN low 0 l with
    | none => trivial
    | some y =>
      obtain ⟨n, r⟩ := y
      rw [hn] at h3
      simp only [Option.some.injEq, Prod.mk.injEq] at h3
      simp only
      rw [h3.1, if_neg (by omega)]; trivial
  · rw [h.2]
theorem RAt.small {low : Nat} {zs : List Int} {p q : Nat} {bad bad2 : Bool} {m : Nat} (h : RAt low zs p bad low m q bad2) (hm : m ≤ 510) : RNumPost low zs p bad (unf (m : Int)) q bad2 := by
  unfold RNumPost
  rcases h with ⟨u, l, h1, h2, h3⟩ | h
  · rw [Nat.sub_self, bitsN, bitsN_from] at h3
    unfold numb
    rw [h1]
    simp only
    cases hn : bitsN low 0 l with
    | none => rw [hn] at h3; simp at h3
    | some y =>
      obtain ⟨n, r⟩ := y
      rw [hn] at h3
      simp only [Option.some.injEq, Prod.mk.injEq] at h3
      simp only
      rw [h3.1, if_pos hm]
      exact ⟨h2, rfl, h3.2.symm⟩
  · rw [h.2]; exact h.1

set_option maxHeartbeats 4000000 in
set_option maxRecDepth 100000 in
theorem snumber_bd (w : World) (g : Nat) (a : Option Addr) (n cap p low : Nat) (zs : List Int) (bad : Bool) (h : RdR w g a n cap p zs bad) (hb : ∀ z ∈ zs, z = 0 ∨ z = 1) (hn : n ≤ 2000) (hl : low ≤ 7) :
    Calls Tryd.prog 73 #[.pointer (some ⟨g, 0, none⟩), .int .i64 low] w fun e w' => ∃ x q bad2, e = .returned (.int .i64 x) ∧ (-256 ≤ x ∧ x ≤ 256) ∧ RdR w' g a n cap q zs bad2 ∧ Only g w w' ∧ Hid (RNumPost low zs p bad x q bad2) := by
  have H := Lib.hid h
  have HB := Lib.hid hb
  have HLe := Lib.hid h.ints.len
  clear h hb
  go_enter Tryd.func73, Tryd.ntmps73
  go_upto_block 0 with fail
  go_cut [5] (fun v wx => ∃ m q bad2, v = .int .i64 (m : Nat) ∧ m ≤ 2000 ∧ Hid (RdR wx g a n cap q zs bad2 ∧ Only g w wx ∧ RAt low zs p bad 0 m q bad2))
  case first =>
    go_wp2_with fail
    go_loopw [5] (fun v wr => ∃ q : Nat, p + q ≤ n ∧ v = .int .i64 q ∧ Hid (RdR wr g a n cap (p + q) zs bad ∧ Only g w wr ∧ unary (zs.drop p) = bump q (unary (zs.drop (p + q))))) (fun v _ => n - p - (intOf v).toNat)
    case atStart => exact ⟨0, by have := H.out.le; omega, rfl, H.out, Only.refl _ _, (bump_zero _).symm⟩
    case round =>
      obtain ⟨q, hq, rfl, hrel⟩ := hrel
      by_cases hp : p + q < n
      case neg =>
        have hp2 : p + q = n := by omega
        have hcall := sbit_no wr g a n cap (p + q) zs bad hrel.out.1 hp2
        have HC := Lib.hid hcall
        have HP := Lib.hid hp2
        clear hcall hp hp2
        go_wp2_with fail
        refine HC.out.mono ?_
        rintro e w1 ⟨rfl, hr1, ho1⟩
        have HR1 := Lib.hid hr1
        have HO1 := Lib.hid ho1
        clear hr1 ho1
        go_wp2_with fail
        go_meet
        case rel => exact ⟨q, p + q, true, rfl, by omega, HR1.out, hrel.out.2.1.trans HO1.out, RAt.end_ hrel.out.2.2 (by rw [HLe.out]; have := HP.out; omega)⟩
      have hcall := sbit_yes wr g a n cap (p + q) zs bad hrel.out.1 hp
      rcases HB.out _ (mem_getD zs (p + q) (by rw [HLe.out]; exact hp)) with hz | hz
      · rw [hz] at hcall
        have HC := Lib.hid hcall
        have HZ := Lib.hid hz
        clear hcall hz
        go_wp2_with fail
        refine HC.out.mono ?_
        rintro e w1 ⟨rfl, hr1, ho1⟩
        have HR1 := Lib.hid hr1
        have HO1 := Lib.hid ho1
        clear hr1 ho1
        go_wp2_with fail
        go_meet
        case rel => exact ⟨q, p + q + 1, bad, rfl, by omega, HR1.out, hrel.out.2.1.trans HO1.out, RAt.begin_ hrel.out.2.2 HZ.out (by rw [HLe.out]; exact hp)⟩
      · rw [hz] at hcall
        have hun := hrel.out.2.2
        rw [drop_cons zs (p + q) (by rw [HLe.out]; exact hp), hz, bump_one] at hun
        have HC := Lib.hid hcall
        have HUN := Lib.hid hun
        clear hcall hz hun
        go_wp2_with fail
        refine HC.out.mono ?_
        rintro e w1 ⟨rfl, hr1, ho1⟩
        have HO1 := Lib.hid (hrel.out.2.1.trans ho1)
        have HR1 := Lib.hid hr1
        clear hr1 ho1
        go_wp2_with fail
        go_roundw
        case rel => exact ⟨q + 1, by omega, by go_num, HR1.out, HO1.out, HUN.out⟩
        case measure => simp [intOf]; omega
  case rest =>
  obtain ⟨m0, q0, bad0, rfl, hm0, hcut⟩ := hcut
  generalize wc = w0 at *
  go_wp2_with fail
  go_loopw [5, 6] (fun v i wr => ∃ (i' m q : Nat) (bad2 : Bool), i' ≤ low ∧ i = .int .i64 i' ∧ v = .int .i64 m ∧ m ≤ 300000 ∧ Hid (RdR wr g a n cap q zs bad2 ∧ Only g w wr ∧ RAt low zs p bad i' m q bad2 ∧ m < 2001 * 2 ^ i')) (fun _ i _ => low - (intOf i).toNat)
  case atStart => exact ⟨0, m0, q0, bad0, Nat.zero_le _, rfl, rfl, by omega, hcut.out.1, hcut.out.2.1, hcut.out.2.2, by omega⟩
  case round =>
    obtain ⟨i, m, q, bad2, hi, rfl, rfl, hm, hrel⟩ := hrel
    by_cases hlt : i < low
    · have hpw : 2 ^ (i + 1) ≤ 2 ^ 7 := Nat.pow_le_pow_right (by omega) (by omega)
      have hps : 2 ^ (i + 1) = 2 * 2 ^ i := by rw [Nat.pow_succ]; omega
      have hmb := hrel.out.2.2.2
      by_cases hp : q < n
      · have hcall := sbit_yes wr g a n cap q zs bad2 hrel.out.1 hp
        have hz := HB.out _ (mem_getD zs q (by rw [HLe.out]; exact hp))
        obtain ⟨c, hc, hcb⟩ : ∃ c : Nat, c < 2 ∧ zs.getD q 0 = c := by rcases hz with h | h; exact ⟨0, by omega, by rw [h]; rfl⟩; exact ⟨1, by omega, by rw [h]; rfl⟩
        rw [hcb] at hcall
        have hat := RAt.go hrel.out.2.2.1 hlt (by rw [HLe.out]; exact hp) hcb
        have hm2 : 2 * m + c < 2001 * 2 ^ (i + 1) := by omega
        have hm3 : 2 * m + c ≤ 300000 := by omega
        have HC := Lib.hid hcall
        have HAT := Lib.hid hat
        have HM2 := Lib.hid hm2
        have HM3 := Lib.hid hm3
        clear hcall hz hcb hat hm2 hm3 hmb hps hpw
        go_wp2_with fail
        refine HC.out.mono ?_
        rintro e w1 ⟨rfl, hr1, ho1⟩
        have HR1 := Lib.hid hr1
        have HO1 := Lib.hid ho1
        clear hr1 ho1
        go_wp2_with fail
        go_roundw
        case rel => exact ⟨i + 1, 2 * m + c, q + 1, bad2, by omega, by go_num, by go_num, HM3.out, HR1.out, hrel.out.2.1.trans HO1.out, HAT.out, HM2.out⟩
        case measure => simp [intOf]; omega
      · have hp2 : q = n := by have := hrel.out.1.le; omega
        have hcall := sbit_no wr g a n cap q zs bad2 hrel.out.1 hp2
        have hat : RAt low zs p bad (i + 1) (2 * m) q true := RAt.stop hrel.out.2.2.1 hlt (by rw [HLe.out]; omega)
        have hm2 : 2 * m < 2001 * 2 ^ (i + 1) := by omega
        have hm3 : 2 * m ≤ 300000 := by omega
        have HC := Lib.hid hcall
        have HAT := Lib.hid hat
        have HM2 := Lib.hid hm2
        have HM3 := Lib.hid hm3
        clear hcall hat hm2 hm3 hmb hps hpw hp hp2
        go_wp2_with fail
        refine HC.out.mono ?_
        rintro e w1 ⟨rfl, hr1, ho1⟩
        have HR1 := Lib.hid hr1
        have HO1 := Lib.hid ho1
        clear hr1 ho1
        go_wp2_with fail
        go_roundw
        case rel => exact ⟨i + 1, 2 * m, q, true, by omega, by go_num, by go_num, HM3.out, HR1.out, hrel.out.2.1.trans HO1.out, HAT.out, HM2.out⟩
        case measure => simp [intOf]; omega
    · obtain rfl : i = low := by omega
      by_cases h5 : 510 < m
      · have d1 : decide (510 < (m : Int)) = true := decide_eq_true (by omega)
        have k2 := hrel.out.1.c2
        have f2 := hrel.out.1.f2
        have hfin := RAt.big hrel.out.2.2.1 h5 0
        have HF := Lib.hid hfin
        clear h5 hfin
        go_wp2_with fail
        go_ret
        exact ⟨0, q, true, rfl, by omega, hrel.out.1.setBad true, hrel.out.2.1.trans (Only.set _ ⟨g, 2, none⟩ _), HF.out⟩
      · have d1 : decide (510 < (m : Int)) = false := decide_eq_false (by omega)
        have hfin := RAt.small hrel.out.2.2.1 (by omega)
        have HF := Lib.hid hfin
        have hm5 : m ≤ 510 := by omega
        clear h5 hfin
        by_cases ho : (m : Int) % 2 = 1
        · have d2 : ((m : Int) % 2 == 1) = true := beq_iff_eq.2 ho
          have e1 : unf (m : Int) = -((m : Int) / 2) - 1 := by unfold unf; rw [if_pos ho]; omega
          have HE := Lib.hid e1
          clear ho e1
          go_wp2_with fail
          go_ret
          exact ⟨_, q, bad2, rfl, by omega, hrel.out.1, hrel.out.2.1, by rw [← HE.out]; exact HF.out⟩
        · have d2 : ((m : Int) % 2 == 1) = false := beq_eq_false_iff_ne.2 ho
          have e1 : unf (m : Int) = (m : Int) / 2 := by unfold unf; rw [if_neg ho]
          have HE := Lib.hid e1
          clear ho e1
          go_wp2_with fail
          go_ret
          exact ⟨_, q, bad2, rfl, by omega, hrel.out.1, hrel.out.2.1, by rw [← HE.out]; exact HF.out⟩
theorem snumber_any (w : World) (g : Nat) (a : Option Addr) (n cap p low : Nat) (zs : List Int) (bad : Bool) (h : RdR w g a n cap p zs bad) (hb : ∀ z ∈ zs, z = 0 ∨ z = 1) (hn : n ≤ 2000) (hl : low ≤ 7) :
    Calls Tryd.prog 73 #[.pointer (some ⟨g, 0, none⟩), .int .i64 low] w fun e w' => ∃ x q bad2, e = .returned (.int .i64 x) ∧ RdR w' g a n cap q zs bad2 ∧ Only g w w' ∧ Hid (RNumPost low zs p bad x q bad2) := by
  refine (snumber_bd w g a n cap p low zs bad h hb hn hl).mono ?_
  rintro e w' ⟨x, q, bad2, h1, _, h2⟩
  exact ⟨x, q, bad2, h1, h2⟩
end Go.Proofs.YtooepflfofgnnaaDoor

namespace Go.Proofs.YtooepflfofgnnaaDoor
open Go.ChangeShapes Go.WideShapes Go.ChangeAt Go.RowKit

def MPost (low : Nat) (zs : List Int) (p : Nat) (bad : Bool) (x q : Nat) (bad2 : Bool) : Prop := match bitsN low 0 (zs.drop p) with
  | some (v, r) => bad2 = bad ∧ x = v ∧ zs.drop q = r
  | none => bad2 = true
def MAt (low : Nat) (zs : List Int) (p : Nat) (bad : Bool) (i m q : Nat) (bad2 : Bool) : Prop :=
  (bad2 = bad ∧ bitsN low 0 (zs.drop p) = bitsN (low - i) m (zs.drop q)) ∨ (bad2 = true ∧ bitsN low 0 (zs.drop p) = none)
theorem MAt.go {low : Nat} {zs : List Int} {p q : Nat} {bad bad2 : Bool} {i m c : Nat} (h : MAt low zs p bad i m q bad2) (hi : i < low) (hq : q < zs.length) (hc : zs.getD q 0 = (c : Int)) : MAt low zs p bad (i + 1) (2 * m + c) (q + 1) bad2 := by
  rcases h with ⟨h2, h3⟩ | h
  · refine .inl ⟨h2, ?_⟩
    rw [h3, drop_cons zs q hq, hc, show low - i = (low - (i + 1)) + 1 by omega, bitsN, Int.toNat_natCast]
  · exact .inr h
theorem MAt.stop {low : Nat} {zs : List Int} {p q : Nat} {bad bad2 : Bool} {i m i2 m2 q2 : Nat} (h : MAt low zs p bad i m q bad2) (hi : i < low) (hq : zs.length ≤ q) : MAt low zs p bad i2 m2 q2 true := by
  refine .inr ⟨rfl, ?_⟩
  rcases h with ⟨h2, h3⟩ | h
  · rw [h3, List.drop_eq_nil_of_le hq, show low - i = (low - (i + 1)) + 1 by omega, bitsN]
  · exact h.2
theorem MAt.fin {low : Nat} {zs : List Int} {p q : Nat} {bad bad2 : Bool} {m : Nat} (h : MAt low zs p bad low m q bad2) : MPost low zs p bad m q bad2 := by
  unfold MPost
  rcases h with ⟨h2, h3⟩ | h
  · rw [h3, Nat.sub_self, bitsN]; exact ⟨h2, rfl, rfl⟩
  · rw [h.2]; exact h.1

set_option maxHeartbeats 4000000 in
set_option maxRecDepth 100000 in
theorem smany_any (w : World) (g : Nat) (a : Option Addr) (n cap p low : Nat) (zs : List Int) (bad : Bool) (h : RdR w g a n cap p zs bad) (hb : ∀ z ∈ zs, z = 0 ∨ z = 1) (hl : low ≤ 7) :
    Calls Tryd.prog 72 #[.pointer (some ⟨g, 0, none⟩), .int .i64 low] w fun e w' => ∃ x q bad2, e = .returned (.int .i64 (x : Nat)) ∧ x < 2 ^ low ∧ RdR w' g a n cap q zs bad2 ∧ Only g w w' ∧ Hid (MPost low zs p bad x q bad2) := by
  have H := Lib.hid h
  have HB := Lib.hid hb
  have HLe := Lib.hid h.ints.len
  clear h hb
  go_enter Tryd.func72, Tryd.ntmps72
  go_wp2_with fail
  go_loopw [5, 6] (fun v i wr => ∃ (i' m q : Nat) (bad2 : Bool), i' ≤ low ∧ i = .int .i64 i' ∧ v = .int .i64 m ∧ m ≤ 128 ∧ Hid (RdR wr g a n cap q zs bad2 ∧ Only g w wr ∧ MAt low zs p bad i' m q bad2 ∧ m < 2 ^ i')) (fun _ i _ => low - (intOf i).toNat)
  case atStart => exact ⟨0, 0, p, bad, Nat.zero_le _, rfl, rfl, by omega, H.out, Only.refl _ _, .inl ⟨rfl, rfl⟩, by omega⟩
  case round =>
    obtain ⟨i, m, q, bad2, hi, rfl, rfl, hm, hrel⟩ := hrel
    by_cases hlt : i < low
    · have hpw : 2 ^ (i + 1) ≤ 2 ^ 7 := Nat.pow_le_pow_right (by omega) (by omega)
      have hps : 2 ^ (i + 1) = 2 * 2 ^ i := by rw [Nat.pow_succ]; omega
      have hmb := hrel.out.2.2.2
      by_cases hp : q < n
      · have hcall := sbit_yes wr g a n cap q zs bad2 hrel.out.1 hp
        have hz := HB.out _ (mem_getD zs q (by rw [HLe.out]; exact hp))
        obtain ⟨c, hc, hcb⟩ : ∃ c : Nat, c < 2 ∧ zs.getD q 0 = c := by rcases hz with h | h; exact ⟨0, by omega, by rw [h]; rfl⟩; exact ⟨1, by omega, by rw [h]; rfl⟩
        rw [hcb] at hcall
        have hat := MAt.go hrel.out.2.2.1 hlt (by rw [HLe.out]; exact hp) hcb
        have hm2 : 2 * m + c < 2 ^ (i + 1) := by omega
        have hm3 : 2 * m + c ≤ 128 := by omega
        have HC := Lib.hid hcall
        have HAT := Lib.hid hat
        have HM2 := Lib.hid hm2
        have HM3 := Lib.hid hm3
        clear hcall hz hcb hat hm2 hm3 hmb hps hpw
        go_wp2_with fail
        refine HC.out.mono ?_
        rintro e w1 ⟨rfl, hr1, ho1⟩
        have HR1 := Lib.hid hr1
        have HO1 := Lib.hid ho1
        clear hr1 ho1
        go_wp2_with fail
        go_roundw
        case rel => exact ⟨i + 1, 2 * m + c, q + 1, bad2, by omega, by go_num, by go_num, HM3.out, HR1.out, hrel.out.2.1.trans HO1.out, HAT.out, HM2.out⟩
        case measure => simp [intOf]; omega
      · have hp2 : q = n := by have := hrel.out.1.le; omega
        have hcall := sbit_no wr g a n cap q zs bad2 hrel.out.1 hp2
        have hat : MAt low zs p bad (i + 1) (2 * m) q true := MAt.stop hrel.out.2.2.1 hlt (by rw [HLe.out]; omega)
        have hm2 : 2 * m < 2 ^ (i + 1) := by omega
        have hm3 : 2 * m ≤ 128 := by omega
        have HC := Lib.hid hcall
        have HAT := Lib.hid hat
        have HM2 := Lib.hid hm2
        have HM3 := Lib.hid hm3
        clear hcall hat hm2 hm3 hmb hps hpw hp hp2
        go_wp2_with fail
        refine HC.out.mono ?_
        rintro e w1 ⟨rfl, hr1, ho1⟩
        have HR1 := Lib.hid hr1
        have HO1 := Lib.hid ho1
        clear hr1 ho1
        go_wp2_with fail
        go_roundw
        case rel => exact ⟨i + 1, 2 * m, q, true, by omega, by go_num, by go_num, HM3.out, HR1.out, hrel.out.2.1.trans HO1.out, HAT.out, HM2.out⟩
        case measure => simp [intOf]; omega
    · obtain rfl : i = low := by omega
      have hfin := MAt.fin hrel.out.2.2.1
      have HF := Lib.hid hfin
      clear hfin
      go_wp2_with fail
      go_ret
      exact ⟨m, q, bad2, rfl, hrel.out.2.2.2, hrel.out.1, hrel.out.2.1, HF.out⟩
end Go.Proofs.YtooepflfofgnnaaDoor

namespace Go.Proofs.YtooepflfofgnnaaDoor
open Go.ChangeShapes Go.WideShapes Go.ChangeAt Go.RowKit

theorem But.only {g r : Nat} {w w1 w2 : World} (h : But g w w1) (ho : Only r w1 w2) (hr : w.heap.size ≤ r) : But g w w2 :=
  ⟨ho.os.trans h.os, ho.tape.trans h.tape, ho.output.trans h.output, Nat.le_trans h.size (Nat.le_of_eq ho.size.symm), fun k hk hg => (ho.block k (by omega)).trans (h.block k hk hg)⟩
theorem Rd.onlyNew {w0 w w' : World} {g r : Nat} {a : Option Addr} {n cap p0 p : Nat} {zs : List Int} (h : Rd w g a n cap p zs) (h0 : Rd w0 g a n cap p0 zs) (ho : Only r w w') (hr : w0.heap.size ≤ r) : Rd w' g a n cap p zs := by
  have hl := h0.lt
  have hne : g ≠ r := by omega
  exact ⟨by rw [ho.cell hne]; exact h.c0, by rw [ho.cell hne]; exact h.c1, by rw [ho.frozen hne]; exact h.f1, h.ints.only ho (h0.ints.far hr), h.far, h.le⟩
theorem rbit_any (w : World) (g : Nat) (a : Option Addr) (n cap p : Nat) (zs : List Int) (h : Rd w g a n cap p zs) (hb : ∀ z ∈ zs, z = 0 ∨ z = 1) :
    Calls Tryd.prog 95 #[.pointer (some ⟨g, 0, none⟩)] w fun e w' => ∃ (z : Nat) (ok : Bool) (q : Nat), (z = 0 ∨ z = 1) ∧ e = .returned (.tuple #[.int .i64 z, .bool ok]) ∧ Rd w' g a n cap q zs ∧ Only g w w' ∧
      Hid ((ok = true → zs.drop p = (z : Int) :: zs.drop q) ∧ (ok = false → z = 0 ∧ zs.drop p = [])) := by
  by_cases hp : p < n
  · refine (rbit_yes w g a n cap p zs h hp).mono ?_
    rintro e w' ⟨rfl, hr, ho⟩
    have hz := hb _ (mem_getD zs p (by rw [h.ints.len]; exact hp))
    have hd := drop_cons zs p (by rw [h.ints.len]; exact hp)
    rcases hz with e | e
    · rw [e] at hd ⊢; exact ⟨0, true, p + 1, .inl rfl, rfl, hr, ho, fun _ => hd, fun h => by cases h⟩
    · rw [e] at hd ⊢; exact ⟨1, true, p + 1, .inr rfl, rfl, hr, ho, fun _ => hd, fun h => by cases h⟩
  · have hp2 : p = n := by have := h.le; omega
    refine (rbit_no w g a n cap p zs h hp2).mono ?_
    rintro e w' ⟨rfl, hr, ho⟩
    exact ⟨0, false, p, .inl rfl, rfl, hr, ho, (fun h => by cases h), fun _ => ⟨rfl, List.drop_eq_nil_of_le (by rw [h.ints.len]; omega)⟩⟩

def fin (al : Bool) (x y : Int) (many : Nat) (l : List Int) : Option (Ct × List Int) := match numbs 2 many l with
  | none => none
  | some (vs, r) => some (⟨al, x, y, vs⟩, r)
def CPost (many : Nat) (zs : List Int) (p : Nat) (c : Ct) (ok : Bool) (q : Nat) : Prop := match rdC many (zs.drop p) with
  | some (d, r) => ok = true ∧ c = d ∧ zs.drop q = r
  | none => ok = false
theorem CPost.ok {many : Nat} {zs : List Int} {p q : Nat} {c : Ct} {o : Bool} (h : CPost many zs p c o q) : o = (rdC many (zs.drop p)).isSome := by
  unfold CPost at h
  cases hr : rdC many (zs.drop p) with
  | none => rw [hr] at h; exact h
  | some v => rw [hr] at h; exact h.1
theorem rdC_one {many : Nat} {l r : List Int} (h : l = ((1 : Nat) : Int) :: r) : rdC many l = fin true 0 0 many r := by subst h; rw [rdC, if_pos (show ((1 : Nat) : Int) = 1 from rfl)]; rfl
theorem rdC_nil {many : Nat} {l : List Int} (h : l = []) : rdC many l = none := by subst h; rfl
theorem rdC_zero {many : Nat} {zs l : List Int} {p q2 q3 : Nat} {x y : Int} {a b : Bool} (h : l = ((0 : Nat) : Int) :: zs.drop p) (h1 : BitsPost 2 zs p x a q2) (h2 : BitsPost 2 zs q2 y b q3) :
    (a = true ∧ b = true → rdC many l = fin false (x - 1) (y - 1) many (zs.drop q3)) ∧ (a = false ∨ b = false → rdC many l = none) := by
  subst h
  rw [rdC, if_neg (by decide)]
  unfold BitsPost at h1 h2
  cases hb : bitsN 2 0 (zs.drop p) with
  | none =>
    rw [hb] at h1
    obtain ⟨rfl, _⟩ := h1
    exact ⟨(fun h => by cases h.1), fun _ => rfl⟩
  | some v =>
    obtain ⟨v, r⟩ := v
    rw [hb] at h1
    obtain ⟨rfl, rfl, hr⟩ := h1
    simp only
    rw [← hr]
    cases hb2 : bitsN 2 0 (zs.drop q2) with
    | none =>
      rw [hb2] at h2
      obtain ⟨rfl, _⟩ := h2
      exact ⟨(fun h => by cases h.2), fun _ => rfl⟩
    | some v2 =>
      obtain ⟨v2, r2⟩ := v2
      rw [hb2] at h2
      obtain ⟨rfl, rfl, hr2⟩ := h2
      simp only
      rw [← hr2]
      exact ⟨fun _ => rfl, fun h => by rcases h with h | h <;> cases h⟩
theorem CPost.of {many : Nat} {zs : List Int} {p q q2 : Nat} {al is ok : Bool} {x y : Int} {vs : List Int} (h1 : is = true → rdC many (zs.drop p) = fin al x y many (zs.drop q)) (h2 : is = false → rdC many (zs.drop p) = none) (h : NumsPost 2 many zs q vs ok q2) :
    CPost many zs p ⟨al, x, y, vs⟩ (is && ok) q2 := by
  unfold CPost
  cases is with
  | false => rw [h2 rfl]; rfl
  | true =>
    rw [h1 rfl]
    unfold fin
    unfold NumsPost at h
    cases hn : numbs 2 many (zs.drop q) with
    | none => rw [hn] at h; rw [h.1]; rfl
    | some v => obtain ⟨v, r⟩ := v; rw [hn] at h; obtain ⟨rfl, rfl, hr⟩ := h; exact ⟨rfl, rfl, hr⟩

set_option maxHeartbeats 4000000 in
set_option maxRecDepth 100000 in
theorem coded_any (w : World) (g : Nat) (a : Option Addr) (n cap p many : Nat) (zs : List Int) (h : Rd w g a n cap p zs) (hb : ∀ z ∈ zs, z = 0 ∨ z = 1) (hn : n ≤ 2000) (hm : many ≤ 1000000) :
    Calls Tryd.prog 76 #[.pointer (some ⟨g, 0, none⟩), .int .i64 many] w fun e w' => ∃ (c : Ct) (b : Option Addr) (k cc : Nat) (q : Nat), e = .returned (.tuple #[codV c.al c.x c.y b k cc, .bool (rdC many (zs.drop p)).isSome]) ∧ IntsAt w' b k cc c.rs ∧ Fresh w b k ∧ Rd w' g a n cap q zs ∧ But g w w' ∧ Hid (CPost many zs p c (rdC many (zs.drop p)).isSome q) := by
  have H := Lib.hid h
  have HB := Lib.hid hb
  obtain ⟨W0, hW0⟩ : ∃ W, W = w.alloc (.cells #[.bool false, .int .i64 0, .int .i64 0, .slice none 0 0] 110) := ⟨_, rfl⟩
  obtain ⟨r, hr⟩ : ∃ r, r = w.heap.size := ⟨_, rfl⟩
  have hl0 : Lat w W0 := by rw [hW0]; exact Lat.alloc _ _
  have hc0 : Cells4 W0 r (.bool false) (.int .i64 0) (.int .i64 0) (.slice none 0 0) := by rw [hW0]; exact cells4_new hr rfl rfl rfl rfl
  have hf0 : ∀ k, W0.frozen? ⟨r, k, none⟩ = false := fun k => by rw [hW0, hr]; simp
  have hrs : W0.heap.size = r + 1 := by rw [hW0, hr]; simp
  have hgr : g < r := by rw [hr]; exact h.lt
  have hcall := rbit_any W0 g a n cap p zs (h.keep hl0) hb
  have HL0 := Lib.hid hl0
  have HC0 := Lib.hid hc0
  have HF0 := Lib.hid hf0
  have HRS := Lib.hid hrs
  have HGR := Lib.hid hgr
  have HCL := Lib.hid hcall
  have HR := Lib.hid hr
  clear h hb hl0 hc0 hf0 hrs hgr hcall hr
  go_enter Tryd.func76, Tryd.ntmps76
  go_upto_region 1 with fail
  rw [← hW0, ← HR.out]
  clear hW0
  go_wp2_with fail
  refine HCL.out.mono ?_
  rintro e w1 ⟨z, ok1, p1, hz, rfl, hr1, ho1, hp1⟩
  obtain ⟨AL, hAL⟩ : ∃ b : Bool, b = ((z : Int) == 1) := ⟨_, rfl⟩
  obtain ⟨W2, hW2⟩ : ∃ W, W = w1.alloc (.cells #[.bool AL, .int .i64 0, .int .i64 0, .slice none 0 0] 110) := ⟨_, rfl⟩
  obtain ⟨r2, hr2⟩ : ∃ r, r = w1.heap.size := ⟨_, rfl⟩
  have hr2r : r2 = r + 1 := by rw [hr2, ho1.size, HRS.out]
  have hl2 : Lat w1 W2 := by rw [hW2]; exact Lat.alloc _ _
  have hc2 : Cells4 W2 r2 (.bool AL) (.int .i64 0) (.int .i64 0) (.slice none 0 0) := by rw [hW2]; exact cells4_new hr2 rfl rfl rfl rfl
  have hf2 : ∀ k, W2.frozen? ⟨r2, k, none⟩ = false := fun k => by rw [hW2, hr2]; simp
  have hs2 : W2.heap.size = r2 + 1 := by rw [hW2, hr2]; simp
  have hrg : r ≠ g := by have := HGR.out; omega
  have hc1 : Cells4 w1 r (.bool false) (.int .i64 0) (.int .i64 0) (.slice none 0 0) := ⟨by rw [ho1.cell hrg]; exact HC0.out.c0, by rw [ho1.cell hrg]; exact HC0.out.c1, by rw [ho1.cell hrg]; exact HC0.out.c2, by rw [ho1.cell hrg]; exact HC0.out.c3⟩
  have hf1 : ∀ k, w1.frozen? ⟨r, k, none⟩ = false := fun k => by rw [ho1.frozen hrg]; exact HF0.out k
  have hlt1 : r < w1.heap.size := by rw [ho1.size, HRS.out]; omega
  have hf1' : ∀ k, W2.frozen? ⟨r, k, none⟩ = false := fun k => by rw [hl2.frozen hlt1]; exact hf1 k
  have HB2 := Lib.hid (((But.of_lat HL0.out).trans (ho1.but)).trans (But.of_lat hl2))
  have HR2 := Lib.hid (hr1.keep hl2)
  have HC2 := Lib.hid hc2
  have HF2 := Lib.hid hf2
  have HC1 := Lib.hid (hc1.keep hl2)
  have HF1 := Lib.hid hf1'
  have HS2 := Lib.hid hs2
  have HRR := Lib.hid hr2r
  have HP1 := Lib.hid hp1.out
  have HAL := Lib.hid hAL
  have x0 := hc2.c0
  clear hr1 ho1 hp1 hr2r hl2 hc2 hf2 hs2 hrg hc1 hf1 hlt1 hf1'
  go_upto_region 3 with fail
  rw [← hAL, ← hW2, ← hr2]
  clear hW2 hr2 hAL
  go_upto_if 25 with fail
  go_cut [7] (fun v wx => ∃ (is : Bool) (q : Nat) (x y : Int), v = .bool is ∧ Hid (Rd wx g a n cap q zs ∧ But g w wx ∧ Cells4 wx r2 (.bool AL) (.int .i64 x) (.int .i64 y) (.slice none 0 0) ∧ (∀ k, wx.frozen? ⟨r2, k, none⟩ = false) ∧ Cells4 wx r (.bool false) (.int .i64 0) (.int .i64 0) (.slice none 0 0) ∧ (∀ k, wx.frozen? ⟨r, k, none⟩ = false) ∧ r2 < wx.heap.size ∧ -9 ≤ x ∧ x ≤ 9 ∧ -9 ≤ y ∧ y ≤ 9 ∧
      (is = true → rdC many (zs.drop p) = fin AL x y many (zs.drop q)) ∧ (is = false → rdC many (zs.drop p) = none)))
  case first =>
    rcases hz with rfl | rfl
    · obtain rfl : AL = false := by rw [HAL.out]; rfl
      have hcall := rbits_any W2 g a n cap p1 2 zs HR2.out HB.out (by omega)
      have HCA := Lib.hid hcall
      clear hcall
      go_wp2_with fail
      refine HCA.out.mono ?_
      rintro e w3 ⟨x, oka, q2, rfl, hr3, ho3, hpa⟩
      have hcall := rbits_any w3 g a n cap q2 2 zs hr3 HB.out (by omega)
      have HCB := Lib.hid hcall
      have HO3 := Lib.hid ho3
      have HPA := Lib.hid hpa.out
      clear hcall hr3 ho3 hpa x0
      go_wp2_with fail
      refine HCB.out.mono ?_
      rintro e w4 ⟨y, okb, q3, rfl, hr4, ho4, hpb⟩
      have hrg : r2 ≠ g := by have := HGR.out; have := HRR.out; omega
      have hrg0 : r ≠ g := by have := HGR.out; omega
      have hon := HO3.out.trans ho4
      have hb4 := HB2.out.trans hon.but
      have hc4 : Cells4 w4 r2 (.bool false) (.int .i64 0) (.int .i64 0) (.slice none 0 0) := ⟨by rw [hon.cell hrg]; exact HC2.out.c0, by rw [hon.cell hrg]; exact HC2.out.c1, by rw [hon.cell hrg]; exact HC2.out.c2, by rw [hon.cell hrg]; exact HC2.out.c3⟩
      have hc5 : Cells4 w4 r (.bool false) (.int .i64 0) (.int .i64 0) (.slice none 0 0) := ⟨by rw [hon.cell hrg0]; exact HC1.out.c0, by rw [hon.cell hrg0]; exact HC1.out.c1, by rw [hon.cell hrg0]; exact HC1.out.c2, by rw [hon.cell hrg0]; exact HC1.out.c3⟩
      have hf4 : ∀ k, w4.frozen? ⟨r2, k, none⟩ = false := fun k => by rw [hon.frozen hrg]; exact HF2.out k
      have hf5 : ∀ k, w4.frozen? ⟨r, k, none⟩ = false := fun k => by rw [hon.frozen hrg0]; exact HF1.out k
      have hbx := BitsPost.val HPA.out HB.out
      have hby := BitsPost.val hpb.out HB.out
      obtain ⟨X, rfl, hX⟩ := hbx
      obtain ⟨Y, rfl, hY⟩ := hby
      have hX4 : X ≤ 3 := by omega
      have hY4 : Y ≤ 3 := by omega
      have ho5 : Only r2 w4 ((w4.setCell ⟨r2, 1, none⟩ (.int .i64 ((X : Int) - 1))).setCell ⟨r2, 2, none⟩ (.int .i64 ((Y : Int) - 1))) := (Only.set w4 ⟨r2, 1, none⟩ _).trans (Only.set _ ⟨r2, 2, none⟩ _)
      have hw : w.heap.size ≤ r2 := by have := HRR.out; have := HR.out; omega
      have hr5 := hr4.onlyNew H.out ho5 hw
      have hb5 := hb4.only ho5 hw
      have hrr : r ≠ r2 := by have := HRR.out; omega
      have hsz : w4.heap.size = r2 + 1 := by rw [hon.size]; exact HS2.out
      have hc6 : Cells4 ((w4.setCell ⟨r2, 1, none⟩ (.int .i64 ((X : Int) - 1))).setCell ⟨r2, 2, none⟩ (.int .i64 ((Y : Int) - 1))) r2 (.bool false) (.int .i64 ((X : Int) - 1)) (.int .i64 ((Y : Int) - 1)) (.slice none 0 0) := by
        refine ⟨?_, ?_, ?_, ?_⟩
        · rw [World.cell?_setCell_other _ _ _ _ (by simp), World.cell?_setCell_other _ _ _ _ (by simp)]; exact hc4.c0
        · rw [World.cell?_setCell_other _ _ _ _ (by simp)]; exact World.cell?_setCell_same _ _ _ hc4.c1
        · exact World.cell?_setCell_same _ _ _ (by rw [World.cell?_setCell_other _ _ _ _ (by simp)]; exact hc4.c2)
        · rw [World.cell?_setCell_other _ _ _ _ (by simp), World.cell?_setCell_other _ _ _ _ (by simp)]; exact hc4.c3
      have hc7 : Cells4 ((w4.setCell ⟨r2, 1, none⟩ (.int .i64 ((X : Int) - 1))).setCell ⟨r2, 2, none⟩ (.int .i64 ((Y : Int) - 1))) r (.bool false) (.int .i64 0) (.int .i64 0) (.slice none 0 0) :=
        ⟨by rw [ho5.cell hrr]; exact hc5.c0, by rw [ho5.cell hrr]; exact hc5.c1, by rw [ho5.cell hrr]; exact hc5.c2, by rw [ho5.cell hrr]; exact hc5.c3⟩
      have y1 := hc4.c1
      have y2 := hc4.c2
      have g1 := hf4 1
      have g2 := hf4 2
      have HR5 := Lib.hid hr5
      have HB5 := Lib.hid hb5
      have HC6 := Lib.hid hc6
      have HC7 := Lib.hid hc7
      have HF6 : Hid (∀ k, ((w4.setCell ⟨r2, 1, none⟩ (.int .i64 ((X : Int) - 1))).setCell ⟨r2, 2, none⟩ (.int .i64 ((Y : Int) - 1))).frozen? ⟨r2, k, none⟩ = false) := fun k => by simp only [World.frozen?_setCell]; exact hf4 k
      have HF7 : Hid (∀ k, ((w4.setCell ⟨r2, 1, none⟩ (.int .i64 ((X : Int) - 1))).setCell ⟨r2, 2, none⟩ (.int .i64 ((Y : Int) - 1))).frozen? ⟨r, k, none⟩ = false) := fun k => by simp only [World.frozen?_setCell]; exact hf5 k
      have HSZ : Hid (r2 < ((w4.setCell ⟨r2, 1, none⟩ (.int .i64 ((X : Int) - 1))).setCell ⟨r2, 2, none⟩ (.int .i64 ((Y : Int) - 1))).heap.size) := by rw [ho5.size, hsz]; exact Nat.lt_succ_self _
      obtain ⟨IS, hIS⟩ : ∃ b : Bool, b = (ok1 && oka && okb) := ⟨_, rfl⟩
      have hrd : (IS = true → rdC many (zs.drop p) = fin false ((X : Int) - 1) ((Y : Int) - 1) many (zs.drop q3)) ∧ (IS = false → rdC many (zs.drop p) = none) := by
        cases ok1 with
        | false => rw [hIS]; exact ⟨fun h => by simp at h, fun _ => rdC_nil (HP1.out.2 rfl).2⟩
        | true =>
          have h := rdC_zero (many := many) (HP1.out.1 rfl) HPA.out hpb.out
          rw [hIS]
          refine ⟨fun q => h.1 (by simpa using q), fun q => h.2 ?_⟩
          cases oka
          · exact .inl rfl
          · exact .inr (by simpa using q)
      have HRD := Lib.hid hrd
      have HIS := Lib.hid hIS
      clear hr4 ho4 hpb hrg hrg0 hon hb4 hc4 hc5 hf4 hf5 ho5 hw hr5 hb5 hrr hsz hc6 hc7 hrd hX hY hIS HP1 HPA
      cases ok1 <;> cases oka <;> cases okb
      all_goals
        go_wp2_with fail
        go_meet
      all_goals
        refine ⟨IS, q3, _, _, ?_, HR5.out, HB5.out, HC6.out, HF6.out, HC7.out, HF7.out, HSZ.out, by omega, by omega, by omega, by omega, HRD.out.1, HRD.out.2⟩
        simp [HIS.out]
    · obtain rfl : AL = true := by rw [HAL.out]; rfl
      have hok : ok1 = true := by
        cases ok1 with
        | true => rfl
        | false => have := (HP1.out.2 rfl).1; omega
      subst hok
      have hrd := rdC_one (many := many) (HP1.out.1 rfl)
      have HRD := Lib.hid hrd
      have HSZ : Hid (r2 < W2.heap.size) := by rw [HS2.out]; exact Nat.lt_succ_self _
      clear hrd
      go_wp2_with fail
      go_meet
      case rel => exact ⟨true, p1, 0, 0, rfl, HR2.out, HB2.out, HC2.out, HF2.out, HC1.out, HF1.out, HSZ.out, by omega, by omega, by omega, by omega, fun _ => HRD.out, fun h => by cases h⟩
  case rest =>
  obtain ⟨is, q, x, y, rfl, hcut⟩ := hcut
  obtain ⟨m1, m2, m3, m4, m5, m6, m7, x1, x2, y1, y2, m8, m9⟩ := hcut.out
  have hcall := rnumbers_anyF wc g a n cap q 2 many zs m1 HB.out hn (by omega) hm
  have HCA := Lib.hid hcall
  have M2 := Lib.hid m2
  have M3 := Lib.hid m3
  have M4 := Lib.hid m4
  have M5 := Lib.hid m5
  have M6 := Lib.hid m6
  have M8 := Lib.hid m8
  have M9 := Lib.hid m9
  clear hcut hcall m1 m2 m3 m4 m5 m6 m8 m9 x0
  generalize wc = w5 at *
  go_wp2_with fail
  refine HCA.out.mono ?_
  rintro e w6 ⟨b, k, cc, vs, ok, q2, rfl, hat, hfr, hr6, hb6, hpost⟩
  have hrg : r2 ≠ g := by have := HGR.out; have := HRR.out; omega
  have hrg0 : r ≠ g := by have := HGR.out; omega
  have hrr : r ≠ r2 := by have := HRR.out; omega
  have hw : w.heap.size ≤ r := by have := HR.out; omega
  have hw2 : w.heap.size ≤ r2 := by have := HRR.out; omega
  have hz5 : r2 < w5.heap.size := m7
  have hz5r : r < w5.heap.size := by have := HRR.out; omega
  have hc6 : Cells4 w6 r2 (.bool AL) (.int .i64 x) (.int .i64 y) (.slice none 0 0) := ⟨hb6.cell_at M3.out.c0 hrg, hb6.cell_at M3.out.c1 hrg, hb6.cell_at M3.out.c2 hrg, hb6.cell_at M3.out.c3 hrg⟩
  have hc7 : Cells4 w6 r (.bool false) (.int .i64 0) (.int .i64 0) (.slice none 0 0) := ⟨hb6.cell_at M5.out.c0 hrg0, hb6.cell_at M5.out.c1 hrg0, hb6.cell_at M5.out.c2 hrg0, hb6.cell_at M5.out.c3 hrg0⟩
  have hf6 : ∀ k, w6.frozen? ⟨r2, k, none⟩ = false := fun k => by rw [World.frozen?_of_block (w := w5) (hb6.block r2 hz5 hrg)]; exact M4.out k
  have hf7 : ∀ k, w6.frozen? ⟨r, k, none⟩ = false := fun k => by rw [World.frozen?_of_block (w := w5) (hb6.block r hz5r hrg0)]; exact M6.out k
  have ho7 : Only r2 w6 (w6.setCell ⟨r2, 3, none⟩ (.slice b k cc)) := Only.set w6 ⟨r2, 3, none⟩ _
  have hc8 : Cells4 (w6.setCell ⟨r2, 3, none⟩ (.slice b k cc)) r2 (.bool AL) (.int .i64 x) (.int .i64 y) (.slice b k cc) := by
    refine ⟨?_, ?_, ?_, ?_⟩
    · rw [World.cell?_setCell_other _ _ _ _ (by simp)]; exact hc6.c0
    · rw [World.cell?_setCell_other _ _ _ _ (by simp)]; exact hc6.c1
    · rw [World.cell?_setCell_other _ _ _ _ (by simp)]; exact hc6.c2
    · exact World.cell?_setCell_same _ _ _ hc6.c3
  have hc9 : Cells4 (w6.setCell ⟨r2, 3, none⟩ (.slice b k cc)) r (.bool false) (.int .i64 0) (.int .i64 0) (.slice none 0 0) := ⟨by rw [ho7.cell hrr]; exact hc7.c0, by rw [ho7.cell hrr]; exact hc7.c1, by rw [ho7.cell hrr]; exact hc7.c2, by rw [ho7.cell hrr]; exact hc7.c3⟩
  obtain ⟨W7, hW7⟩ : ∃ W, W = w6.setCell ⟨r2, 3, none⟩ (.slice b k cc) := ⟨_, rfl⟩
  rw [← hW7] at ho7 hc8 hc9
  have hf8 : ∀ k, W7.frozen? ⟨r, k, none⟩ = false := fun k => by rw [ho7.frozen hrr]; exact hf7 k
  have hat7 := hat.only ho7 (fun hn b' o' ha => hfr r2 hz5 b' o' ha hn)
  have hr7 := hr6.onlyNew H.out ho7 hw2
  have hb7 := (M2.out.trans hb6).only ho7 hw2
  have ho8 : Only r W7 (four W7 r (.bool AL) (.int .i64 x) (.int .i64 y) (.slice b k cc)) :=
    (((Only.set W7 ⟨r, 0, none⟩ _).trans (Only.set _ ⟨r, 1, none⟩ _)).trans (Only.set _ ⟨r, 2, none⟩ _)).trans (Only.set _ ⟨r, 3, none⟩ _)
  have hat8 := hat7.only ho8 (fun hn b' o' ha => hfr r hz5r b' o' ha hn)
  have hr8 := hr7.onlyNew H.out ho8 hw
  have hb8 := hb7.only ho8 hw
  have hq := four_set hc9 (.bool AL) (.int .i64 x) (.int .i64 y) (.slice b k cc)
  have hfr8 : Fresh w b k := hfr.mono (Nat.le_of_lt (Nat.lt_of_le_of_lt hw2 hz5))
  have z3 := hc6.c3
  have g3 := hf6 3
  have z0 := hc8.c0
  have z1 := hc8.c1
  have z2 := hc8.c2
  have z4 := hc8.c3
  have v0 := hc9.c0
  have v1 := hc9.c1
  have v2 := hc9.c2
  have v3 := hc9.c3
  have s0 := hf8 0
  have s1 := hf8 1
  have s2 := hf8 2
  have s3 := hf8 3
  have HAT := Lib.hid hat8
  have HR8 := Lib.hid hr8
  have HB8 := Lib.hid hb8
  have HQ := Lib.hid hq
  have HFR := Lib.hid hfr8
  have hpo := CPost.of M8.out M9.out hpost.out
  obtain ⟨O, hO⟩ : ∃ b : Bool, b = (is && ok) := ⟨_, rfl⟩
  rw [← hO] at hpo
  have HOO := Lib.hid hO
  have HOK := Lib.hid hpo.ok
  rw [hpo.ok] at hpo
  have HPO := Lib.hid hpo
  unfold four at HQ HAT HR8 HB8
  clear hat hfr hr6 hb6 hpost hrg hrg0 hw hw2 hz5 hz5r hc6 hc7 hf6 hf7 ho7 hc8 hc9 hf8 hat7 hr7 hb7 ho8 hat8 hr8 hb8 hq hfr8 m7 hpo hO
  go_upto_region 10 with fail
  rw [← hW7]
  clear hW7 z3 g3
  cases is <;> cases ok
  all_goals
    go_wp2_with fail
    refine bodyPost_ret (v := .tuple #[codV AL x y b k cc, .bool O]) (by simp [results, Tryd.results76, go_sem, HQ.out.c0, HQ.out.c1, HQ.out.c2, HQ.out.c3, HOO.out]) rfl ?_
    exact ⟨⟨AL, x, y, vs⟩, b, k, cc, by rw [HOK.out], HAT.out, HFR.out, q2, HR8.out, HB8.out, HPO.out⟩
end Go.Proofs.YtooepflfofgnnaaDoor

namespace Go.Proofs.YtooepflfofgnnaaDoor
open Go.ChangeShapes Go.WideShapes Go.ChangeAt Go.RowKit

def putE (low : Int) (zs : List Int) : Nat := if lowB low = false ∨ rgtB zs = false then 1 else if 2000 < (ricL low.toNat zs).length then 4 else 0
def putR (low : Int) (zs : List Int) : List Int := if putE low zs = 0 then ricL low.toNat zs else []
theorem putE_zero {low : Int} {zs : List Int} (h : putE low zs = 0) : 0 ≤ low ∧ low ≤ 7 ∧ (∀ z ∈ zs, -255 ≤ z ∧ z ≤ 255) ∧ (ricL low.toNat zs).length ≤ 2000 := by
  unfold putE at h
  split at h
  · omega
  · rename_i h1
    split at h
    · omega
    · rename_i h2
      have a1 : lowB low = true := by cases hq : lowB low <;> simp_all
      have a2 : rgtB zs = true := by cases hq : rgtB zs <;> simp_all
      simp only [lowB, decide_eq_true_eq] at a1
      exact ⟨a1.1, a1.2, rgtB_yes a2, by omega⟩
theorem wf_bits (low : Nat) (zs : List Int) : ∀ z ∈ ricL low zs, -9223372036854775808 ≤ z ∧ z ≤ 9223372036854775807 := fun z hz => by
  have := ricL_bit low zs z hz; omega

def bslF (zs : List Int) (j : Nat) : Nat := (ricL j zs).length
def bslE (zs : List Int) : Nat := if rgtB zs = false then 1 else if (bstL (bslF zs) 8).1 < 0 then 4 else 0
def bslV (zs : List Int) : Int := if bslE zs = 0 then (bstL (bslF zs) 8).1 else 0
theorem bstL_bd (f : Nat → Nat) (j : Nat) : -1 ≤ (bstL f j).1 ∧ (bstL f j).1 < max j 1 ∧ 0 ≤ (bstL f j).2 ∧ (bstL f j).2 ≤ 2000 := by
  rcases bst_LR f j with ⟨h1, _, _⟩ | ⟨h1, h2, h3, h4, h5, h6⟩
  · rw [h1]; simp; omega
  · omega
end Go.Proofs.YtooepflfofgnnaaDoor

namespace Go.Proofs.YtooepflfofgnnaaDoor
open Go.ChangeShapes Go.WideShapes Go.ChangeAt Go.RowKit

def bitB (n : Int) : Bool := decide (n = 0 ∨ n = 1)
def bitsB (zs : List Int) : Bool := !zs.any fun z => !bitB z
theorem bitsB_yes {zs : List Int} (h : bitsB zs = true) : ∀ z ∈ zs, z = 0 ∨ z = 1 := by
  intro z hz
  simp only [bitsB, Bool.not_eq_true', List.any_eq_false] at h
  have := h z hz
  cases hq : bitB z with
  | true => exact of_decide_eq_true hq
  | false => exact absurd (by simp [hq]) this
theorem bitsB_of {zs : List Int} (h : ∀ z ∈ zs, z = 0 ∨ z = 1) : bitsB zs = true := by
  simp only [bitsB, Bool.not_eq_true', List.any_eq_false]
  intro z hz
  have hq : bitB z = true := decide_eq_true (h z hz)
  rw [hq]; simp
theorem newReader (a : Option Addr) (n cap : Nat) (zs : List Int) (w : World) (h : IntsAt w a n cap zs) :
    Calls Tryd.prog 75 #[.slice a n cap] w fun e w' => ∃ g, e = .returned (.pointer (some ⟨g, 0, none⟩)) ∧ w.heap.size ≤ g ∧ Rd w' g a n cap 0 zs ∧ Lat w w' := by
  have hf := h.far (g := w.heap.size) (Nat.le_refl _)
  have H := Lib.hid h
  have HF := Lib.hid hf
  clear h hf
  go_enter Tryd.func75, Tryd.ntmps75
  go_wp2
  go_ret
  exact ⟨w.heap.size, rfl, Nat.le_refl _, ⟨by simp, by simp, by simp, H.out.keep (Lat.alloc _ _), HF.out, Nat.zero_le _⟩, Lat.alloc _ _⟩

def gotN (low many : Nat) (zs : List Int) : Option (List Int) := match numbs low many zs with
  | some (vs, []) => some vs
  | _ => none
def getE (low many : Int) (zs : List Int) : Nat :=
  if lowB low = false ∨ many < 0 ∨ 2000 < many then 1 else if 2000 < zs.length then 4 else if bitsB zs = false then 1 else if gotN low.toNat many.toNat zs = none then 2 else 0
def getR (low many : Int) (zs : List Int) : List Int := if getE low many zs = 0 then (gotN low.toNat many.toNat zs).getD [] else []
theorem getR_bad {low many : Int} {zs : List Int} (h : getE low many zs ≠ 0) : getR low many zs = [] := by unfold getR; rw [if_neg h]
theorem gotN_none {low many : Nat} {zs vs : List Int} {ok : Bool} {q : Nat} (h : NumsPost low many zs 0 vs ok q) (hq : ok = true → zs.drop q ≠ []) : gotN low many zs = none := by
  unfold NumsPost at h
  unfold gotN
  rw [List.drop_zero] at h
  cases hn : numbs low many zs with
  | none => rfl
  | some x =>
    obtain ⟨us, r⟩ := x
    rw [hn] at h
    have := hq h.1
    rw [h.2.2] at this
    cases r with
    | nil => exact absurd rfl this
    | cons b t => rfl
theorem gotN_some {low many : Nat} {zs vs : List Int} {q : Nat} (h : NumsPost low many zs 0 vs true q) (hq : zs.drop q = []) : gotN low many zs = some vs := by
  unfold NumsPost at h
  unfold gotN
  rw [List.drop_zero] at h
  cases hn : numbs low many zs with
  | none => rw [hn] at h; exact absurd h.1 (by simp)
  | some x =>
    obtain ⟨us, r⟩ := x
    rw [hn] at h
    rw [h.2.2] at hq
    rw [hq, h.2.1]
end Go.Proofs.YtooepflfofgnnaaDoor

namespace Go.Proofs.YtooepflfofgnnaaDoor
open Go.ChangeShapes Go.WideShapes Go.ChangeAt Go.RowKit

def unBits (b : ByteArray) : List Int := bitsOf (b.data.toList.drop 4)
def unO (b : ByteArray) : Option (List Ct) := match rdCs (bt b 0 * bt b 1) (bt b 3) (unBits b) with
  | none => none
  | some (cs, _) => if pkE (bt b 0) (bt b 1) (bt b 2) cs = 0 ∧ pkS (bt b 0) (bt b 1) (bt b 2) cs = b then some cs else none
def unE (b : ByteArray) : Nat := if 120 < b.size then 4 else if b.size < 4 then 2 else if (unO b).isSome = true then 0 else 2
def unL (b : ByteArray) : List Ct := if unE b = 0 then (unO b).getD [] else []
def unV (b : ByteArray) (j : Nat) : Int := if unE b = 0 then bt b j else 0
theorem unL_bad {b : ByteArray} (h : unE b ≠ 0) : unL b = [] := by unfold unL; rw [if_neg h]
theorem unV_bad {b : ByteArray} (h : unE b ≠ 0) (j : Nat) : unV b j = 0 := by unfold unV; rw [if_neg h]
structure UInv (g : Nat) (W1 wr : World) (v : Value) (cs : List Cd) : Prop where
  own : OwnR wr W1.heap.size 110 4 v (cs.map Cd.row)
  but : But g W1 wr
  rest : ∀ c ∈ cs, IntsAt wr c.a c.n c.cap c.c.rs ∧ Off c.a c.n g v
  glt : g < W1.heap.size
theorem UInv.sz {g : Nat} {W1 wr : World} {v : Value} {cs : List Cd} (h : UInv g W1 wr v cs) : g < wr.heap.size := Nat.lt_of_lt_of_le h.glt h.but.size
theorem UInv.onBut {g : Nat} {W1 wr wr' : World} {v : Value} {cs : List Cd} (h : UInv g W1 wr v cs) (hb : But g wr wr') : UInv g W1 wr' v cs := by
  refine ⟨⟨h.own.1, ?_⟩, h.but.trans hb, fun c hc => ⟨(h.rest c hc).1.but hb (fun hn b o ha => ((h.rest c hc).2 hn b o ha).1), (h.rest c hc).2⟩, h.glt⟩
  obtain ⟨h1, h2⟩ := h.own.2
  refine ⟨h1, ?_⟩
  rcases h2 with h2 | ⟨k, cap, cur, rfl, hbb, hh, rest⟩
  · exact .inl h2
  · exact .inr ⟨k, cap, cur, rfl, hbb, by rw [hb.block k (h.own.lt k rfl).2 (by have := h.glt; omega)]; exact hh, rest⟩
theorem UInv.app {g : Nat} {W1 wr w' : World} {v v' : Value} {cs : List Cd} (h : UInv g W1 wr v cs) {c : Cd} (hat : IntsAt wr c.a c.n c.cap c.c.rs) (hf : Off c.a c.n g v)
    (ho : OwnR w' W1.heap.size 110 4 v' (cs.map Cd.row ++ [c.row])) (hb : Below W1.heap.size wr w') (hs : AppStep wr w' v v') : UInv g W1 w' v' (cs ++ [c]) := by
  refine ⟨by rw [List.map_append]; exact ho, h.but.below hb, fun x hx => ?_, h.glt⟩
  rcases List.mem_append.1 hx with hx | hx
  · exact (h.rest x hx).1.step hs (h.rest x hx).2
  · rw [List.mem_singleton.1 hx]; exact hat.step hs hf
theorem Rd.behind {w w' : World} {g B : Nat} {a : Option Addr} {n cap p : Nat} {zs : List Int} (h : Rd w g a n cap p zs) (hb : Below B w w') (hg : g < B) (hn : n ≠ 0 → ∀ b o, a = some ⟨b, o, none⟩ → b < B) : Rd w' g a n cap p zs := by
  refine ⟨by rw [hb.cell (p := ⟨g, 0, none⟩) hg]; exact h.c0, by rw [hb.cell (p := ⟨g, 1, none⟩) hg]; exact h.c1, by rw [hb.frozen (p := ⟨g, 1, none⟩) hg]; exact h.f1, ⟨h.ints.len, ⟨h.ints.row.le, h.ints.row.cap, fun hn0 => ?_⟩, h.ints.wf⟩, h.far, h.le⟩
  obtain ⟨b, o, ha, hc⟩ := h.ints.row.at_ hn0
  exact ⟨b, o, ha, fun j hj => by rw [hb.cell (p := ⟨b, o + j, none⟩) (hn hn0 b o ha)]; exact hc j hj⟩

theorem toList_ne {a b : ByteArray} (h : a ≠ b) : (a.toList == b.toList) = false := by
  rw [beq_eq_false_iff_ne]
  intro e
  rw [ByteArray.toList_eq, ByteArray.toList_eq] at e
  exact h (bytes_inj e)
theorem take_snocB (l : List UInt8) {k : Nat} (h : k < l.length) : l.take (k + 1) = l.take k ++ [l.getD k 0] := by
  rw [List.take_add_one, List.getElem?_eq_getElem h, List.getD_eq_getElem?_getD, List.getElem?_eq_getElem h]; rfl

set_option maxHeartbeats 4000000 in
set_option maxRecDepth 100000 in
theorem unpack_any (b : ByteArray) (w : World) (hsz : b.size ≤ maxLen) :
    Calls Tryd.prog 40 #[.string b] w fun e w' => ∃ a cap cs, e = .returned (.tuple #[.int .i64 (unV b 0), .int .i64 (unV b 1), .int .i64 (unV b 2), .slice a cs.length cap, errv (unE b)]) ∧ CodsAt w' a cs.length cap cs ∧ cs.map Cd.c = unL b ∧ Lat w w' := by
  obtain ⟨E, hE⟩ : ∃ E, E = unE b := ⟨_, rfl⟩
  obtain ⟨L, hL⟩ : ∃ E, E = unL b := ⟨_, rfl⟩
  obtain ⟨V0, hV0⟩ : ∃ E, E = unV b 0 := ⟨_, rfl⟩
  obtain ⟨V1, hV1⟩ : ∃ E, E = unV b 1 := ⟨_, rfl⟩
  obtain ⟨V2, hV2⟩ : ∃ E, E = unV b 2 := ⟨_, rfl⟩
  have hbad : E ≠ 0 → L = [] ∧ V0 = 0 ∧ V1 = 0 ∧ V2 = 0 := fun h => by rw [hE] at h; rw [hL, hV0, hV1, hV2]; exact ⟨unL_bad h, unV_bad h 0, unV_bad h 1, unV_bad h 2⟩
  have hgood : E = 0 → L = (unO b).getD [] ∧ V0 = bt b 0 ∧ V1 = bt b 1 ∧ V2 = bt b 2 := fun h => by
    rw [hE] at h; rw [hL, hV0, hV1, hV2]; unfold unL unV; rw [if_pos h, if_pos h, if_pos h, if_pos h]; exact ⟨rfl, rfl, rfl, rfl⟩
  have hE2 : E = if 120 < b.size then 4 else if b.size < 4 then 2 else if (unO b).isSome = true then 0 else 2 := hE
  rw [← hE, ← hL, ← hV0, ← hV1, ← hV2]
  have HBAD := Lib.hid hbad
  have HGOOD := Lib.hid hgood
  have HE := Lib.hid hE2
  unfold maxLen at hsz
  clear hE hL hV0 hV1 hV2 hbad hgood hE2
  by_cases h120 : 120 < b.size
  · have d1 : decide (120 < (b.size : Int)) = true := decide_eq_true (by omega)
    have e1 : E = 4 := by rw [HE.out, if_pos h120]
    obtain ⟨rfl, rfl, rfl, rfl⟩ := HBAD.out (by omega)
    rw [e1, show errv 4 = eno 4 from errv_pos (by omega)]
    clear e1 h120
    go_enter Tryd.func40, Tryd.ntmps40
    go_wp2_with fail
    exact bodyPost_ret (v := .tuple #[.int .i64 0, .int .i64 0, .int .i64 0, .slice none 0 0, eno 4]) (by simp [results, Tryd.results40, go_sem]) rfl ⟨none, 0, [], rfl, CodsAt.nil _, rfl, Lat.refl _⟩
  have d1 : decide (120 < (b.size : Int)) = false := decide_eq_false (by omega)
  by_cases h4 : b.size < 4
  · have d2 : decide ((b.size : Int) < 4) = true := decide_eq_true (by omega)
    have e1 : E = 2 := by rw [HE.out, if_neg h120, if_pos h4]
    obtain ⟨rfl, rfl, rfl, rfl⟩ := HBAD.out (by omega)
    rw [e1, show errv 2 = eno 2 from errv_pos (by omega)]
    clear e1 h120 h4
    go_enter Tryd.func40, Tryd.ntmps40
    go_wp2_with fail
    exact bodyPost_ret (v := .tuple #[.int .i64 0, .int .i64 0, .int .i64 0, .slice none 0 0, eno 2]) (by simp [results, Tryd.results40, go_sem]) rfl ⟨none, 0, [], rfl, CodsAt.nil _, rfl, Lat.refl _⟩
  have d2 : decide ((b.size : Int) < 4) = false := decide_eq_false (by omega)
  have hE3 : E = if (unO b).isSome = true then 0 else 2 := by rw [HE.out, if_neg h120, if_neg h4]
  have HE3 := Lib.hid hE3
  have g0 : 0 < b.size := by omega
  have g1 : 1 < b.size := by omega
  have g2 : 2 < b.size := by omega
  have g3 : 3 < b.size := by omega
  have i0 : (0:Int) < (b.size : Int) := by omega
  have i1 : (1:Int) < (b.size : Int) := by omega
  have i2 : (2:Int) < (b.size : Int) := by omega
  have i3 : (3:Int) < (b.size : Int) := by omega
  have hb4 : 4 ≤ b.size := by omega
  have hb120 : b.size ≤ 120 := by omega
  have HX : Hid ((b[0]'g0).toNat = bt b 0 ∧ (b[1]'g1).toNat = bt b 1 ∧ (b[2]'g2).toNat = bt b 2 ∧ (b[3]'g3).toNat = bt b 3) := ⟨bt_get b 0 g0, bt_get b 1 g1, bt_get b 2 g2, bt_get b 3 g3⟩
  clear hE3 h120 h4 HE
  go_enter Tryd.func40, Tryd.ntmps40
  go_wp2_with fail
  refine wp_region_gate (fun _ => True) (fun _ => True) 1000 (by kernel_rfl) ?_
  refine gate_takeF (i := 0) (v := ?_) rfl (by kernel_rfl) (by kernel_rfl) (by kernel_rfl) (fun _ _ _ h => h) (by decide) ⟨trivial, fun _ => trivial⟩ (Or.inl ⟨by rfl, ?_⟩) ?_
  rotate_left
  · intro wq hSw; go_simp; rfl
  simp only [Act.put]
  refine gate_takeF (i := 1) (v := ?_) rfl (by kernel_rfl) (by kernel_rfl) (by kernel_rfl) (fun _ _ _ h => h) (by decide) ⟨trivial, fun _ => trivial⟩ (Or.inl ⟨by rfl, ?_⟩) ?_
  rotate_left
  · intro wq hSw; go_simp; rfl
  simp only [Act.put]
  refine gate_takeF (i := 2) (v := ?_) rfl (by kernel_rfl) (by kernel_rfl) (by kernel_rfl) (fun _ _ _ h => h) (by decide) ⟨trivial, fun _ => trivial⟩ (Or.inl ⟨by rfl, ?_⟩) ?_
  rotate_left
  · intro wq hSw; go_simp; rfl
  simp only [Act.put]
  refine gate_takeF (i := 3) (v := ?_) rfl (by kernel_rfl) (by kernel_rfl) (by kernel_rfl) (fun _ _ _ h => h) (by decide) ⟨trivial, fun _ => trivial⟩ (Or.inl ⟨by rfl, ?_⟩) ?_
  rotate_left
  · intro wq hSw; go_simp; rfl
  simp only [Act.put]
  refine gate_takeF (i := 4) (v := ?_) rfl (by kernel_rfl) (by kernel_rfl) (by kernel_rfl) (fun _ _ _ h => h) (by decide) ⟨trivial, fun _ => trivial⟩ (Or.inl ⟨by rfl, ?_⟩) ?_
  rotate_left
  · intro wq hSw; go_simp; rfl
  simp only [Act.put]
  refine gate_takeF (i := 5) (v := ?_) rfl (by kernel_rfl) (by kernel_rfl) (by kernel_rfl) (fun _ _ _ h => h) (by decide) ⟨trivial, fun _ => trivial⟩ (Or.inl ⟨by rfl, ?_⟩) ?_
  rotate_left
  · intro wq hSw; go_simp; rfl
  simp only [Act.put]
  refine gate_takeF (i := 6) (v := ?_) rfl (by kernel_rfl) (by kernel_rfl) (by kernel_rfl) (fun _ _ _ h => h) (by decide) ⟨trivial, fun _ => trivial⟩ (Or.inl ⟨by rfl, ?_⟩) ?_
  rotate_left
  · intro wq hSw; go_simp; rfl
  simp only [Act.put]
  refine gate_takeF (i := 7) (v := ?_) rfl (by kernel_rfl) (by kernel_rfl) (by kernel_rfl) (fun _ _ _ h => h) (by decide) ⟨trivial, fun _ => trivial⟩ (Or.inl ⟨by rfl, ?_⟩) ?_
  rotate_left
  · intro wq hSw; go_simp; rfl
  simp only [Act.put]
  refine gate_takeF (i := 8) (v := ?_) rfl (by kernel_rfl) (by kernel_rfl) (by kernel_rfl) (fun _ _ _ h => h) (by decide) ⟨trivial, fun _ => trivial⟩ (Or.inl ⟨by rfl, ?_⟩) ?_
  rotate_left
  · intro wq hSw; go_simp; rfl
  simp only [Act.put]
  refine gate_takeF (i := 9) (v := ?_) rfl (by kernel_rfl) (by kernel_rfl) (by kernel_rfl) (fun _ _ _ h => h) (by decide) ⟨trivial, fun _ => trivial⟩ (Or.inl ⟨by rfl, ?_⟩) ?_
  rotate_left
  · intro wq hSw; go_simp; rfl
  simp only [Act.put]
  refine gate_takeF (i := 10) (v := ?_) rfl (by kernel_rfl) (by kernel_rfl) (by kernel_rfl) (fun _ _ _ h => h) (by decide) ⟨trivial, fun _ => trivial⟩ (Or.inl ⟨by rfl, ?_⟩) ?_
  rotate_left
  · intro wq hSw; go_simp; rfl
  simp only [Act.put]
  refine gate_takeF (i := 11) (v := ?_) rfl (by kernel_rfl) (by kernel_rfl) (by kernel_rfl) (fun _ _ _ h => h) (by decide) ⟨trivial, fun _ => trivial⟩ (Or.inl ⟨by rfl, ?_⟩) ?_
  rotate_left
  · intro wq hSw; go_simp; rfl
  simp only [Act.put]
  refine gate_takeF (i := 12) (v := ?_) rfl (by kernel_rfl) (by kernel_rfl) (by kernel_rfl) (fun _ _ _ h => h) (by decide) ⟨trivial, fun _ => trivial⟩ (Or.inl ⟨by rfl, ?_⟩) ?_
  rotate_left
  · intro wq hSw; go_simp; rfl
  simp only [Act.put]
  refine gate_takeF (i := 13) (v := ?_) rfl (by kernel_rfl) (by kernel_rfl) (by kernel_rfl) (fun _ _ _ h => h) (by decide) ⟨trivial, fun _ => trivial⟩ (Or.inl ⟨by rfl, ?_⟩) ?_
  rotate_left
  · intro wq hSw; go_simp; rfl
  simp only [Act.put]
  refine gate_takeF (i := 14) (v := ?_) rfl (by kernel_rfl) (by kernel_rfl) (by kernel_rfl) (fun _ _ _ h => h) (by decide) ⟨trivial, fun _ => trivial⟩ (Or.inl ⟨by rfl, ?_⟩) ?_
  rotate_left
  · intro wq hSw; go_simp; rfl
  simp only [Act.put]
  refine gate_takeF (i := 15) (v := ?_) rfl (by kernel_rfl) (by kernel_rfl) (by kernel_rfl) (fun _ _ _ h => h) (by decide) ⟨trivial, fun _ => trivial⟩ (Or.inl ⟨by rfl, ?_⟩) ?_
  rotate_left
  · intro wq hSw; go_simp; rfl
  simp only [Act.put]
  refine gate_done (by kernel_rfl) ?_ _
  simp only [List.getElem_toArray, List.getElem_cons_succ, List.getElem_cons_zero]; go_simp
  rw [HX.out.1, HX.out.2.1, HX.out.2.2.1, HX.out.2.2.2]
  obtain ⟨A0, hA0⟩ : ∃ x, x = bt b 0 := ⟨_, rfl⟩
  obtain ⟨A1, hA1⟩ : ∃ x, x = bt b 1 := ⟨_, rfl⟩
  obtain ⟨A2, hA2⟩ : ∃ x, x = bt b 2 := ⟨_, rfl⟩
  obtain ⟨A3, hA3⟩ : ∃ x, x = bt b 3 := ⟨_, rfl⟩
  rw [← hA0, ← hA1, ← hA2, ← hA3]
  have l0 : A0 < 256 := by rw [hA0]; exact bt_lt b 0
  have l1 : A1 < 256 := by rw [hA1]; exact bt_lt b 1
  have l2 : A2 < 256 := by rw [hA2]; exact bt_lt b 2
  have l3 : A3 < 256 := by rw [hA3]; exact bt_lt b 3
  have hO : unO b = match rdCs (A0 * A1) A3 (unBits b) with
      | none => none
      | some (cs, _) => if pkE A0 A1 A2 cs = 0 ∧ pkS A0 A1 A2 cs = b then some cs else none := by rw [hA0, hA1, hA2, hA3]; rfl
  have hgood : E = 0 → L = (unO b).getD [] ∧ V0 = A0 ∧ V1 = A1 ∧ V2 = A2 := by rw [hA0, hA1, hA2]; exact HGOOD.out
  have HO2 := Lib.hid hO
  have HGOOD2 := Lib.hid hgood
  clear hA0 hA1 hA2 hA3 hO hgood HGOOD HX
  rw [show IntKind.i64.wrap (A0 : Int) = A0 from IntWalk.i64_in _ (by omega), show IntKind.i64.wrap (A1 : Int) = A1 from IntWalk.i64_in _ (by omega), show IntKind.i64.wrap (A2 : Int) = A2 from IntWalk.i64_in _ (by omega), show IntKind.i64.wrap (A3 : Int) = A3 from IntWalk.i64_in _ (by omega)]
  clear i0 i1 i2 i3 g0 g1 g2 g3
  obtain ⟨X, hX⟩ : ∃ X, X = b.extract 4 b.size := ⟨_, rfl⟩
  have hXs : X.size = b.size - 4 := by rw [hX, ByteArray.size_extract]; omega
  have hXb : ∀ j, bt X j = ((b.data.toList.drop 4).getD j 0).toNat := fun j => by
    rw [hX]
    unfold bt
    congr 1
    have : (b.extract 4 b.size).data.toList = b.data.toList.drop 4 := by
      rw [ByteArray.data_extract, Array.toList_extract]
      simp [List.take_of_length_le]
    rw [this]
  have HXS := Lib.hid hXs
  have HXB := Lib.hid hXb
  have hW0 : ∃ W, W = w.drewN 1 := ⟨_, rfl⟩
  go_wp2_with (refine wpList_conv_bytes _ rfl _ _ _ 5 rfl Tryd.underlying9 Tryd.underlying111 Tryd.underlying5 _ rfl ?_)
  rw [← hX]
  intro gc cp w1 hg hcap hb1 hszw hcell hfr
  obtain ⟨N4, hN4⟩ : ∃ N, N = b.size - 4 := ⟨_, rfl⟩
  obtain ⟨l, hl⟩ : ∃ l, l = b.data.toList.drop 4 := ⟨_, rfl⟩
  have hll : l.length = N4 := by rw [hl, hN4, List.length_drop]; rfl
  have hub : unBits b = bitsOf (l.take N4) := by rw [List.take_of_length_le (by omega), hl]; rfl
  have hcl : ∀ j, j < N4 → w1.cell? ⟨gc, j, none⟩ = some (.int .u8 ((l.getD j 0).toNat : Int)) := fun j hj => by
    rw [hl, ← HXB.out j]; exact hcell j (by omega)
  have hN : N4 ≤ 116 := by omega
  have HLL := Lib.hid hll
  have HUB := Lib.hid hub
  have HCL := Lib.hid hcl
  have hL1 : Lat w w1 := ⟨hb1.os, hb1.tape, hb1.output, hb1.size, hb1.block⟩
  have HL1 := Lib.hid hL1
  have hcp : N4 ≤ cp := by omega
  clear hcap
  go_wp2_with fail
  rw [← hN4]
  have hgl : gc < w1.heap.size := by rw [hszw, hg]; omega
  have HGL := Lib.hid hgl
  clear hl hll hub hcl hL1 HXS HXB hXs hXb hX hcell hfr hszw hb1 hgl hg hN4 hb4 hb120 hW0 hsz
  go_loopw [11, 44] (fun v i wx => ∃ k : Nat, k ≤ N4 ∧ i = .int .i64 k ∧ Hid (OwnInts wx w1.heap.size v (bitsOf (l.take k)) ∧ Lat w1 wx)) (fun _ i _ => N4 - (intOf i).toNat)
  case atStart => exact ⟨0, Nat.zero_le _, rfl, Own.nil _ _ _, Lat.refl _⟩
  case round =>
    obtain ⟨k, hk, rfl, hrel⟩ := hrel
    obtain ⟨ho, hb⟩ := hrel.out
    have HO := Lib.hid ho
    have HB := Lib.hid hb
    clear hrel ho hb
    by_cases hlt : k < N4
    · obtain ⟨D, hD⟩ : ∃ D, D = (l.getD k 0).toNat := ⟨_, rfl⟩
      have hD2 : D < 256 := by rw [hD]; exact UInt8.toNat_lt _
      have c0 : wr.cell? ⟨gc, k, none⟩ = some (.int .u8 (D : Int)) := by rw [hD]; exact HB.out.cell_at (HCL.out k hlt)
      have e1 : IntKind.i64.wrap (D : Int) = D := IntWalk.i64_in _ (by omega)
      have hstp : bitsOf (l.take (k + 1)) = bitsOf (l.take k) ++ lowb D 8 := by
        rw [take_snocB l (by have := HLL.out; omega), bitsOf_append, hD]
        show _ ++ (lowb (l.getD k 0).toNat 8 ++ []) = _
        rw [List.append_nil]
      have hsp := spread_at D 8 wr (by omega) (by omega)
      have hlen : (bitsOf (l.take k)).length ≤ 928 := by rw [bitsOf_len, List.length_take]; omega
      obtain ⟨L, hL⟩ : ∃ L, L = bitsOf (l.take k) := ⟨_, rfl⟩
      have ho := HO.out
      rw [← hL] at ho hstp hlen
      have HO := Lib.hid ho
      have HST := Lib.hid hstp
      have HLN := Lib.hid hlen
      have HSP := Lib.hid hsp
      clear hstp hsp hlen ho hL hD
      go_wp2_with fail
      refine HSP.out.mono ?_
      rintro e w3 ⟨a3, c3, rfl, hat3, hb3⟩
      have HAT3 := Lib.hid hat3
      have HO3 := Lib.hid (Own.keep HO.out hb3)
      have HB3 := Lib.hid (Lat.trans HB.out hb3)
      clear hat3 hb3 c0
      go_wp2_with (at_builtin; refine app_ints w3 w1 _ rfl _ _ rfl _ _ _ rfl HO3.out _ _ _ rfl HAT3.out (by have := HLN.out; omega) rfl HB3.out ?_)
      intro v4 w4 hown4 hb4 hs4
      have HO4 := Lib.hid hown4
      have HB4 := Lib.hid hb4
      clear hown4 hb4 hs4
      go_wp2_with fail
      go_roundw
      case rel => exact ⟨k + 1, by omega, by go_num, by rw [HST.out]; exact HO4.out, HB4.out⟩
      case measure => simp [intOf]; omega
    · obtain rfl : k = N4 := by omega
      obtain ⟨LB, hLB⟩ : ∃ L, L = unBits b := ⟨_, rfl⟩
      have ho := HO.out
      rw [← HUB.out, ← hLB] at ho
      have hbit : ∀ z ∈ LB, z = 0 ∨ z = 1 := by rw [hLB]; exact bitsOf_bit _
      have hln : LB.length ≤ 928 := by rw [hLB, HUB.out, bitsOf_len, List.length_take]; omega
      obtain ⟨nL, hnL⟩ : ∃ n, LB.length = n := ⟨_, rfl⟩
      obtain ⟨xa, xc, rfl, hat⟩ := OwnInts.sliceN ho (fun z hz => by rcases hbit z hz with h | h <;> omega) hnL
      have hO2 := HO2.out
      rw [← hLB] at hO2
      have HAT := Lib.hid hat
      have HBIT := Lib.hid hbit
      have HLW := Lib.hid (Lat.trans HL1.out HB.out)
      have HO3 := Lib.hid hO2
      have hnl : nL ≤ 928 := by omega
      clear ho hbit hat hO2 hLB HUB HLL HCL HO HB HGL hln hk hlt hnL
      go_wp2_with fail
      refine (newReader xa nL xc LB wr HAT.out).mono ?_
      rintro e w2 ⟨g, rfl, hgg, hrd, hb2⟩
      have HG := Lib.hid (Nat.le_trans HLW.out.size hgg)
      have HRD := Lib.hid hrd
      have HW2 := Lib.hid (Lat.trans HLW.out hb2)
      clear hgg hrd hb2 HAT HLW
      go_wp2_with fail
      obtain ⟨M, hM⟩ : ∃ M, M = A0 * A1 := ⟨_, rfl⟩
      have hM1 : M ≤ 65025 := by rw [hM]; exact Nat.le_trans (Nat.mul_le_mul (show A0 ≤ 255 by omega) (show A1 ≤ 255 by omega)) (by decide)
      have hmul : IntKind.i64.wrap ((A0 : Int) * (A1 : Int)) = (M : Int) := by
        rw [show (A0 : Int) * (A1 : Int) = (M : Int) by rw [hM]; exact (Int.natCast_mul _ _).symm]
        exact IntWalk.i64_in _ (by omega)
      have hO2 := HO3.out
      rw [← hM] at hO2
      have HO4 := Lib.hid hO2
      clear hM hO2 HO3
      generalize w2 = w2 at *
      go_loopw [15, 57] (fun v i wx => ∃ (k p : Nat) (cs : List Cd), k ≤ A3 ∧ i = .int .i64 k ∧ cs.length = k ∧ Hid (rdCs M k LB = some (cs.map Cd.c, LB.drop p)) ∧ Hid (UInv g w2 wx v cs ∧ Rd wx g xa nL xc p LB)) (fun _ i _ => A3 - (intOf i).toNat)
      case atStart => exact ⟨0, 0, [], Nat.zero_le _, rfl, rfl, rfl, ⟨OwnR.nil _ _ _ _, But.refl _ _, by simp, HRD.out.lt⟩, HRD.out⟩
      case round =>
        obtain ⟨k, p, cs, hk, rfl, hcl, HR, hrel⟩ := hrel
        obtain ⟨hu, hrd⟩ := hrel.out
        have HU := Lib.hid hu
        have HD := Lib.hid hrd
        have HCS := Lib.hid hcl
        clear hrel hu hrd hcl
        by_cases hlt : k < A3
        · have hcall := coded_any wr g xa nL xc p M LB HD.out HBIT.out (by omega) (by omega)
          obtain ⟨O, hO⟩ : ∃ O, O = (rdC M (LB.drop p)).isSome := ⟨_, rfl⟩
          rw [← hO] at hcall
          have HCA := Lib.hid hcall
          have HOO := Lib.hid hO
          clear hcall hO
          go_wp2_with fail
          refine HCA.out.mono ?_
          rintro e w3 ⟨c, cb, ck, cc, q, rfl, hat, hfr, hrd3, hbut, hpo⟩
          clear HCA
          have hu3 := HU.out.onBut hbut
          have hoff := Off.fresh hfr HU.out.sz (fun k hk => (HU.out.own.lt k hk).2)
          obtain ⟨gb, hgb⟩ : ∃ g, g = w3.heap.size := ⟨_, rfl⟩
          obtain ⟨W5, hW5⟩ : ∃ W, W = w3.alloc (.cells #[.bool c.al, .int .i64 c.x, .int .i64 c.y, .slice cb ck cc] 110) := ⟨_, rfl⟩
          have hl5 : Lat w3 W5 := by rw [hW5]; exact Lat.alloc _ _
          have q0 : W5.cell? ⟨gb, 0, none⟩ = some (.bool c.al) := by rw [hW5]; exact cell_new hgb rfl
          have q1 : W5.cell? ⟨gb, 1, none⟩ = some (.int .i64 c.x) := by rw [hW5]; exact cell_new hgb rfl
          have q2 : W5.cell? ⟨gb, 2, none⟩ = some (.int .i64 c.y) := by rw [hW5]; exact cell_new hgb rfl
          have q3 : W5.cell? ⟨gb, 3, none⟩ = some (.slice cb ck cc) := by rw [hW5]; exact cell_new hgb rfl
          have hu5 := hu3.onBut (But.of_lat (g := g) hl5)
          have HU5 := Lib.hid hu5
          have HD5 := Lib.hid (hrd3.keep hl5)
          have HAT5 := Lib.hid (hat.keep hl5)
          have HOFF := Lib.hid hoff
          have HPO := Lib.hid hpo.out
          clear hat hfr hrd3 hbut hpo hu3 hoff hl5 hu5
          go_upto_region 17 with fail
          rw [← hgb, ← hW5]
          clear hW5 hgb
          cases O with
          | false =>
            have hdead : rdCs M A3 LB = none := by
              have h1 := rdCs_snoc HR.out
              have h2 : rdC M (LB.drop p) = none := by
                cases hr : rdC M (LB.drop p) with
                | none => rfl
                | some v => have := HOO.out; rw [hr] at this; cases this
              rw [h2] at h1
              exact rdCs_dead h1 (by omega)
            have hun : unO b = none := by rw [HO4.out, hdead]
            have hE : E = 2 := by rw [HE3.out, hun]; rfl
            have hb := HBAD.out (by omega)
            have hlw : Lat w W5 := HU5.out.but.lat HW2.out HG.out
            have HLW := Lib.hid hlw
            have HBB := Lib.hid hb
            have HEE := Lib.hid hE
            clear hdead hun hE hb hlw q0 q1 q2 q3
            go_wp2_with fail
            exact bodyPost_ret (v := .tuple #[.int .i64 0, .int .i64 0, .int .i64 0, .slice none 0 0, eno 2]) (by simp [results, Tryd.results40, go_sem]) rfl ⟨none, 0, [], by
              rw [HBB.out.2.1, HBB.out.2.2.1, HBB.out.2.2.2, HEE.out, show errv 2 = eno 2 from errv_pos (by omega)]; rfl, CodsAt.nil _, by rw [HBB.out.1]; rfl, HLW.out⟩
          | true =>
            have hstp : rdCs M (k + 1) LB = some ((cs ++ [(⟨c, cb, ck, cc⟩ : Cd)]).map Cd.c, LB.drop q) := by
              have h1 := rdCs_snoc HR.out
              have h2 := HPO.out
              unfold CPost at h2
              cases hr : rdC M (LB.drop p) with
              | none => have := HOO.out; rw [hr] at this; cases this
              | some v =>
                obtain ⟨d, r⟩ := v
                rw [hr] at h1 h2
                obtain ⟨_, rfl, rfl⟩ := h2
                rw [h1, List.map_append]; rfl
            have HST := Lib.hid hstp
            clear hstp HPO HOO
            go_wp2_with (at_builtin; refine appR W5 w2.heap.size rfl _ _ 73 rfl 110 _ 4 48 Tryd.underlying73 info_Coded rfl (by decide) (by decide) _ _ _ (by rfl) HU5.out.own rfl (by rfl) (fun u hu => by simp at hu; rcases hu with rfl | rfl | rfl | rfl <;> rfl) (by rw [List.length_map, HCS.out]; omega) HU5.out.but.size ?_)
            intro v' w6 hown6 hb6 hstep6
            have hu6 := HU5.out.app (c := ⟨c, cb, ck, cc⟩) HAT5.out HOFF.out hown6 hb6 hstep6
            have hd6 := Rd.below HRD.out HD5.out HU5.out.but hb6
            have HU6 := Lib.hid hu6
            have HD6 := Lib.hid hd6
            clear hown6 hb6 hstep6 hu6 hd6 q0 q1 q2 q3
            go_wp2_with fail
            go_roundw
            case rel => exact ⟨k + 1, q, cs ++ [⟨c, cb, ck, cc⟩], by omega, by go_num, by rw [List.length_append, HCS.out]; rfl, HST, HU6.out, HD6.out⟩
            case measure => simp [intOf]; omega
        · obtain rfl : k = A3 := by omega
          obtain ⟨va, vc, rfl, hat⟩ := CodsAt.of HU.out.own (fun c hc => (HU.out.rest c hc).1) HCS.out
          have hun : unO b = if pkE A0 A1 A2 (cs.map Cd.c) = 0 ∧ pkS A0 A1 A2 (cs.map Cd.c) = b then some (cs.map Cd.c) else none := by rw [HO4.out, HR.out]
          have hpk := pack_any A0 A1 A2 va k vc cs wr hat
          obtain ⟨PE, hPE⟩ : ∃ x, x = pkE A0 A1 A2 (cs.map Cd.c) := ⟨_, rfl⟩
          obtain ⟨PS, hPS⟩ : ∃ x, x = pkS A0 A1 A2 (cs.map Cd.c) := ⟨_, rfl⟩
          rw [← hPE, ← hPS] at hpk hun
          have HPK := Lib.hid hpk
          have HUN := Lib.hid hun
          have HAT := Lib.hid hat
          have HLW := Lib.hid (HU.out.but.lat HW2.out HG.out)
          clear hpk hun hat hPE hPS HU HD HRD HBIT
          go_wp2_with fail
          refine HPK.out.mono ?_
          rintro e w3 ⟨rfl, hb3⟩
          have HAT3 := Lib.hid (HAT.out.keep hb3)
          have HLW3 := Lib.hid (Lat.trans HLW.out hb3)
          clear hb3
          have bad : ¬ (PE = 0 ∧ PS = b) → E = 2 := fun h => by rw [HE3.out, HUN.out, if_neg h]; rfl
          have HB2 := Lib.hid bad
          clear bad
          by_cases hp : PE = 0
          case neg =>
            have hE : E = 2 := HB2.out (fun h => hp h.1)
            have hb := HBAD.out (by omega)
            have HBB := Lib.hid hb
            have HEE := Lib.hid hE
            rw [errv_pos hp]
            clear hp hb hE
            go_wp2_with fail
            exact bodyPost_ret (v := .tuple #[.int .i64 0, .int .i64 0, .int .i64 0, .slice none 0 0, eno 2]) (by simp [results, Tryd.results40, go_sem]) rfl ⟨none, 0, [], by
              rw [HBB.out.2.1, HBB.out.2.2.1, HBB.out.2.2.2, HEE.out, show errv 2 = eno 2 from errv_pos (by omega)]; rfl, CodsAt.nil _, by rw [HBB.out.1]; rfl, HLW3.out⟩
          by_cases hs : PS = b
          case neg =>
            have hE : E = 2 := HB2.out (fun h => hs h.2)
            have hb := HBAD.out (by omega)
            have HBB := Lib.hid hb
            have HEE := Lib.hid hE
            have hbn : (PS.toList == b.toList) = false := toList_ne hs
            rw [errv_zero hp]
            clear hp hb hE hs
            go_wp2_with fail
            exact bodyPost_ret (v := .tuple #[.int .i64 0, .int .i64 0, .int .i64 0, .slice none 0 0, eno 2]) (by simp [results, Tryd.results40, go_sem]) rfl ⟨none, 0, [], by
              rw [HBB.out.2.1, HBB.out.2.2.1, HBB.out.2.2.2, HEE.out, show errv 2 = eno 2 from errv_pos (by omega)]; rfl, CodsAt.nil _, by rw [HBB.out.1]; rfl, HLW3.out⟩
          have hun : unO b = some (cs.map Cd.c) := by rw [HUN.out, if_pos ⟨hp, hs⟩]
          have hE : E = 0 := by rw [HE3.out, hun]; rfl
          obtain ⟨h1, h2, h3, h4⟩ := HGOOD2.out hE
          rw [hun] at h1
          have H1 := Lib.hid h1
          have H2 := Lib.hid h2
          have H3 := Lib.hid h3
          have H4 := Lib.hid h4
          have HEE := Lib.hid hE
          have hbn : (PS.toList == b.toList) = true := by rw [hs]; exact beq_iff_eq.2 rfl
          rw [errv_zero hp]
          clear hp hs h1 h2 h3 h4 hun hE
          go_wp2_with fail
          exact bodyPost_ret (v := .tuple #[.int .i64 A0, .int .i64 A1, .int .i64 A2, .slice va k vc, .nilIface]) (by simp [results, Tryd.results40, go_sem]) rfl ⟨va, vc, cs, by
              rw [H2.out, H3.out, H4.out, HEE.out, HCS.out, errv_zero rfl], by rw [HCS.out]; exact HAT3.out, by rw [H1.out]; rfl, HLW3.out⟩
end Go.Proofs.YtooepflfofgnnaaDoor

namespace Go.Proofs.YtooepflfofgnnaaDoor

theorem bt_S (l : List UInt8) (j : Nat) : bt (S l) j = (l.getD j 0).toNat := rfl
theorem ofNat_small {m : Nat} (h : m < 256) : (UInt8.ofNat m).toNat = m := by rw [UInt8.toNat_ofNat']; exact Nat.mod_eq_of_lt h
theorem pkE_zero {wd hg s : Int} {cs : List Ct} (h : pkE wd hg s cs = 0) : fdE wd hg s cs = 0 ∧ (pkB wd hg s cs).length ≤ 120 := by
  unfold pkE at h
  split at h
  · omega
  split at h
  · omega
  constructor <;> omega
theorem pkS_ok {wd hg s : Int} {cs : List Ct} (h : pkE wd hg s cs = 0) : pkS wd hg s cs = S (pkB wd hg s cs) := by unfold pkS; rw [if_pos h]
structure PkOk (wd hg s : Int) (cs : List Ct) (l : List UInt8) : Prop where
  b0 : (bt (S l) 0 : Int) = wd
  b1 : (bt (S l) 1 : Int) = hg
  b2 : (bt (S l) 2 : Int) = s
  b3 : bt (S l) 3 = cs.length
  many : bt (S l) 0 * bt (S l) 1 = (wd * hg).toNat
theorem pk_head {wd hg s : Int} {cs : List Ct} (h : pkE wd hg s cs = 0) (m : Nat) (hm : 4 ≤ m) : PkOk wd hg s cs ((pkB wd hg s cs).take m) := by
  have hf := fd_ok (pkE_zero h).1
  obtain ⟨m, rfl⟩ : ∃ k, m = k + 1 + 1 + 1 + 1 := ⟨m - 4, by omega⟩
  obtain ⟨wn, rfl⟩ := Int.eq_ofNat_of_zero_le (show 0 ≤ wd by have := hf.w1; omega)
  obtain ⟨hn, rfl⟩ := Int.eq_ofNat_of_zero_le (show 0 ≤ hg by have := hf.h1; omega)
  obtain ⟨sn, rfl⟩ := Int.eq_ofNat_of_zero_le (show 0 ≤ s by have := hf.s1; omega)
  have w6 := hf.w6
  have h6 := hf.h6
  have s64 := hf.s64
  have n6 := hf.n6
  have e0 : bt (S ((pkB wn hn sn cs).take (m + 1 + 1 + 1 + 1))) 0 = wn := ofNat_small (m := wn) (by omega)
  have e1 : bt (S ((pkB wn hn sn cs).take (m + 1 + 1 + 1 + 1))) 1 = hn := ofNat_small (m := hn) (by omega)
  have e2 : bt (S ((pkB wn hn sn cs).take (m + 1 + 1 + 1 + 1))) 2 = sn := ofNat_small (m := sn) (by omega)
  have e3 : bt (S ((pkB wn hn sn cs).take (m + 1 + 1 + 1 + 1))) 3 = cs.length := ofNat_small (m := cs.length) (by omega)
  exact ⟨by rw [e0], by rw [e1], by rw [e2], e3, by rw [e0, e1, ← Int.natCast_mul, Int.toNat_natCast]⟩
theorem pk_bits {wd hg s : Int} {cs : List Ct} : bitsOf ((pkB wd hg s cs).drop 4) = pad8 (bcods cs) := by
  show bitsOf (octs (pad8 (bcods cs)) ((pad8 (bcods cs)).length / 8)) = _
  exact octs_all (pad8_bit (bcods_bit cs)) (pad8_mod _)
theorem pk_read {wd hg s : Int} {cs : List Ct} (h : pkE wd hg s cs = 0) : ∃ r, rdCs (wd * hg).toNat cs.length (bitsOf ((pkB wd hg s cs).drop 4)) = some (cs, r) := by
  rw [pk_bits]
  exact ⟨_, rdCs_of _ (fd_ok (pkE_zero h).1).all⟩
theorem un_pk {wd hg s : Int} {cs : List Ct} (h : pkE wd hg s cs = 0) : unE (S (pkB wd hg s cs)) = 0 ∧ unL (S (pkB wd hg s cs)) = cs ∧ unV (S (pkB wd hg s cs)) 0 = wd ∧ unV (S (pkB wd hg s cs)) 1 = hg ∧ unV (S (pkB wd hg s cs)) 2 = s := by
  have hl4 : 4 ≤ (pkB wd hg s cs).length := by unfold pkB; rw [List.length_append]; simp
  have hp := pk_head h (pkB wd hg s cs).length hl4
  rw [List.take_length] at hp
  obtain ⟨r, hr⟩ := pk_read h
  have hO : unO (S (pkB wd hg s cs)) = some cs := by
    unfold unO unBits
    rw [hp.many, hp.b3, hp.b0, hp.b1, hp.b2]
    rw [show (S (pkB wd hg s cs)).data.toList = pkB wd hg s cs from rfl, hr]
    simp only
    rw [if_pos ⟨h, pkS_ok h⟩]
  have hE : unE (S (pkB wd hg s cs)) = 0 := by
    unfold unE
    rw [if_neg (by rw [S_size]; have := (pkE_zero h).2; omega), if_neg (by rw [S_size]; omega), hO, if_pos (show (some cs).isSome = true from rfl)]
  refine ⟨hE, ?_, ?_, ?_, ?_⟩
  · unfold unL; rw [if_pos hE, hO]; rfl
  · unfold unV; rw [if_pos hE]; exact hp.b0
  · unfold unV; rw [if_pos hE]; exact hp.b1
  · unfold unV; rw [if_pos hE]; exact hp.b2
theorem un_cut {wd hg s : Int} {cs : List Ct} (h : pkE wd hg s cs = 0) {m : Nat} (hm : m < (pkB wd hg s cs).length) : unE (S ((pkB wd hg s cs).take m)) = 2 := by
  have hsz : (S ((pkB wd hg s cs).take m)).size = m := by rw [S_size, List.length_take]; omega
  unfold unE
  rw [hsz, if_neg (by have := (pkE_zero h).2; omega)]
  by_cases h4 : m < 4
  · rw [if_pos h4]
  rw [if_neg h4]
  have hp := pk_head h m (by omega)
  obtain ⟨r, hr⟩ := pk_read h
  have hO : unO (S ((pkB wd hg s cs).take m)) = none := by
    unfold unO unBits
    rw [hp.many, hp.b3, hp.b0, hp.b1, hp.b2]
    show (match rdCs (wd * hg).toNat cs.length (bitsOf (((pkB wd hg s cs).take m).drop 4)) with
      | none => none
      | some (cs', _) => if pkE wd hg s cs' = 0 ∧ pkS wd hg s cs' = S ((pkB wd hg s cs).take m) then some cs' else none) = none
    cases hc : rdCs (wd * hg).toNat cs.length (bitsOf (((pkB wd hg s cs).take m).drop 4)) with
    | none => rfl
    | some v =>
      obtain ⟨cs', r'⟩ := v
      have e : (pkB wd hg s cs).drop 4 = ((pkB wd hg s cs).take m).drop 4 ++ (pkB wd hg s cs).drop m := by
        conv => lhs; rw [← List.take_append_drop m (pkB wd hg s cs)]
        rw [List.drop_append_of_le_length (by rw [List.length_take]; omega)]
      rw [e, bitsOf_append, rdCs_ext _ hc] at hr
      simp only [Option.some.injEq, Prod.mk.injEq] at hr
      obtain ⟨rfl, _⟩ := hr
      simp only
      rw [if_neg]
      rintro ⟨_, h2⟩
      rw [pkS_ok h] at h2
      have := congrArg ByteArray.size h2
      rw [hsz, S_size] at this
      omega
  rw [hO, if_neg (by simp)]
theorem un_good {b : ByteArray} (h : unE b = 0) : pkE (unV b 0) (unV b 1) (unV b 2) (unL b) = 0 ∧ pkS (unV b 0) (unV b 1) (unV b 2) (unL b) = b := by
  have h0 := h
  unfold unE at h
  split at h
  · omega
  split at h
  · omega
  split at h
  · rename_i hs
    have e0 : unV b 0 = bt b 0 := by unfold unV; rw [if_pos h0]
    have e1 : unV b 1 = bt b 1 := by unfold unV; rw [if_pos h0]
    have e2 : unV b 2 = bt b 2 := by unfold unV; rw [if_pos h0]
    have eL : unL b = (unO b).getD [] := by unfold unL; rw [if_pos h0]
    rw [e0, e1, e2, eL]
    unfold unO at hs ⊢
    cases hc : rdCs (bt b 0 * bt b 1) (bt b 3) (unBits b) with
    | none => rw [hc] at hs; simp at hs
    | some v =>
      obtain ⟨cs, r⟩ := v
      rw [hc] at hs
      simp only at hs ⊢
      split at hs
      · rename_i hq
        rw [if_pos hq]
        exact hq
      · simp at hs
  · omega
end Go.Proofs.YtooepflfofgnnaaDoor

namespace Go.Proofs.YtooepflfofgnnaaDoor

theorem rdCs_len {many : Nat} : ∀ {k : Nat} {l r : List Int} {cs : List Ct}, rdCs many k l = some (cs, r) → cs.length = k
  | 0, l, r, cs, h => by
    simp only [rdCs, Option.some.injEq, Prod.mk.injEq] at h
    rw [← h.1]; rfl
  | k + 1, l, r, cs, h => by
    rw [rdCs] at h
    cases hn : rdC many l with
    | none => rw [hn] at h; simp at h
    | some x =>
      obtain ⟨v, r1⟩ := x
      rw [hn] at h
      simp only at h
      cases hm : rdCs many k r1 with
      | none => rw [hm] at h; simp at h
      | some y =>
        obtain ⟨us, r2⟩ := y
        rw [hm] at h
        simp only [Option.some.injEq, Prod.mk.injEq] at h
        rw [← h.1, List.length_cons, rdCs_len hm]
theorem unO_ok {b : ByteArray} {cs : List Ct} (h : unO b = some cs) : cs.length = bt b 3 ∧ FdOk (bt b 0) (bt b 1) (bt b 2) cs := by
  unfold unO at h
  cases hc : rdCs (bt b 0 * bt b 1) (bt b 3) (unBits b) with
  | none => rw [hc] at h; simp at h
  | some v =>
    obtain ⟨ds, r⟩ := v
    rw [hc] at h
    simp only at h
    split at h
    · rename_i hq
      simp only [Option.some.injEq] at h
      subst h
      exact ⟨rdCs_len hc, fd_ok (pkE_zero hq.1).1⟩
    · simp at h
theorem unE_big {b : ByteArray} (h4 : 4 ≤ b.size) (h120 : b.size ≤ 120) (h : 6 < bt b 3 ∨ 6 < bt b 0 ∨ 6 < bt b 1) : unE b = 2 := by
  unfold unE
  rw [if_neg (by omega), if_neg (by omega)]
  cases ho : unO b with
  | none => rfl
  | some cs =>
    obtain ⟨h1, h2⟩ := unO_ok ho
    have n6 := h2.n6
    have w6 := h2.w6
    have g6 := h2.h6
    omega
/-! what stands between: the reader is not bad and has read so much; or it is bad and there is no film -/
def Rding (M : Nat) (zs : List Int) (k : Nat) (cs : List Ct) (q : Nat) (bad : Bool) : Prop :=
  (bad = false ∧ rdCs M k zs = some (cs, zs.drop q)) ∨ (bad = true ∧ rdCs M k zs = none)
theorem Rding.next {M : Nat} {zs : List Int} {k : Nat} {cs : List Ct} {q : Nat} {bad : Bool} (h : Rding M zs k cs q bad) {c : Ct} {q2 : Nat} {bad2 : Bool}
    (hb : bad = true → bad2 = true) (h2 : bad = false → (bad2 = false ∧ rdC M (zs.drop q) = some (c, zs.drop q2)) ∨ (bad2 = true ∧ rdC M (zs.drop q) = none)) : Rding M zs (k + 1) (cs ++ [c]) q2 bad2 := by
  rcases h with ⟨h0, h1⟩ | ⟨h0, h1⟩
  · rcases h2 h0 with ⟨e1, e2⟩ | ⟨e1, e2⟩
    · exact .inl ⟨e1, by rw [rdCs_snoc h1, e2]⟩
    · exact .inr ⟨e1, by rw [rdCs_snoc h1, e2]⟩
  · exact .inr ⟨hb h0, rdCs_dead1 h1⟩
/-! inside one picture: what is still to be read of it -/
def finV (al : Bool) (x y : Int) (vs : List Int) (n : Nat) (l : List Int) : Option (Ct × List Int) := match numbs 2 n l with
  | none => none
  | some (us, r) => some (⟨al, x, y, vs ++ us⟩, r)
def mv1 (M : Nat) (x : Nat) (l : List Int) : Option (Ct × List Int) := match bitsN 2 0 l with
  | none => none
  | some (y, r) => finV false ((x : Int) - 1) ((y : Int) - 1) [] M r
def mv2 (M : Nat) (l : List Int) : Option (Ct × List Int) := match bitsN 2 0 l with
  | none => none
  | some (x, r) => mv1 M x r
theorem finV_zero (al : Bool) (x y : Int) (vs l : List Int) : finV al x y vs 0 l = some (⟨al, x, y, vs⟩, l) := by unfold finV; rw [numbs]; simp
theorem finV_succ (al : Bool) (x y : Int) (vs : List Int) (n : Nat) (l : List Int) : finV al x y vs (n + 1) l = match numb 2 l with
    | none => none
    | some (v, r) => finV al x y (vs ++ [v]) n r := by
  unfold finV
  rw [numbs]
  cases numb 2 l with
  | none => rfl
  | some z =>
    obtain ⟨v, r⟩ := z
    simp only
    cases numbs 2 n r with
    | none => rfl
    | some u => obtain ⟨us, r2⟩ := u; simp
theorem rdC_alone (M : Nat) (l : List Int) : rdC M (1 :: l) = finV true 0 0 [] M l := by
  rw [rdC, if_pos rfl]
  unfold finV
  cases numbs 2 M l with
  | none => rfl
  | some u => obtain ⟨us, r⟩ := u; rfl
theorem rdC_moved (M : Nat) (l : List Int) : rdC M (0 :: l) = mv2 M l := by
  rw [rdC, if_neg (by decide)]
  unfold mv2
  cases bitsN 2 0 l with
  | none => rfl
  | some u =>
    obtain ⟨x, r⟩ := u
    simp only
    unfold mv1
    cases bitsN 2 0 r with
    | none => rfl
    | some v =>
      obtain ⟨y, r2⟩ := v
      simp only
      unfold finV
      cases numbs 2 M r2 with
      | none => rfl
      | some u => obtain ⟨us, r3⟩ := u; rfl
def St (M : Nat) (zs : List Int) (p : Nat) (bad0 bad : Bool) (X : Option (Ct × List Int)) : Prop :=
  (bad0 = true → bad = true) ∧ (bad0 = false → (bad = false ∧ rdC M (zs.drop p) = X) ∨ (bad = true ∧ rdC M (zs.drop p) = none))
theorem St.one {M : Nat} {zs : List Int} {p : Nat} {bad0 : Bool} (hp : p < zs.length) (h1 : zs.getD p 0 = 1) : St M zs p bad0 bad0 (finV true 0 0 [] M (zs.drop (p + 1))) :=
  ⟨id, fun h => .inl ⟨h, by rw [drop_cons zs p hp, h1, rdC_alone]⟩⟩
theorem St.two {M : Nat} {zs : List Int} {p : Nat} {bad0 : Bool} (hp : p < zs.length) (h1 : zs.getD p 0 = 0) : St M zs p bad0 bad0 (mv2 M (zs.drop (p + 1))) :=
  ⟨id, fun h => .inl ⟨h, by rw [drop_cons zs p hp, h1, rdC_moved]⟩⟩
theorem St.end_ {M : Nat} {zs : List Int} {p : Nat} {bad0 : Bool} (hp : zs.length ≤ p) (X : Option (Ct × List Int)) : St M zs p bad0 true X :=
  ⟨fun _ => rfl, fun _ => .inr ⟨rfl, by rw [List.drop_eq_nil_of_le hp]; rfl⟩⟩
theorem St.dead {M : Nat} {zs : List Int} {p : Nat} {bad0 bad : Bool} {X : Option (Ct × List Int)} (h : St M zs p bad0 bad X) (hX : X = none) (Y : Option (Ct × List Int)) : St M zs p bad0 true Y := by
  refine ⟨fun _ => rfl, fun h0 => .inr ⟨rfl, ?_⟩⟩
  rcases h.2 h0 with ⟨_, e⟩ | ⟨_, e⟩
  · rw [e, hX]
  · exact e
theorem St.as {M : Nat} {zs : List Int} {p : Nat} {bad0 bad : Bool} {X Y : Option (Ct × List Int)} (h : St M zs p bad0 bad X) (hX : X = Y) : St M zs p bad0 bad Y := hX ▸ h
theorem St.number {M : Nat} {zs : List Int} {p q q2 n : Nat} {bad0 bad bad2 al : Bool} {x y v : Int} {vs : List Int} (h : St M zs p bad0 bad (finV al x y vs (n + 1) (zs.drop q))) (hv : RNumPost 2 zs q bad v q2 bad2) :
    St M zs p bad0 bad2 (finV al x y (vs ++ [v]) n (zs.drop q2)) := by
  unfold RNumPost at hv
  rw [finV_succ] at h
  cases hn : numb 2 (zs.drop q) with
  | none => rw [hn] at h hv; rw [hv]; exact h.dead rfl _
  | some z =>
    obtain ⟨v', r⟩ := z
    rw [hn] at h hv
    obtain ⟨rfl, rfl, rfl⟩ := hv
    exact h
theorem St.mvx {M : Nat} {zs : List Int} {p q q2 x : Nat} {bad0 bad bad2 : Bool} (h : St M zs p bad0 bad (mv2 M (zs.drop q))) (hv : MPost 2 zs q bad x q2 bad2) : St M zs p bad0 bad2 (mv1 M x (zs.drop q2)) := by
  unfold MPost at hv
  unfold mv2 at h
  cases hn : bitsN 2 0 (zs.drop q) with
  | none => rw [hn] at h hv; rw [hv]; exact h.dead rfl _
  | some z =>
    obtain ⟨v', r⟩ := z
    rw [hn] at h hv
    obtain ⟨rfl, rfl, rfl⟩ := hv
    exact h
theorem St.mvy {M : Nat} {zs : List Int} {p q q2 x y : Nat} {bad0 bad bad2 : Bool} (h : St M zs p bad0 bad (mv1 M x (zs.drop q))) (hv : MPost 2 zs q bad y q2 bad2) : St M zs p bad0 bad2 (finV false ((x : Int) - 1) ((y : Int) - 1) [] M (zs.drop q2)) := by
  unfold MPost at hv
  unfold mv1 at h
  cases hn : bitsN 2 0 (zs.drop q) with
  | none => rw [hn] at h hv; rw [hv]; exact h.dead rfl _
  | some z =>
    obtain ⟨v', r⟩ := z
    rw [hn] at h hv
    obtain ⟨rfl, rfl, rfl⟩ := hv
    exact h
theorem Rding.pic {M : Nat} {zs : List Int} {k : Nat} {cs : List Ct} {p q : Nat} {bad0 bad al : Bool} {x y : Int} {vs : List Int} (h : Rding M zs k cs p bad0) (hs : St M zs p bad0 bad (finV al x y vs 0 (zs.drop q))) :
    Rding M zs (k + 1) (cs ++ [⟨al, x, y, vs⟩]) q bad := by
  rw [finV_zero] at hs
  exact h.next hs.1 hs.2
end Go.Proofs.YtooepflfofgnnaaDoor

namespace Go.Proofs.YtooepflfofgnnaaDoor
open Go.ChangeShapes Go.WideShapes Go.ChangeAt Go.RowKit

theorem Own.onBut {g B : Nat} {e : TypeId} {wr wr' : World} {v : Value} {xs : List Value} (h : Own wr B e v xs) (hb : But g wr wr') (hg : g < B) : Own wr' B e v xs := by
  have hlt := Own.lt h
  unfold Own World.ownsRow at h ⊢
  obtain ⟨h1, h2⟩ := h
  refine ⟨h1, ?_⟩
  rcases h2 with h2 | ⟨k, cap, cur, rfl, hbb, hh, rest⟩
  · exact .inl h2
  · exact .inr ⟨k, cap, cur, rfl, hbb, by rw [hb.block k (hlt k rfl).2 (by have := (hlt k rfl).1; omega)]; exact hh, rest⟩
theorem RdR.off {w0 w w' : World} {g r : Nat} {a : Option Addr} {n cap p0 p : Nat} {zs : List Int} {bad0 bad : Bool} (h : RdR w g a n cap p zs bad) (h0 : RdR w0 g a n cap p0 zs bad0) (ho : Only r w w') (hr : w0.heap.size ≤ r) : RdR w' g a n cap p zs bad := by
  have hl := h0.lt
  have hne : g ≠ r := by omega
  exact ⟨by rw [ho.cell hne]; exact h.c0, by rw [ho.cell hne]; exact h.c1, by rw [ho.cell hne]; exact h.c2, by rw [ho.frozen hne]; exact h.f1, by rw [ho.frozen hne]; exact h.f2, h.ints.only ho (h0.ints.far hr), h.far, h.le⟩
structure Pin (g gb : Nat) (w3 wx : World) (xa : Option Addr) (nL xc q : Nat) (LB : List Int) (bad al : Bool) (x y : Int) (v : Value) (vs : List Int) : Prop where
  rd : RdR wx g xa nL xc q LB bad
  c4 : Cells4 wx gb (.bool al) (.int .i64 x) (.int .i64 y) v
  fz : ∀ k, wx.frozen? ⟨gb, k, none⟩ = false
  but : But g w3 wx
  own : OwnInts wx (gb + 1) v vs
  sz : gb < wx.heap.size
theorem Pin.reader {g gb : Nat} {w3 wx w' : World} {xa : Option Addr} {nL xc q q' : Nat} {LB : List Int} {bad bad' al : Bool} {x y : Int} {v : Value} {vs : List Int} (h : Pin g gb w3 wx xa nL xc q LB bad al x y v vs) (hrd : RdR w' g xa nL xc q' LB bad') (ho : Only g wx w') (hg : g < gb) :
    Pin g gb w3 w' xa nL xc q' LB bad' al x y v vs := by
  have hne : gb ≠ g := by omega
  exact ⟨hrd, ⟨by rw [ho.cell hne]; exact h.c4.c0, by rw [ho.cell hne]; exact h.c4.c1, by rw [ho.cell hne]; exact h.c4.c2, by rw [ho.cell hne]; exact h.c4.c3⟩, fun k => by rw [ho.frozen hne]; exact h.fz k, h.but.trans ho.but, Own.onBut h.own ho.but (by omega), by rw [ho.size]; exact h.sz⟩
theorem Pin.new {g gb : Nat} {w3 : World} {xa : Option Addr} {nL xc q : Nat} {LB : List Int} {bad al : Bool} (h : RdR w3 g xa nL xc q LB bad) (hgb : gb = w3.heap.size) :
    Pin g gb w3 (w3.alloc (.cells #[.bool al, .int .i64 0, .int .i64 0, .slice none 0 0] 110)) xa nL xc q LB bad al 0 0 (.slice none 0 0) [] := by
  subst hgb
  exact ⟨h.keep (Lat.alloc _ _), cells4_new rfl rfl rfl rfl rfl, fun k => by simp, But.of_lat (Lat.alloc _ _), Own.nil _ _ _, by simp⟩
theorem Pin.setx {g gb : Nat} {w3 wx : World} {xa : Option Addr} {nL xc q q0 : Nat} {LB : List Int} {bad bad0 al : Bool} {x y : Int} {v : Value} {vs : List Int} (h : Pin g gb w3 wx xa nL xc q LB bad al x y v vs) (h0 : RdR w3 g xa nL xc q0 LB bad0) (hgb : w3.heap.size ≤ gb) (z : Int) :
    Pin g gb w3 (wx.setCell ⟨gb, 1, none⟩ (.int .i64 z)) xa nL xc q LB bad al z y v vs := by
  have ho := Only.set wx ⟨gb, 1, none⟩ (.int .i64 z)
  refine ⟨h.rd.off h0 ho hgb, ⟨?_, World.cell?_setCell_same _ _ _ h.c4.c1, ?_, ?_⟩, fun k => by rw [World.frozen?_setCell]; exact h.fz k, h.but.only ho hgb, Own.set h.own (Nat.lt_succ_self _) _, by rw [ho.size]; exact h.sz⟩
  · rw [World.cell?_setCell_other _ _ _ _ (by simp)]; exact h.c4.c0
  · rw [World.cell?_setCell_other _ _ _ _ (by simp)]; exact h.c4.c2
  · rw [World.cell?_setCell_other _ _ _ _ (by simp)]; exact h.c4.c3
theorem Pin.sety {g gb : Nat} {w3 wx : World} {xa : Option Addr} {nL xc q q0 : Nat} {LB : List Int} {bad bad0 al : Bool} {x y : Int} {v : Value} {vs : List Int} (h : Pin g gb w3 wx xa nL xc q LB bad al x y v vs) (h0 : RdR w3 g xa nL xc q0 LB bad0) (hgb : w3.heap.size ≤ gb) (z : Int) :
    Pin g gb w3 (wx.setCell ⟨gb, 2, none⟩ (.int .i64 z)) xa nL xc q LB bad al x z v vs := by
  have ho := Only.set wx ⟨gb, 2, none⟩ (.int .i64 z)
  refine ⟨h.rd.off h0 ho hgb, ⟨?_, ?_, World.cell?_setCell_same _ _ _ h.c4.c2, ?_⟩, fun k => by rw [World.frozen?_setCell]; exact h.fz k, h.but.only ho hgb, Own.set h.own (Nat.lt_succ_self _) _, by rw [ho.size]; exact h.sz⟩
  · rw [World.cell?_setCell_other _ _ _ _ (by simp)]; exact h.c4.c0
  · rw [World.cell?_setCell_other _ _ _ _ (by simp)]; exact h.c4.c1
  · rw [World.cell?_setCell_other _ _ _ _ (by simp)]; exact h.c4.c3
theorem flat_one (zs : List Int) : (zs.map fun z => [Value.int .i64 z]).flatten = zs.map (Value.int .i64) := by
  induction zs with
  | nil => rfl
  | cons z zs ih => rw [List.map_cons, List.flatten_cons, ih, List.map_cons]; rfl
theorem app_intR (wr : World) (B : Nat) {ops : Array Oper} {rest : List Oper} {o : Oper} {a : Act} {Q : Exit → Act → World → Prop}
    (hg : o.guard = none) (s x : Operand) (ho : o.op = .call { callee := .builtin .append, args := #[s, x], argTypes := #[25, 25] })
    (v : Value) (zs : List Int) (z : Int) (hs : a.eval s = v) (hown : OwnInts wr B v zs) (hx : a.eval x = .slice (some ⟨wr.heap.size, 0, none⟩) 1 1)
    (hn : zs.length < 1000000000000) (hB : B ≤ wr.heap.size)
    (K : ∀ v' w', OwnInts w' B v' (zs ++ [z]) → Below B wr w' → AppStep wr w' v v' → wpList Tryd.prog ops Q rest (a.put o.dst v') w') :
    wpList Tryd.prog ops Q (o :: rest) a (wr.alloc (.cells #[.int .i64 z] 3)) := by
  refine appR wr B hg s x 25 ho 3 (.int .i64 0) 1 8 Tryd.underlying25 info_int rfl (by decide) (by decide) v (zs.map fun z => [Value.int .i64 z]) #[.int .i64 z] hs ⟨by simp, ?_⟩ rfl hx (fun u hu => by simp at hu; subst hu; rfl) (by rw [List.length_map]; exact hn) hB (fun v' w' h1 h2 h3 => K v' w' ?_ h2 h3)
  · rw [List.length_map, flat_one]; unfold OwnInts Own at hown; rwa [List.length_map] at hown
  · have h4 := h1.2
    rw [List.flatten_append, flat_one] at h4
    unfold OwnInts Own
    simpa using h4
theorem Pin.app {g gb : Nat} {w3 wx w' : World} {xa : Option Addr} {nL xc q q0 : Nat} {LB : List Int} {bad bad0 al : Bool} {x y : Int} {v v' : Value} {vs : List Int} {z : Int} (h : Pin g gb w3 wx xa nL xc q LB bad al x y v vs) (h0 : RdR w3 g xa nL xc q0 LB bad0) (hgb : w3.heap.size ≤ gb) (hg : g < gb)
    (ho : OwnInts w' (gb + 1) v' (vs ++ [z])) (hb : Below (gb + 1) wx w') : Pin g gb w3 (w'.setCell ⟨gb, 3, none⟩ v') xa nL xc q LB bad al x y v' (vs ++ [z]) ∧ w'.cell? ⟨gb, 3, none⟩ = some v ∧ w'.frozen? ⟨gb, 3, none⟩ = false := by
  have hl : gb < gb + 1 := Nat.lt_succ_self _
  have hg1 : g < gb + 1 := by omega
  have k0 : w'.cell? ⟨gb, 0, none⟩ = _ := (hb.cell (p := ⟨gb, 0, none⟩) hl).trans h.c4.c0
  have k1 : w'.cell? ⟨gb, 1, none⟩ = _ := (hb.cell (p := ⟨gb, 1, none⟩) hl).trans h.c4.c1
  have k2 : w'.cell? ⟨gb, 2, none⟩ = _ := (hb.cell (p := ⟨gb, 2, none⟩) hl).trans h.c4.c2
  have k3 : w'.cell? ⟨gb, 3, none⟩ = _ := (hb.cell (p := ⟨gb, 3, none⟩) hl).trans h.c4.c3
  have kf : ∀ k, w'.frozen? ⟨gb, k, none⟩ = false := fun k => (hb.frozen (p := ⟨gb, k, none⟩) hl).trans (h.fz k)
  have hs := Only.set w' ⟨gb, 3, none⟩ v'
  have hrd : RdR w' g xa nL xc q LB bad := by
    have hi : IntsAt w' xa nL xc LB := by
      refine ⟨h.rd.ints.len, ⟨h.rd.ints.row.le, h.rd.ints.row.cap, fun hn => ?_⟩, h.rd.ints.wf⟩
      obtain ⟨b, o, ha, hc⟩ := h.rd.ints.row.at_ hn
      have hlt := h0.ints.lt hn ha
      exact ⟨b, o, ha, fun j hj => (hb.cell (p := ⟨b, o + j, none⟩) (by show b < gb + 1; omega)).trans (hc j hj)⟩
    exact ⟨(hb.cell (p := ⟨g, 0, none⟩) hg1).trans h.rd.c0, (hb.cell (p := ⟨g, 1, none⟩) hg1).trans h.rd.c1, (hb.cell (p := ⟨g, 2, none⟩) hg1).trans h.rd.c2, (hb.frozen (p := ⟨g, 1, none⟩) hg1).trans h.rd.f1, (hb.frozen (p := ⟨g, 2, none⟩) hg1).trans h.rd.f2, hi, h.rd.far, h.rd.le⟩
  have hbut : But g w3 w' := ⟨hb.os.trans h.but.os, hb.tape.trans h.but.tape, hb.output.trans h.but.output, Nat.le_trans h.but.size hb.size, fun k hk hkg => (hb.block k (by omega)).trans (h.but.block k hk hkg)⟩
  refine ⟨⟨hrd.off h0 hs hgb, ⟨?_, ?_, ?_, World.cell?_setCell_same _ _ _ k3⟩, fun k => by rw [World.frozen?_setCell]; exact kf k, hbut.only hs hgb, Own.set ho hl _, by rw [hs.size]; exact Nat.lt_of_lt_of_le h.sz hb.size⟩, k3, kf 3⟩
  · rw [World.cell?_setCell_other _ _ _ _ (by simp)]; exact k0
  · rw [World.cell?_setCell_other _ _ _ _ (by simp)]; exact k1
  · rw [World.cell?_setCell_other _ _ _ _ (by simp)]; exact k2
theorem sbit_st (w : World) (g : Nat) (a : Option Addr) (n cap p M : Nat) (zs : List Int) (bad : Bool) (h : RdR w g a n cap p zs bad) (hb : ∀ z ∈ zs, z = 0 ∨ z = 1) :
    Calls Tryd.prog 71 #[.pointer (some ⟨g, 0, none⟩)] w fun e w' => ∃ (bit : Int) (al : Bool) (q : Nat) (bad1 : Bool), e = .returned (.int .i64 bit) ∧ (bit == 1) = al ∧ RdR w' g a n cap q zs bad1 ∧ Only g w w' ∧
      Hid (St M zs p bad bad1 (if al = true then finV true 0 0 [] M (zs.drop q) else mv2 M (zs.drop q))) := by
  have hl := h.ints.len
  by_cases hp : p < n
  · refine (sbit_yes w g a n cap p zs bad h hp).mono ?_
    rintro e w' ⟨rfl, hr, ho⟩
    rcases hb _ (mem_getD zs p (by omega)) with hz | hz
    · exact ⟨_, false, p + 1, bad, rfl, by rw [hz]; rfl, hr, ho, by rw [if_neg (by simp)]; exact St.two (by omega) hz⟩
    · exact ⟨_, true, p + 1, bad, rfl, by rw [hz]; rfl, hr, ho, by rw [if_pos rfl]; exact St.one (by omega) hz⟩
  · have hp2 : p = n := by have := h.le; omega
    refine (sbit_no w g a n cap p zs bad h hp2).mono ?_
    rintro e w' ⟨rfl, hr, ho⟩
    exact ⟨0, false, p, true, rfl, rfl, hr, ho, St.end_ (by omega) _⟩
end Go.Proofs.YtooepflfofgnnaaDoor

namespace Go.Proofs.YtooepflfofgnnaaDoor
open Go.ChangeShapes Go.WideShapes Go.ChangeAt Go.RowKit

structure Fil (w wr : World) (v : Value) (L : List Int) : Prop where
  c0 : wr.cell? ⟨w.heap.size, 0, none⟩ = some v
  c1 : wr.cell? ⟨w.heap.size, 1, none⟩ = some (.int .i64 0)
  c2 : wr.cell? ⟨w.heap.size, 2, none⟩ = some (.bool false)
  fz : ∀ k, wr.frozen? ⟨w.heap.size, k, none⟩ = false
  own : OwnInts wr (w.heap.size + 1) v L
  lat : Lat w wr
  sz : w.heap.size + 1 ≤ wr.heap.size
theorem Fil.drewN {w wr : World} {v : Value} {L : List Int} (h : Fil w wr v L) (n : Nat) : Fil w (wr.drewN n) v L :=
  ⟨h.c0, h.c1, h.c2, h.fz, Own.drewN h.own n, Lat.trans h.lat (Lat.drewN wr n), h.sz⟩
theorem Fil.step {w wr w' : World} {v v' : Value} {L : List Int} {z : Int} {o : Obj} (h : Fil w wr v L) (hg : (wr.alloc o).grownBy w' v.ownBlock) (ho : World.ownsRow w' (w.heap.size + 1) 3 1 v' (L.length + 1) (L.map (Value.int .i64) ++ [.int .i64 z])) :
    Fil w (w'.setCell ⟨w.heap.size, 0, none⟩ v') v' (L ++ [z]) ∧ w'.cell? ⟨w.heap.size, 0, none⟩ = some v ∧ w'.frozen? ⟨w.heap.size, 0, none⟩ = false := by
  have hl := Lat.alloc wr o
  have hne : v.ownBlock ≠ some w.heap.size := Own.not h.own (Nat.lt_succ_self _)
  have hlt : w.heap.size < wr.heap.size := by have := h.sz; omega
  have hlt2 : w.heap.size < (wr.alloc o).heap.size := Nat.lt_of_lt_of_le hlt hl.size
  have k0 := grown_cell hg (hl.cell_at h.c0) hne
  have k1 := grown_cell hg (hl.cell_at h.c1) hne
  have k2 := grown_cell hg (hl.cell_at h.c2) hne
  have hlat : Lat w w' := lat_grown (Lat.trans h.lat hl) hg (fun g hv => by have := (Own.lt h.own g hv).1; omega)
  have hz : w.heap.size + 1 ≤ w'.heap.size := World.block_lt_of_cell? _ _ k0
  have hO := Only.set w' ⟨w.heap.size, 0, none⟩ v'
  refine ⟨⟨World.cell?_setCell_same _ _ _ k0, ?_, ?_, fun k => ?_, ?_, ?_, ?_⟩, k0, grown_free hg hlt2 (hl.free_at hlt (h.fz 0)) hne⟩
  · rw [World.cell?_setCell_other _ _ _ _ (by simp)]; exact k1
  · rw [World.cell?_setCell_other _ _ _ _ (by simp)]; exact k2
  · rw [World.frozen?_setCell]; exact grown_free hg hlt2 (hl.free_at hlt (h.fz k)) hne
  · have hoo : OwnInts w' (w.heap.size + 1) v' (L ++ [z]) := by unfold OwnInts Own; rw [List.length_map, List.length_append, List.length_singleton, List.map_append]; exact ho
    exact Own.set hoo (Nat.lt_succ_self _) v'
  · exact (hO.but).lat hlat (Nat.le_refl _)
  · rw [hO.size]; exact hz
theorem pw_half (j : Nat) : 128 / 2 ^ j / 2 = 128 / 2 ^ (j + 1) := by rw [Nat.div_div_eq_div_mul, Nat.pow_succ]
theorem pw_is : ∀ j, j < 8 → 128 / 2 ^ j = 2 ^ (8 - 1 - j) := by decide
theorem pw_zero : 128 / 2 ^ 8 = 0 := by decide

set_option maxHeartbeats 4000000 in
set_option maxRecDepth 100000 in
theorem refRead_any (b : ByteArray) (w : World) (hsz : b.size ≤ maxLen) :
    Calls Tryd.prog 39 #[.string b] w fun e w' => ∃ a cap cs, e = .returned (.tuple #[.int .i64 (unV b 0), .int .i64 (unV b 1), .int .i64 (unV b 2), .slice a cs.length cap, .int .i64 (unE b)]) ∧ CodsAt w' a cs.length cap cs ∧ cs.map Cd.c = unL b ∧ Lat w w' := by
  by_cases h120 : 120 < b.size
  · have d1 : decide (120 < (b.size : Int)) = true := decide_eq_true (by omega)
    have hE : unE b = 4 := by unfold unE; rw [if_pos h120]
    have HEE := Lib.hid hE
    clear hE h120
    go_enter Tryd.func39, Tryd.ntmps39
    go_wp2_with fail
    exact bodyPost_ret (v := .tuple #[.int .i64 0, .int .i64 0, .int .i64 0, .slice none 0 0, .int .i64 4]) (by simp [results, Tryd.results39, go_sem]) rfl ⟨none, 0, [], by
      rw [unV_bad (by rw [HEE.out]; omega), unV_bad (by rw [HEE.out]; omega), unV_bad (by rw [HEE.out]; omega), HEE.out]; rfl, CodsAt.nil _, by rw [unL_bad (by rw [HEE.out]; omega)]; rfl, Lat.refl _⟩
  have d1 : decide (120 < (b.size : Int)) = false := decide_eq_false (by omega)
  by_cases h4 : b.size < 4
  · have d2 : decide ((b.size : Int) < 4) = true := decide_eq_true (by omega)
    have hE : unE b = 2 := by unfold unE; rw [if_neg h120, if_pos h4]
    have HEE := Lib.hid hE
    clear hE h120 h4
    go_enter Tryd.func39, Tryd.ntmps39
    go_wp2_with fail
    exact bodyPost_ret (v := .tuple #[.int .i64 0, .int .i64 0, .int .i64 0, .slice none 0 0, .int .i64 2]) (by simp [results, Tryd.results39, go_sem]) rfl ⟨none, 0, [], by
      rw [unV_bad (by rw [HEE.out]; omega), unV_bad (by rw [HEE.out]; omega), unV_bad (by rw [HEE.out]; omega), HEE.out]; rfl, CodsAt.nil _, by rw [unL_bad (by rw [HEE.out]; omega)]; rfl, Lat.refl _⟩
  have d2 : decide ((b.size : Int) < 4) = false := decide_eq_false (by omega)
  have hb4 : 4 ≤ b.size := by omega
  have hb120 : b.size ≤ 120 := by omega
  have g3 : 3 < b.size := by omega
  have i3 : (3:Int) < (b.size : Int) := by omega
  clear h120 h4
  by_cases h36 : 6 < bt b 3
  · have d3 : decide ((6 : Int) < ((b[3]'g3).toNat : Int)) = true := decide_eq_true (by rw [bt_get b 3 g3]; omega)
    have hE : unE b = 2 := unE_big hb4 hb120 (.inl h36)
    have HEE := Lib.hid hE
    clear hE h36
    go_enter Tryd.func39, Tryd.ntmps39
    go_wp2_with fail
    exact bodyPost_ret (v := .tuple #[.int .i64 0, .int .i64 0, .int .i64 0, .slice none 0 0, .int .i64 2]) (by simp [results, Tryd.results39, go_sem]) rfl ⟨none, 0, [], by
      rw [unV_bad (by rw [HEE.out]; omega), unV_bad (by rw [HEE.out]; omega), unV_bad (by rw [HEE.out]; omega), HEE.out]; rfl, CodsAt.nil _, by rw [unL_bad (by rw [HEE.out]; omega)]; rfl, Lat.refl _⟩
  have d3 : decide ((6 : Int) < ((b[3]'g3).toNat : Int)) = false := decide_eq_false (by rw [bt_get b 3 g3]; omega)
  clear h36
  unfold maxLen at hsz
  obtain ⟨W0, hW0⟩ : ∃ W, W = w.alloc (.cells #[.slice none 0 0, .int .i64 0, .bool false] 118) := ⟨_, rfl⟩
  have hfi : Fil w W0 (.slice none 0 0) [] := by
    rw [hW0]
    exact ⟨cell_new rfl rfl, cell_new rfl rfl, cell_new rfl rfl, fun k => by simp, Own.nil _ _ _, Lat.alloc _ _, by simp⟩
  have HF0 := Lib.hid hfi
  clear hfi
  go_enter Tryd.func39, Tryd.ntmps39
  go_wp2_with fail
  rw [← hW0]
  clear hW0
  obtain ⟨l, hl⟩ : ∃ l, l = b.data.toList.drop 4 := ⟨_, rfl⟩
  have hll : l.length = b.size - 4 := by rw [hl, List.length_drop]; rfl
  have hby : ∀ k, bt b (4 + k) = (l.getD k 0).toNat := fun k => by
    rw [hl]; unfold bt; congr 1
    rw [List.getD_eq_getElem?_getD, List.getD_eq_getElem?_getD, List.getElem?_drop]
  have HLL := Lib.hid hll
  have HBY := Lib.hid hby
  have hub : unBits b = bitsOf l := by rw [hl]; rfl
  have UB := Lib.hid hub
  clear hl hll hby hub
  go_loopw [8] (fun i wx => ∃ I : Nat, 4 ≤ I ∧ I ≤ b.size ∧ i = .int .i64 I ∧ Hid (∃ v, Fil w wx v (bitsOf (l.take (I - 4))))) (fun i _ => b.size - (intOf i).toNat)
  case atStart => exact ⟨4, by omega, by omega, rfl, _, HF0.out⟩
  case round =>
    obtain ⟨I, hI4, hI, rfl, hrel⟩ := hrel
    by_cases hlt : I < b.size
    · obtain ⟨v, hfi⟩ := hrel.out
      have HFI0 := Lib.hid hfi
      obtain ⟨D, hD⟩ : ∃ D, D = (l.getD (I - 4) 0).toNat := ⟨_, rfl⟩
      have hD2 : D < 256 := by rw [hD]; exact UInt8.toNat_lt _
      have hbD : (b[I]'hlt).toNat = D := by rw [bt_get b I hlt, hD, ← HBY.out, show 4 + (I - 4) = I by omega]
      have hstp : bitsOf (l.take (I + 1 - 4)) = bitsOf (l.take (I - 4)) ++ lowb D 8 := by
        rw [show I + 1 - 4 = (I - 4) + 1 by omega, take_snocB l (by have := HLL.out; omega), bitsOf_append, hD]
        show _ ++ (lowb (l.getD (I - 4) 0).toNat 8 ++ []) = _
        rw [List.append_nil]
      have hlen : (bitsOf (l.take (I - 4))).length ≤ 928 := by rw [bitsOf_len, List.length_take]; omega
      obtain ⟨L0, hL0⟩ : ∃ L, L = bitsOf (l.take (I - 4)) := ⟨_, rfl⟩
      rw [← hL0] at hstp hlen HFI0
      have HST := Lib.hid hstp
      have HLEN0 := Lib.hid hlen
      have e1 : IntKind.i64.wrap (D : Int) = D := IntWalk.i64_in _ (by omega)
      have HBD := Lib.hid hbD
      clear hrel hfi hD hstp hlen hL0 hbD
      go_wp2_with fail
      rw [HBD.out, ← IntWalk.i64_left, e1]
      clear e1
      go_loopw [10] (fun p wx => ∃ j : Nat, j ≤ 8 ∧ p = .int .i64 ((128 / 2 ^ j : Nat) : Int) ∧ Hid (∃ v, Fil w wx v (L0 ++ (lowb D 8).take j))) (fun p _ => (intOf p).toNat)
      case atStart => exact ⟨0, by omega, rfl, v, by rw [List.take_zero, List.append_nil]; exact HFI0.out⟩
      case round =>
        obtain ⟨j, hj, rfl, hrel2⟩ := hrel
        obtain ⟨v2, hf2⟩ := hrel2.out
        by_cases hj8 : j < 8
        · obtain ⟨Pw, hPw⟩ : ∃ P, P = 128 / 2 ^ j := ⟨_, rfl⟩
          have hpv : Pw = 2 ^ (8 - 1 - j) := by rw [hPw]; exact pw_is j hj8
          have hp1 : 1 ≤ Pw := by rw [hpv]; exact Nat.one_le_two_pow
          have hp2 : Pw ≤ 128 := by rw [hPw]; exact Nat.div_le_self _ _
          have hph : Pw / 2 = 128 / 2 ^ (j + 1) := by rw [hPw, pw_half]
          rw [← hPw]
          obtain ⟨zb, hzb⟩ : ∃ z, z = D / Pw % 2 := ⟨_, rfl⟩
          have hz2 : zb ≤ 1 := by rw [hzb]; omega
          obtain ⟨Q, hQ⟩ : ∃ q, q = D / Pw := ⟨_, rfl⟩
          have hQ2 : Q ≤ 255 := by rw [hQ]; have := Nat.div_le_self D Pw; omega
          have hqw : IntKind.i64.wrap ((D : Int) / (Pw : Int)) = (Q : Int) := by
            rw [show (D : Int) / (Pw : Int) = (Q : Int) by rw [hQ]; simp]
            exact IntWalk.i64_in _ (by omega)
          have hzv : ((Q : Int).tmod 2) = (zb : Int) := by rw [hzb, ← hQ, Int.tmod_eq_emod_of_nonneg (by omega)]; simp
          have hst2 : (L0 ++ (lowb D 8).take j) ++ [(zb : Int)] = L0 ++ (lowb D 8).take (j + 1) := by
            rw [List.append_assoc]
            congr 1
            rw [take_snoc _ _ (by rw [lowb_length]; exact hj8), lowb_getD D 8 j hj8, hzb, hpv]
          obtain ⟨L, hL⟩ : ∃ L, L = L0 ++ (lowb D 8).take j := ⟨_, rfl⟩
          rw [← hL] at hst2 hf2
          have hlen2 : L.length ≤ 1000 := by rw [hL, List.length_append, List.length_take, lowb_length]; have := HLEN0.out; omega
          have HFI := Lib.hid hf2
          have HLEN := Lib.hid hlen2
          have HZV := Lib.hid hzv
          have HST2 := Lib.hid hst2
          have HPH := Lib.hid hph
          have d5 : decide ((0 : Int) < (Pw : Int)) = true := decide_eq_true (by omega)
          have nz : Pw ≠ 0 := by omega
          clear hrel2 hf2 hPw hpv hph hzb hzv hst2 hL hlen2 hQ
          generalize v2 = v at *
          go_wp2_with fail
          have hG : wr.drew.cell? ⟨w.heap.size, 0, none⟩ = some v := HFI.out.c0
          refine wp_region_gate (fun _ => True) (fun w' => w'.cell? ⟨w.heap.size, 0, none⟩ = some v) 10 (by kernel_rfl) ?_
          refine gate_takeF (i := 0) (v := ?_) rfl (by kernel_rfl) (by kernel_rfl) (by kernel_rfl) (fun _ _ _ h => h) (by decide) ⟨trivial, fun _ => hG⟩ (Or.inl ⟨by rfl, ?_⟩) ?_
          rotate_left
          · intro wq hSw; go_simp; rfl
          simp only [Act.put]
          refine gate_takeF (i := 1) (v := ?_) rfl (by kernel_rfl) (by kernel_rfl) (by kernel_rfl) (fun _ _ _ h => h) (by decide) ⟨trivial, fun _ => hG⟩ (Or.inl ⟨by rfl, ?_⟩) ?_
          rotate_left
          · intro wq hSw; go_simp; rfl
          simp only [Act.put]
          refine gate_takeF (i := 2) (v := ?_) rfl (by kernel_rfl) (by kernel_rfl) (by kernel_rfl) (fun _ _ _ h => h) (by decide) ⟨trivial, fun _ => hG⟩ (Or.inl ⟨by rfl, ?_⟩) ?_
          rotate_left
          · intro wq hSw; go_simp; rfl
          simp only [Act.put]
          refine gate_takeF (i := 3) (v := ?_) rfl (by kernel_rfl) (by kernel_rfl) (by kernel_rfl) (fun _ _ _ h => h) (by decide) ⟨trivial, fun _ => hG⟩ (Or.inl ⟨by rfl, ?_⟩) ?_
          rotate_left
          · intro wq hSw; go_simp; rfl
          simp only [Act.put]
          refine gate_takeG (i := 4) (v := ?_) rfl (by kernel_rfl) (by kernel_rfl) (by kernel_rfl) (fun _ _ _ h => h) (by decide) (by kernel_rfl) (by kernel_rfl) ⟨trivial, fun _ => hG⟩ (Or.inl ⟨by rfl, ?_⟩) ?_
          rotate_left
          · intro wq hSw; obtain ⟨s0, s1⟩ := hSw; go_simp; rfl
          simp only [Act.put]
          refine gate_takeF (i := 5) (v := ?_) rfl (by kernel_rfl) (by kernel_rfl) (by kernel_rfl) (fun _ _ _ h => h) (by decide) ⟨trivial, fun _ => hG⟩ (Or.inl ⟨by rfl, ?_⟩) ?_
          rotate_left
          · intro wq hSw; go_simp; rfl
          simp only [Act.put]
          refine gate_takeF (i := 6) (v := ?_) rfl (by kernel_rfl) (by kernel_rfl) (by kernel_rfl) (fun _ _ _ h => h) (by decide) ⟨trivial, fun _ => hG⟩ (Or.inl ⟨by rfl, ?_⟩) ?_
          rotate_left
          · intro wq hSw; go_simp; rfl
          simp only [Act.put]
          refine gate_takeF (i := 7) (v := ?_) rfl (by kernel_rfl) (by kernel_rfl) (by kernel_rfl) (fun _ _ _ h => h) (by decide) ⟨trivial, fun _ => hG⟩ (Or.inl ⟨by rfl, ?_⟩) ?_
          rotate_left
          · intro wq hSw; go_simp; rfl
          simp only [Act.put]
          refine gate_takeF (i := 8) (v := ?_) rfl (by kernel_rfl) (by kernel_rfl) (by kernel_rfl) (fun _ _ _ h => h) (by decide) ⟨trivial, fun _ => hG⟩ (Or.inl ⟨by rfl, ?_⟩) ?_
          rotate_left
          · intro wq hSw; go_simp; rfl
          simp only [Act.put]
          refine gate_one (i := 9) (by kernel_rfl) rfl (fun K hK => ?_)
          go_simp
          refine hK _ _ ⟨trivial, fun _ => (Lat.alloc _ _).cell_at hG⟩ ?_
          clear hK K
          refine gate_one (i := 10) (by kernel_rfl) rfl (fun K hK => ?_)
          obtain ⟨i0, hi0, hz0, hz1, hz2⟩ := info_int_parts
          rw [HZV.out]
          refine step_append_lies (wr.drew.alloc (.cells #[.int .i64 (zb : Int)] 3)) rfl (.tmp 50) (.tmp 55) 25 rfl (w.heap.size + 1) 3 i0 (.int .i64 0) 1 8 Tryd.underlying25 hi0 hz0 hz1 hz2 rfl (by decide) v L.length (L.map (Value.int .i64)) rfl
            (by have := Own.alloc (Own.drew HFI.out.own) (.cells #[.int .i64 (zb : Int)] 3); unfold Own at this; rwa [List.length_map] at this) ⟨wr.heap.size, 0, none⟩ 1 1 [.int .i64 (zb : Int)] rfl rfl ?_ ?_ (by decide) ?_ ?_ ?_ _ rfl ?_
          · intro q u' hq
            match q, hq with
            | 0, hq =>
              simp at hq; subst hq
              rw [Addr.add_lit]; exact cell_new (by simp) rfl
          · intro u' hu'; simp at hu'; subst hu'; rfl
          · unfold maxLen; have := HLEN.out; omega
          · have := HLEN.out; omega
          · have := HFI.out.sz; simp; omega
          intro g c w1' hown hgrow hat hlt'
          have hfi2 := (HFI.out.drewN 1).step hgrow hown
          refine hK _ _ (FG.past (by kernel_rfl) trivial) ?_
          clear hK K
          have HF2 := Lib.hid hfi2.1
          have cc0 := hfi2.2.1
          have ff0 := hfi2.2.2
          clear hfi2 hown hgrow hat
          refine gate_takeF (i := 11) (v := ?_) rfl (by kernel_rfl) (by kernel_rfl) (by kernel_rfl) (fun _ _ _ h => h) (by decide) (FG.past (by kernel_rfl) trivial) (Or.inl ⟨by rfl, ?_⟩) ?_
          rotate_left
          · intro wq hSw; go_simp; rfl
          simp only [Act.put]
          refine gate_takeF (i := 12) (v := ?_) rfl (by kernel_rfl) (by kernel_rfl) (by kernel_rfl) (fun _ _ _ h => h) (by decide) (FG.past (by kernel_rfl) trivial) (Or.inl ⟨by rfl, ?_⟩) ?_
          rotate_left
          · intro wq hSw; go_simp; rfl
          simp only [Act.put]
          refine gate_one (i := 13) (by kernel_rfl) rfl (fun K hK => ?_)
          go_simp
          refine hK _ _ (FG.past (by kernel_rfl) trivial) ?_
          clear hK K
          refine gate_done (by kernel_rfl) ?_ _
          clear hG
          go_wp2_with fail
          go_roundw
          case rel => exact ⟨j + 1, by omega, by rw [← HPH.out]; go_num, _, by rw [← HST2.out]; exact HF2.out⟩
          case measure => simp [intOf]; omega
        · obtain rfl : j = 8 := by omega
          have d5 : decide ((0 : Int) < ((128 / 2 ^ 8 : Nat) : Int)) = false := by decide
          rw [List.take_of_length_le (by rw [lowb_length]; exact Nat.le_refl _), ← HST.out] at hf2
          have HF3 := Lib.hid hf2
          clear hrel2 hf2 hj8
          go_wp2_with fail
          go_roundw
          case rel => exact ⟨I + 1, by omega, by omega, by go_num, v2, HF3.out⟩
          case measure => simp [intOf]; omega
    · obtain rfl : I = b.size := by omega
      obtain ⟨v, hfi⟩ := hrel.out
      rw [show l.take (b.size - 4) = l from List.take_of_length_le (by rw [HLL.out]; exact Nat.le_refl _)] at hfi
      obtain ⟨LB, hLB⟩ : ∃ L, L = bitsOf l := ⟨_, rfl⟩
      rw [← hLB] at hfi
      have hbit : ∀ z ∈ LB, z = 0 ∨ z = 1 := by rw [hLB]; exact bitsOf_bit _
      obtain ⟨nL, hnL⟩ : ∃ n, LB.length = n := ⟨_, rfl⟩
      have hn9 : nL ≤ 928 := by rw [← hnL, hLB, bitsOf_len, HLL.out]; omega
      obtain ⟨xa, xc, rfl, hat⟩ := OwnInts.sliceN hfi.own (fun z hz => by rcases hbit z hz with h | h <;> omega) hnL
      have hrd : RdR wr.drew w.heap.size xa nL xc 0 LB false := RdR.keep ⟨hfi.c0, hfi.c1, hfi.c2, hfi.fz 1, hfi.fz 2, hat, fun hn b o ha => own_ne hfi.own (Nat.lt_succ_self _) b o ha hn, Nat.zero_le _⟩ (Lat.drewN wr 1)
      have HRD := Lib.hid hrd
      have HLW := Lib.hid (show Lat w wr.drew from Lat.trans hfi.lat (Lat.drewN wr 1))
      have HBIT := Lib.hid hbit
      have HNL := Lib.hid hnL
      have HUB := Lib.hid (show LB = unBits b from hLB.trans UB.out.symm)
      have i0 : (0:Int) < (b.size : Int) := by omega
      have i1 : (1:Int) < (b.size : Int) := by omega
      have i2 : (2:Int) < (b.size : Int) := by omega
      have g0 : 0 < b.size := by omega
      have g1 : 1 < b.size := by omega
      have g2 : 2 < b.size := by omega
      have HX : Hid ((b[0]'g0).toNat = bt b 0 ∧ (b[1]'g1).toNat = bt b 1 ∧ (b[2]'g2).toNat = bt b 2) := ⟨bt_get b 0 g0, bt_get b 1 g1, bt_get b 2 g2⟩
      clear hfi hbit hnL hLB hat hrd hrel hlt hI hI4
      go_wp2_with fail
      refine wp_region_gate (fun _ => True) (fun _ => True) 1000 (by kernel_rfl) ?_
      refine gate_takeF (i := 0) (v := ?_) rfl (by kernel_rfl) (by kernel_rfl) (by kernel_rfl) (fun _ _ _ h => h) (by decide) ⟨trivial, fun _ => trivial⟩ (Or.inl ⟨by rfl, ?_⟩) ?_
      rotate_left
      · intro wq hSw; go_simp; rfl
      simp only [Act.put]
      refine gate_takeF (i := 1) (v := ?_) rfl (by kernel_rfl) (by kernel_rfl) (by kernel_rfl) (fun _ _ _ h => h) (by decide) ⟨trivial, fun _ => trivial⟩ (Or.inl ⟨by rfl, ?_⟩) ?_
      rotate_left
      · intro wq hSw; go_simp; rfl
      simp only [Act.put]
      refine gate_takeF (i := 2) (v := ?_) rfl (by kernel_rfl) (by kernel_rfl) (by kernel_rfl) (fun _ _ _ h => h) (by decide) ⟨trivial, fun _ => trivial⟩ (Or.inl ⟨by rfl, ?_⟩) ?_
      rotate_left
      · intro wq hSw; go_simp; rfl
      simp only [Act.put]
      refine gate_takeF (i := 3) (v := ?_) rfl (by kernel_rfl) (by kernel_rfl) (by kernel_rfl) (fun _ _ _ h => h) (by decide) ⟨trivial, fun _ => trivial⟩ (Or.inl ⟨by rfl, ?_⟩) ?_
      rotate_left
      · intro wq hSw; go_simp; rfl
      simp only [Act.put]
      refine gate_takeF (i := 4) (v := ?_) rfl (by kernel_rfl) (by kernel_rfl) (by kernel_rfl) (fun _ _ _ h => h) (by decide) ⟨trivial, fun _ => trivial⟩ (Or.inl ⟨by rfl, ?_⟩) ?_
      rotate_left
      · intro wq hSw; go_simp; rfl
      simp only [Act.put]
      refine gate_takeF (i := 5) (v := ?_) rfl (by kernel_rfl) (by kernel_rfl) (by kernel_rfl) (fun _ _ _ h => h) (by decide) ⟨trivial, fun _ => trivial⟩ (Or.inl ⟨by rfl, ?_⟩) ?_
      rotate_left
      · intro wq hSw; go_simp; rfl
      simp only [Act.put]
      refine gate_takeF (i := 6) (v := ?_) rfl (by kernel_rfl) (by kernel_rfl) (by kernel_rfl) (fun _ _ _ h => h) (by decide) ⟨trivial, fun _ => trivial⟩ (Or.inl ⟨by rfl, ?_⟩) ?_
      rotate_left
      · intro wq hSw; go_simp; rfl
      simp only [Act.put]
      refine gate_takeF (i := 7) (v := ?_) rfl (by kernel_rfl) (by kernel_rfl) (by kernel_rfl) (fun _ _ _ h => h) (by decide) ⟨trivial, fun _ => trivial⟩ (Or.inl ⟨by rfl, ?_⟩) ?_
      rotate_left
      · intro wq hSw; go_simp; rfl
      simp only [Act.put]
      refine gate_takeF (i := 8) (v := ?_) rfl (by kernel_rfl) (by kernel_rfl) (by kernel_rfl) (fun _ _ _ h => h) (by decide) ⟨trivial, fun _ => trivial⟩ (Or.inl ⟨by rfl, ?_⟩) ?_
      rotate_left
      · intro wq hSw; go_simp; rfl
      simp only [Act.put]
      refine gate_takeF (i := 9) (v := ?_) rfl (by kernel_rfl) (by kernel_rfl) (by kernel_rfl) (fun _ _ _ h => h) (by decide) ⟨trivial, fun _ => trivial⟩ (Or.inl ⟨by rfl, ?_⟩) ?_
      rotate_left
      · intro wq hSw; go_simp; rfl
      simp only [Act.put]
      refine gate_takeF (i := 10) (v := ?_) rfl (by kernel_rfl) (by kernel_rfl) (by kernel_rfl) (fun _ _ _ h => h) (by decide) ⟨trivial, fun _ => trivial⟩ (Or.inl ⟨by rfl, ?_⟩) ?_
      rotate_left
      · intro wq hSw; go_simp; rfl
      simp only [Act.put]
      refine gate_takeF (i := 11) (v := ?_) rfl (by kernel_rfl) (by kernel_rfl) (by kernel_rfl) (fun _ _ _ h => h) (by decide) ⟨trivial, fun _ => trivial⟩ (Or.inl ⟨by rfl, ?_⟩) ?_
      rotate_left
      · intro wq hSw; go_simp; rfl
      simp only [Act.put]
      refine gate_done (by kernel_rfl) ?_ _
      simp only [List.getElem_toArray, List.getElem_cons_succ, List.getElem_cons_zero]; go_simp
      rw [HX.out.1, HX.out.2.1, HX.out.2.2]
      obtain ⟨A0, hA0⟩ : ∃ x, x = bt b 0 := ⟨_, rfl⟩
      obtain ⟨A1, hA1⟩ : ∃ x, x = bt b 1 := ⟨_, rfl⟩
      obtain ⟨A2, hA2⟩ : ∃ x, x = bt b 2 := ⟨_, rfl⟩
      rw [← hA0, ← hA1, ← hA2]
      have l0 : A0 < 256 := by rw [hA0]; exact bt_lt b 0
      have l1 : A1 < 256 := by rw [hA1]; exact bt_lt b 1
      have l2 : A2 < 256 := by rw [hA2]; exact bt_lt b 2
      rw [show IntKind.i64.wrap (A0 : Int) = A0 from IntWalk.i64_in _ (by omega), show IntKind.i64.wrap (A1 : Int) = A1 from IntWalk.i64_in _ (by omega), show IntKind.i64.wrap (A2 : Int) = A2 from IntWalk.i64_in _ (by omega)]
      have HA0 := Lib.hid hA0
      have HA1 := Lib.hid hA1
      have HA2 := Lib.hid hA2
      clear hA0 hA1 hA2 i0 i1 i2 g0 g1 g2 HX
      have hbig : 6 < A0 ∨ 6 < A1 → unE b = 2 := fun h => unE_big hb4 hb120 (by rw [← HA0.out, ← HA1.out]; omega)
      have HBIG := Lib.hid hbig
      clear hbig
      generalize wr.drew = W1 at *
      by_cases h0 : 6 < A0
      · have t0 : decide ((6 : Int) < (A0 : Int)) = true := decide_eq_true (by omega)
        have hE := HBIG.out (.inl h0)
        have HEE := Lib.hid hE
        clear hE h0
        go_wp2_with fail
        exact bodyPost_ret (v := .tuple #[.int .i64 0, .int .i64 0, .int .i64 0, .slice none 0 0, .int .i64 2]) (by simp [results, Tryd.results39, go_sem]) rfl ⟨none, 0, [], by
          rw [unV_bad (by rw [HEE.out]; omega), unV_bad (by rw [HEE.out]; omega), unV_bad (by rw [HEE.out]; omega), HEE.out]; rfl, CodsAt.nil _, by rw [unL_bad (by rw [HEE.out]; omega)]; rfl, HLW.out⟩
      have t0 : decide ((6 : Int) < (A0 : Int)) = false := decide_eq_false (by omega)
      by_cases h1 : 6 < A1
      · have t1 : decide ((6 : Int) < (A1 : Int)) = true := decide_eq_true (by omega)
        have hE := HBIG.out (.inr h1)
        have HEE := Lib.hid hE
        clear hE h1
        go_wp2_with fail
        exact bodyPost_ret (v := .tuple #[.int .i64 0, .int .i64 0, .int .i64 0, .slice none 0 0, .int .i64 2]) (by simp [results, Tryd.results39, go_sem]) rfl ⟨none, 0, [], by
          rw [unV_bad (by rw [HEE.out]; omega), unV_bad (by rw [HEE.out]; omega), unV_bad (by rw [HEE.out]; omega), HEE.out]; rfl, CodsAt.nil _, by rw [unL_bad (by rw [HEE.out]; omega)]; rfl, HLW.out⟩
      have t1 : decide ((6 : Int) < (A1 : Int)) = false := decide_eq_false (by omega)
      have a06 : A0 ≤ 6 := by omega
      have a16 : A1 ≤ 6 := by omega
      clear h0 h1
      obtain ⟨A3, hA3⟩ : ∃ x, x = bt b 3 := ⟨_, rfl⟩
      have hb3 : (b[3]'g3).toNat = A3 := by rw [bt_get b 3 g3, hA3]
      have a36 : A3 ≤ 6 := by have := of_decide_eq_false d3; omega
      have e3 : wrap64 ((b[3]'g3).toNat : Int) = (A3 : Int) := by rw [hb3, ← IntWalk.i64_left]; exact IntWalk.i64_in _ (by omega)
      have HA3 := Lib.hid hA3
      obtain ⟨M, hM⟩ : ∃ M, M = A0 * A1 := ⟨_, rfl⟩
      have hM1 : M ≤ 36 := by rw [hM]; exact Nat.le_trans (Nat.mul_le_mul a06 a16) (by decide)
      have hmul : IntKind.i64.wrap ((A0 : Int) * (A1 : Int)) = (M : Int) := by
        rw [show (A0 : Int) * (A1 : Int) = (M : Int) by rw [hM]; exact (Int.natCast_mul _ _).symm]
        exact IntWalk.i64_in _ (by omega)
      have HMM := Lib.hid hM
      clear hA3 hb3 hM
      go_wp2_with fail
      go_loopw [14, 15] (fun v i wx => ∃ (k q : Nat) (cs : List Cd) (bad : Bool), k ≤ A3 ∧ i = .int .i64 k ∧ cs.length = k ∧ Hid (Rding M LB k (cs.map Cd.c) q bad) ∧ Hid (UInv w.heap.size W1 wx v cs ∧ RdR wx w.heap.size xa nL xc q LB bad)) (fun _ i _ => A3 - (intOf i).toNat)
      case atStart => exact ⟨0, 0, [], false, Nat.zero_le _, rfl, rfl, .inl ⟨rfl, rfl⟩, ⟨OwnR.nil _ _ _ _, But.refl _ _, by simp, HRD.out.lt⟩, HRD.out⟩
      case round =>
        obtain ⟨k, q, cs, bad, hk, rfl, hcl, HR, hrel⟩ := hrel
        obtain ⟨hu, hrd⟩ := hrel.out
        have HU := Lib.hid hu
        have HD := Lib.hid hrd
        have HCS := Lib.hid hcl
        clear hrel hu hrd hcl
        by_cases hlt : k < A3
        · have hbitc := sbit_st wr w.heap.size xa nL xc q M LB bad HD.out HBIT.out
          have HBC := Lib.hid hbitc
          clear hbitc
          go_wp2_with fail
          refine HBC.out.mono ?_
          rintro e w3 ⟨bit, al, q1, bad1, rfl, hal, hrd3, ho3, hst⟩
          have hu3 := HU.out.onBut ho3.but
          obtain ⟨gb, hgb⟩ : ∃ g, g = w3.heap.size := ⟨_, rfl⟩
          have hgg : w.heap.size < gb := by rw [hgb]; exact hrd3.lt
          obtain ⟨W5, hW5⟩ : ∃ W, W = w3.alloc (.cells #[.bool al, .int .i64 0, .int .i64 0, .slice none 0 0] 110) := ⟨_, rfl⟩
          have hpin := Pin.new (al := al) hrd3 hgb
          rw [← hW5] at hpin
          have c0 := hpin.c4.c0
          have HU3 := Lib.hid hu3
          have HRD3 := Lib.hid hrd3
          have HPIN := Lib.hid hpin
          have HGG := Lib.hid hgg
          clear ho3 hrd3 hu3 hpin hgg
          go_upto_if 89 with fail
          rw [← hW5, ← hgb]
          have HGB := Lib.hid hgb
          clear hW5 hgb
          go_cut [89] (fun _ wx => ∃ (x y : Int) (q2 : Nat) (bad2 : Bool), Hid (Pin w.heap.size gb w3 wx xa nL xc q2 LB bad2 al x y (.slice none 0 0) [] ∧ St M LB q bad bad2 (finV al x y [] M (LB.drop q2))))
          case first =>
            cases al with
            | true =>
              go_wp2_with fail
              go_meet
              case rel => exact ⟨0, 0, q1, bad1, HPIN.out, by have := hst.out; simpa using this⟩
            | false =>
              have hs0 : St M LB q bad bad1 (mv2 M (LB.drop q1)) := by have := hst.out; simpa using this
              have HS0 := Lib.hid hs0
              have hmc := smany_any W5 w.heap.size xa nL xc q1 2 LB bad1 HPIN.out.rd HBIT.out (by omega)
              have HMC := Lib.hid hmc
              clear hs0 hmc hst
              go_wp2_with fail
              refine HMC.out.mono ?_
              rintro e w5 ⟨X, q2, bad2, rfl, hX, hrd5, ho5, hp5⟩
              have hX4 : X < 4 := hX
              have hpin5 := HPIN.out.reader hrd5 ho5 HGG.out
              have hset := hpin5.setx HRD3.out (by rw [HGB.out]; exact Nat.le_refl _) ((X : Int) - 1)
              have c1 := hpin5.c4.c1
              have f1 := hpin5.fz 1
              have HS1 := Lib.hid (HS0.out.mvx hp5.out)
              obtain ⟨W6, hW6⟩ : ∃ W, W = w5.setCell ⟨gb, 1, none⟩ (.int .i64 ((X : Int) - 1)) := ⟨_, rfl⟩
              rw [← hW6] at hset
              have HSET := Lib.hid hset
              have hmc2 := smany_any W6 w.heap.size xa nL xc q2 2 LB bad2 HSET.out.rd HBIT.out (by omega)
              have HMC2 := Lib.hid hmc2
              clear hX hrd5 ho5 hp5 hpin5 hset c0 hmc2
              go_upto_region 24 with fail
              rw [← hW6]
              clear hW6 c1 f1
              go_wp2_with fail
              refine HMC2.out.mono ?_
              rintro e w7 ⟨Y, q3, bad3, rfl, hY, hrd7, ho7, hp7⟩
              have hY4 : Y < 4 := hY
              have hpin7 := HSET.out.reader hrd7 ho7 HGG.out
              have c2 := hpin7.c4.c2
              have f2 := hpin7.fz 2
              have hset2 := hpin7.sety HRD3.out (by rw [HGB.out]; exact Nat.le_refl _) ((Y : Int) - 1)
              have HS2 := Lib.hid (HS1.out.mvy hp7.out)
              have HSET2 := Lib.hid hset2
              clear hY hrd7 ho7 hp7 hpin7 hset2
              go_wp2_with fail
              go_meet
              case rel => exact ⟨(X : Int) - 1, (Y : Int) - 1, q3, bad3, HSET2.out, HS2.out⟩
          case rest =>
          obtain ⟨x, y, q2, bad2, hcut⟩ := hcut
          generalize wc = w4 at *
          clear c0 hst HPIN
          go_wp2_with fail
          go_loopw [17] (fun i wx => ∃ (j q3 : Nat) (bad3 : Bool) (v : Value) (vs : List Int), j ≤ M ∧ i = .int .i64 j ∧ vs.length = j ∧ Hid (Pin w.heap.size gb w3 wx xa nL xc q3 LB bad3 al x y v vs ∧ St M LB q bad bad3 (finV al x y vs (M - j) (LB.drop q3)) ∧ ∀ z ∈ vs, -256 ≤ z ∧ z ≤ 256)) (fun i _ => M - (intOf i).toNat)
          case atStart => exact ⟨0, q2, bad2, .slice none 0 0, [], Nat.zero_le _, rfl, rfl, hcut.out.1, hcut.out.2, by simp⟩
          case round =>
            obtain ⟨j, q3, bad3, v, vs, hj, rfl, hvl, hrel⟩ := hrel
            have HP := Lib.hid hrel.out.1
            have HS := Lib.hid hrel.out.2.1
            have HV := Lib.hid hrel.out.2.2
            have HVL := Lib.hid hvl
            clear hrel hvl
            by_cases hjm : j < M
            · have hn := snumber_bd wr w.heap.size xa nL xc q3 2 LB bad3 HP.out.rd HBIT.out (by omega) (by omega)
              have HN := Lib.hid hn
              clear hn
              go_wp2_with fail
              refine HN.out.mono ?_
              rintro e w5 ⟨z, q4, bad4, rfl, hz, hrd5, ho5, hp5⟩
              have hpin := HP.out.reader hrd5 ho5 HGG.out
              have hs5 : St M LB q bad bad4 (finV al x y (vs ++ [z]) (M - (j + 1)) (LB.drop q4)) := by
                have h1 := HS.out
                rw [show M - j = (M - (j + 1)) + 1 by omega] at h1
                exact h1.number hp5.out
              have HP5 := Lib.hid hpin
              have HS5 := Lib.hid hs5
              have HZ := Lib.hid (show ∀ u ∈ vs ++ [z], -256 ≤ u ∧ u ≤ 256 from fun u hu => by
                rcases List.mem_append.1 hu with hu | hu
                · exact HV.out u hu
                · rw [List.mem_singleton.1 hu]; exact hz)
              have HL5 := Lib.hid (show (vs ++ [z]).length = j + 1 by rw [List.length_append, HVL.out]; rfl)
              have c3 := hpin.c4.c3
              clear hrd5 ho5 hp5 hpin hs5 hz
              go_wp2_with (at_builtin; refine app_intR w5 (gb + 1) rfl (.tmp 110) (.tmp 112) rfl v vs z rfl HP5.out.own rfl (by rw [HVL.out]; omega) HP5.out.sz ?_)
              intro v6 w6 hown6 hb6 hs6
              obtain ⟨va, vc, rfl, _⟩ := OwnInts.sliceN hown6 (fun u hu => by have := HZ.out u hu; omega) HL5.out
              obtain ⟨hp6, k3, f3⟩ := HP5.out.app HRD3.out (by rw [HGB.out]; exact Nat.le_refl _) HGG.out hown6 hb6
              have HP6 := Lib.hid hp6
              clear hown6 hb6 hs6 hp6 c3
              go_wp2_with fail
              go_roundw
              case rel => exact ⟨j + 1, q4, bad4, _, vs ++ [z], by omega, by go_num, HL5.out, HP6.out, HS5.out, HZ.out⟩
              case measure => simp [intOf]; omega
            · obtain rfl : j = M := by omega
              obtain ⟨va, vc, rfl, hat⟩ := OwnInts.sliceN HP.out.own (fun u hu => by have := HV.out u hu; omega) HVL.out
              have hst0 : Rding j LB (k + 1) ((cs ++ [(⟨⟨al, x, y, vs⟩, va, j, vc⟩ : Cd)]).map Cd.c) q3 bad3 := by
                rw [List.map_append]
                exact HR.out.pic (by have := HS.out; rwa [Nat.sub_self] at this)
              have hu5 := HU3.out.onBut HP.out.but
              have hoff : Off va j w.heap.size u14 := fun hn0 b' o ha => ⟨own_ne HP.out.own (show w.heap.size < gb + 1 by have := HGG.out; omega) b' o ha hn0, fun e => own_ne HP.out.own (g := b') (by have := (HU3.out.own.lt b' e).2; have := HGB.out; omega) b' o ha hn0 rfl⟩
              have q0 := HP.out.c4.c0
              have q1' := HP.out.c4.c1
              have q2' := HP.out.c4.c2
              have q3' := HP.out.c4.c3
              have HST := Lib.hid hst0
              have HU5 := Lib.hid hu5
              have HAT := Lib.hid hat
              have HOFF := Lib.hid hoff
              clear hst0 hu5 hoff hat
              go_wp2_with (at_builtin; refine appR wr W1.heap.size rfl _ _ 73 rfl 110 _ 4 48 Tryd.underlying73 info_Coded rfl (by decide) (by decide) _ _ _ (by rfl) HU5.out.own rfl (by rfl) (fun u hu => by simp at hu; rcases hu with rfl | rfl | rfl | rfl <;> rfl) (by rw [List.length_map, HCS.out]; omega) HU5.out.but.size ?_)
              intro v' w6 hown6 hb6 hstep6
              have hu6 := HU5.out.app (c := ⟨⟨al, x, y, vs⟩, va, j, vc⟩) HAT.out HOFF.out hown6 hb6 hstep6
              have hd6 := RdR.below HRD.out HP.out.rd HU5.out.but hb6
              have HU6 := Lib.hid hu6
              have HD6 := Lib.hid hd6
              clear hown6 hb6 hstep6 hu6 hd6 q0 q1' q2' q3'
              go_wp2_with fail
              go_roundw
              case rel => exact ⟨k + 1, q3, cs ++ [⟨⟨al, x, y, vs⟩, va, j, vc⟩], bad3, by omega, by go_num, by rw [List.length_append, HCS.out]; rfl, HST, HU6.out, HD6.out⟩
              case measure => simp [intOf]; omega
        · obtain rfl : k = A3 := by omega
          obtain ⟨va, vc, rfl, hat⟩ := CodsAt.of HU.out.own (fun c hc => (HU.out.rest c hc).1) HCS.out
          have hun : unE b = if (unO b).isSome = true then 0 else 2 := by unfold unE; rw [if_neg (by omega), if_neg (by omega)]
          have huo : unO b = match rdCs M k LB with
              | none => none
              | some (cs, _) => if pkE A0 A1 A2 cs = 0 ∧ pkS A0 A1 A2 cs = b then some cs else none := by
            rw [HMM.out, HUB.out, HA3.out, HA0.out, HA1.out, HA2.out]; rfl
          have hpk := refBytes A0 A1 A2 va k vc cs wr hat
          obtain ⟨PE, hPE⟩ : ∃ x, x = pkE A0 A1 A2 (cs.map Cd.c) := ⟨_, rfl⟩
          obtain ⟨PS, hPS⟩ : ∃ x, x = pkS A0 A1 A2 (cs.map Cd.c) := ⟨_, rfl⟩
          have hbad : ¬ (bad = false ∧ PE = 0 ∧ PS = b) → unE b = 2 := fun h => by
            have ho : unO b = none := by
              rw [huo]
              rcases HR.out with ⟨e1, e2⟩ | ⟨e1, e2⟩
              · have hn : ¬ (pkE A0 A1 A2 (cs.map Cd.c) = 0 ∧ pkS A0 A1 A2 (cs.map Cd.c) = b) := by rw [← hPE, ← hPS]; exact fun h2 => h ⟨e1, h2⟩
                rw [e2]
                simp only
                rw [if_neg hn]
              · rw [e2]
            rw [hun, ho]; rfl
          have hgood : bad = false ∧ PE = 0 ∧ PS = b → unE b = 0 ∧ unL b = cs.map Cd.c := fun h => by
            have ho : unO b = some (cs.map Cd.c) := by
              rw [huo]
              rcases HR.out with ⟨e1, e2⟩ | ⟨e1, e2⟩
              · rw [e2]
                simp only
                rw [if_pos (by rw [← hPE, ← hPS]; exact h.2)]
              · rw [h.1] at e1; cases e1
            have hE : unE b = 0 := by rw [hun, ho]; rfl
            exact ⟨hE, by unfold unL; rw [if_pos hE, ho]; rfl⟩
          rw [← hPE, ← hPS] at hpk
          have hc2 := HD.out.c2
          have HPK := Lib.hid hpk
          have HAT := Lib.hid hat
          have HLW4 := Lib.hid (HU.out.but.lat HLW.out (Nat.le_refl _))
          have HBAD := Lib.hid hbad
          have HGOOD := Lib.hid hgood
          clear hpk hat hun huo hPE hPS hbad hgood HU HD HRD
          go_wp2_with fail
          refine HPK.out.mono ?_
          rintro e w5 ⟨rfl, hb5⟩
          have HAT5 := Lib.hid (HAT.out.keep hb5)
          have HLW5 := Lib.hid (Lat.trans HLW4.out hb5)
          have c2 := hb5.cell_at hc2
          clear hb5 hc2
          cases bad with
          | true =>
            have hE := HBAD.out (fun h => by cases h.1)
            have HEE := Lib.hid hE
            clear hE
            go_wp2_with fail
            exact bodyPost_ret (v := .tuple #[.int .i64 0, .int .i64 0, .int .i64 0, .slice none 0 0, .int .i64 2]) (by simp [results, Tryd.results39, go_sem]) rfl ⟨none, 0, [], by
              rw [unV_bad (by rw [HEE.out]; omega), unV_bad (by rw [HEE.out]; omega), unV_bad (by rw [HEE.out]; omega), HEE.out]; rfl, CodsAt.nil _, by rw [unL_bad (by rw [HEE.out]; omega)]; rfl, HLW5.out⟩
          | false =>
            by_cases hp : PE = 0
            case neg =>
              have hE := HBAD.out (fun h => hp h.2.1)
              have HEE := Lib.hid hE
              have t9 : ((PE : Int) != 0) = true := by rw [bne_iff_ne]; omega
              clear hE hp
              go_wp2_with fail
              exact bodyPost_ret (v := .tuple #[.int .i64 0, .int .i64 0, .int .i64 0, .slice none 0 0, .int .i64 2]) (by simp [results, Tryd.results39, go_sem]) rfl ⟨none, 0, [], by
                rw [unV_bad (by rw [HEE.out]; omega), unV_bad (by rw [HEE.out]; omega), unV_bad (by rw [HEE.out]; omega), HEE.out]; rfl, CodsAt.nil _, by rw [unL_bad (by rw [HEE.out]; omega)]; rfl, HLW5.out⟩
            have t9 : ((PE : Int) != 0) = false := by rw [bne_eq_false_iff_eq]; omega
            by_cases hs : PS = b
            case neg =>
              have hE := HBAD.out (fun h => hs h.2.2)
              have HEE := Lib.hid hE
              have hbn : (PS.toList == b.toList) = false := toList_ne hs
              clear hE hs hp
              go_wp2_with fail
              exact bodyPost_ret (v := .tuple #[.int .i64 0, .int .i64 0, .int .i64 0, .slice none 0 0, .int .i64 2]) (by simp [results, Tryd.results39, go_sem]) rfl ⟨none, 0, [], by
                rw [unV_bad (by rw [HEE.out]; omega), unV_bad (by rw [HEE.out]; omega), unV_bad (by rw [HEE.out]; omega), HEE.out]; rfl, CodsAt.nil _, by rw [unL_bad (by rw [HEE.out]; omega)]; rfl, HLW5.out⟩
            have hg := HGOOD.out ⟨rfl, hp, hs⟩
            have HGG2 := Lib.hid hg
            have hbn : (PS.toList == b.toList) = true := by rw [hs]; exact beq_iff_eq.2 rfl
            clear hg hs hp
            go_wp2_with fail
            exact bodyPost_ret (v := .tuple #[.int .i64 A0, .int .i64 A1, .int .i64 A2, .slice va k vc, .int .i64 0]) (by simp [results, Tryd.results39, go_sem]) rfl ⟨va, vc, cs, by
              unfold unV; rw [if_pos HGG2.out.1, if_pos HGG2.out.1, if_pos HGG2.out.1, HGG2.out.1, HCS.out, HA0.out, HA1.out, HA2.out]; rfl, by rw [HCS.out]; exact HAT5.out, HGG2.out.2.symm, HLW5.out⟩
end Go.Proofs.YtooepflfofgnnaaDoor

namespace Go.Proofs.YtooepflfofgnnaaDoor
open Go.ChangeShapes Go.WideShapes Go.ChangeAt Go.RowKit

def sameC (al : Bool) (x y : Int) (zs : List Int) (al2 : Bool) (x2 y2 : Int) (ys : List Int) : Bool := decide (al = al2 ∧ x = x2 ∧ y = y2 ∧ zs = ys)
set_option maxHeartbeats 1000000 in
theorem sameCod_any (al : Bool) (x y : Int) (a : Option Addr) (n cap : Nat) (zs : List Int) (al2 : Bool) (x2 y2 : Int) (b : Option Addr) (m cap2 : Nat) (ys : List Int) (w : World) (h : IntsAt w a n cap zs) (h2 : IntsAt w b m cap2 ys) :
    Calls Tryd.prog 77 #[codV al x y a n cap, codV al2 x2 y2 b m cap2] w fun e w' => e = .returned (.bool (sameC al x y zs al2 x2 y2 ys)) ∧ Lat w w' := by
  obtain ⟨W0, hW0⟩ : ∃ W, W = (w.alloc (.cells #[.bool al, .int .i64 x, .int .i64 y, .slice a n cap] 110)).alloc (.cells #[.bool al2, .int .i64 x2, .int .i64 y2, .slice b m cap2] 110) := ⟨_, rfl⟩
  have hl0 : Lat w W0 := by rw [hW0]; exact Lat.trans (Lat.alloc _ _) (Lat.alloc _ _)
  have hp : Cells4 W0 w.heap.size (.bool al) (.int .i64 x) (.int .i64 y) (.slice a n cap) := by rw [hW0]; exact (cells4_new rfl rfl rfl rfl rfl).keep (Lat.alloc _ _)
  have hq : Cells4 W0 (w.heap.size + 1) (.bool al2) (.int .i64 x2) (.int .i64 y2) (.slice b m cap2) := by rw [hW0]; exact cells4_new (by simp) rfl rfl rfl rfl
  have hc := sameInts_any a n cap zs b m cap2 ys W0 (h.keep hl0) (h2.keep hl0)
  have HC := Lib.hid hc
  have HL0 := Lib.hid hl0
  have p0 := hp.c0
  have p1 := hp.c1
  have p2 := hp.c2
  have p3 := hp.c3
  have q0 := hq.c0
  have q1 := hq.c1
  have q2 := hq.c2
  have q3 := hq.c3
  have hd : ((al == al2) = false ∧ sameC al x y zs al2 x2 y2 ys = false) ∨ ((al == al2) = true ∧ (x == x2) = false ∧ sameC al x y zs al2 x2 y2 ys = false) ∨ ((al == al2) = true ∧ (x == x2) = true ∧ (y == y2) = false ∧ sameC al x y zs al2 x2 y2 ys = false) ∨
      ((al == al2) = true ∧ (x == x2) = true ∧ (y == y2) = true ∧ sameC al x y zs al2 x2 y2 ys = sameI zs ys) := by
    by_cases e1 : al = al2
    · by_cases e2 : x = x2
      · by_cases e3 : y = y2
        · exact .inr (.inr (.inr ⟨by simp [e1], by simp [e2], by simp [e3], by simp [sameC, sameI, e1, e2, e3]⟩))
        · exact .inr (.inr (.inl ⟨by simp [e1], by simp [e2], by simp [e3], by simp [sameC, e3]⟩))
      · exact .inr (.inl ⟨by simp [e1], by simp [e2], by simp [sameC, e2]⟩)
    · exact .inl ⟨by simp [e1], by simp [sameC, e1]⟩
  clear h h2 hl0 hp hq hc
  rcases hd with ⟨d1, d2⟩ | ⟨d1, d2, d3⟩ | ⟨d1, d2, d3, d4⟩ | ⟨d1, d2, d3, d4⟩
  · rw [d2]
    clear d2
    go_enter Tryd.func77, Tryd.ntmps77
    go_upto_region 1 with fail
    rw [← hW0]
    clear hW0
    go_wp2
    go_ret
    exact ⟨rfl, HL0.out⟩
  · rw [d3]
    clear d3
    go_enter Tryd.func77, Tryd.ntmps77
    go_upto_region 1 with fail
    rw [← hW0]
    clear hW0
    go_wp2
    go_ret
    exact ⟨rfl, HL0.out⟩
  · rw [d4]
    clear d4
    go_enter Tryd.func77, Tryd.ntmps77
    go_upto_region 1 with fail
    rw [← hW0]
    clear hW0
    go_wp2
    go_ret
    exact ⟨rfl, HL0.out⟩
  · rw [d4]
    clear d4
    go_enter Tryd.func77, Tryd.ntmps77
    go_upto_region 1 with fail
    rw [← hW0]
    clear hW0
    go_wp2_with fail
    refine HC.out.mono ?_
    rintro e w1 ⟨rfl, hb1⟩
    go_wp2
    go_ret
    exact ⟨rfl, Lat.trans HL0.out hb1⟩
end Go.Proofs.YtooepflfofgnnaaDoor

namespace Go.Proofs.YtooepflfofgnnaaDoor
open Go.ChangeShapes Go.WideShapes Go.ChangeAt Go.RowKit

set_option maxHeartbeats 1000000 in
set_option maxRecDepth 100000 in
theorem sameCds_yes (a : Option Addr) (n cap : Nat) (cs : List Cd) (a2 : Option Addr) (cap2 : Nat) (ds : List Cd) (w : World) (h : CodsAt w a n cap cs) (h2 : CodsAt w a2 n cap2 ds) (he : cs.map Cd.c = ds.map Cd.c) :
    Calls Tryd.prog 41 #[.slice a n cap, .slice a2 n cap2] w fun e w' => e = .returned (.bool true) ∧ Lat w w' := by
  have hc := h.cap
  have hle := h.le
  unfold maxLen at hc
  have dn : ((n : Int) != (n : Int)) = false := by simp
  have H1 := Lib.hid h
  have H2 := Lib.hid h2
  have HE := Lib.hid he
  clear h h2 he
  go_enter Tryd.func41, Tryd.ntmps41
  go_wp2_with fail
  go_loopw [5] (fun i wr => ∃ k : Nat, k ≤ n ∧ i = .int .i64 k ∧ Hid (Lat w wr)) (fun i _ => n - (intOf i).toNat)
  case atStart => exact ⟨0, Nat.zero_le _, rfl, Lat.refl _⟩
  case round =>
    obtain ⟨k, hk, rfl, hrel⟩ := hrel
    by_cases hlt : k < n
    · obtain ⟨b1, o1, rfl, _, hc1⟩ := cods_at H1.out (by omega)
      obtain ⟨b2, o2, rfl, _, hc2⟩ := cods_at H2.out (by omega)
      obtain ⟨x0, x1, x2, x3, xi⟩ := hc1 k hlt
      obtain ⟨y0, y1, y2, y3, yi⟩ := hc2 k hlt
      have hp : (cs.getD k default).c = (ds.getD k default).c := by
        rw [← cts_getD (by have := H1.out.len; omega), ← cts_getD (by have := H2.out.len; omega), HE.out]
      obtain ⟨⟨⟨pl, px, py, pz⟩, pa, pn, pc⟩, hP⟩ : ∃ p, p = cs.getD k default := ⟨_, rfl⟩
      obtain ⟨⟨⟨ql, qx, qy, qz⟩, qa, qn, qc⟩, hQ⟩ : ∃ p, p = ds.getD k default := ⟨_, rfl⟩
      rw [← hP] at x0 x1 x2 x3 xi hp
      rw [← hQ] at y0 y1 y2 y3 yi hp
      simp only [Ct.mk.injEq] at hp
      obtain ⟨rfl, rfl, rfl, rfl⟩ := hp
      have x0 := hrel.out.cell_at x0
      have x1 := hrel.out.cell_at x1
      have x2 := hrel.out.cell_at x2
      have x3 := hrel.out.cell_at x3
      have y0 := hrel.out.cell_at y0
      have y1 := hrel.out.cell_at y1
      have y2 := hrel.out.cell_at y2
      have y3 := hrel.out.cell_at y3
      have HXI := Lib.hid (xi.keep hrel.out)
      have HYI := Lib.hid (yi.keep hrel.out)
      have hsp : sameC pl px py pz pl px py pz = true := decide_eq_true ⟨rfl, rfl, rfl, rfl⟩
      have HSP := Lib.hid hsp
      clear hc1 hc2 xi yi hP hQ hsp
      go_wp2_with fail
      go_still_tail 8, (by kernel_rfl)
      change wpList _ _ _ _ _ wr.drew
      have hdr : Lat wr wr.drew := Lat.drewN wr 1
      have HDR := Lib.hid hdr
      have HWD := Lib.hid (Lat.trans hrel.out hdr)
      clear hdr
      generalize wr.drew = w4 at *
      go_wp2_with fail
      refine (sameCod_any pl px py pa pn pc pz pl px py qa qn qc pz w4 (HXI.out.keep HDR.out) (HYI.out.keep HDR.out)).mono ?_
      rw [HSP.out]
      rintro e w5 ⟨rfl, hb5⟩
      have HB5 := Lib.hid (Lat.trans HWD.out hb5)
      clear hb5
      go_wp2_with fail
      go_roundw
      case rel => exact ⟨k + 1, by omega, by go_num, HB5.out⟩
      case measure => simp [intOf]; omega
    · go_wp2_with fail
      go_ret
      exact ⟨rfl, hrel.out⟩
end Go.Proofs.YtooepflfofgnnaaDoor

namespace Go.Proofs.YtooepflfofgnnaaDoor
open Go.ChangeShapes Go.WideShapes Go.ChangeAt Go.RowKit

theorem sameErr_nil (w : World) : Calls Tryd.prog 12 #[.nilIface, .int .i64 0] w fun e w' => e = .returned (.bool true) ∧ Lat w w' := by
  go_enter Tryd.func12, Tryd.ntmps12
  go_wp2_with (go_at_call 49; refine (told_nil _).mono ?_; rintro e w' ⟨rfl, hb⟩)
  go_ret
  exact ⟨rfl, hb⟩
theorem sameErr_eno (n : Int) (w : World) (hg : Hnd w) : Calls Tryd.prog 12 #[eno n, .int .i64 n] w fun e w' => e = .returned (.bool true) ∧ Lat w w' := by
  have H := Lib.hid hg
  clear hg
  go_enter Tryd.func12, Tryd.ntmps12
  go_wp2_with (go_at_call 49; refine (told_eno n _ H.out).mono ?_; rintro e w' ⟨rfl, hb⟩)
  go_ret
  exact ⟨rfl, hb⟩
theorem sameErr_any (n : Nat) (w : World) (hg : Hnd w) : Calls Tryd.prog 12 #[errv n, .int .i64 n] w fun e w' => e = .returned (.bool true) ∧ Lat w w' := by
  by_cases h : n = 0
  · subst h; exact sameErr_nil w
  · rw [errv_pos h]; exact sameErr_eno n w hg
end Go.Proofs.YtooepflfofgnnaaDoor

namespace Go.Proofs.YtooepflfofgnnaaDoor
open Go.ChangeShapes Go.WideShapes Go.ChangeAt Go.RowKit Go.Joins

set_option maxRecDepth 100000
theorem CodAt.keep {w w' : World} {x y : Int} {a : Option Addr} {n cap : Nat} {zs : List Int} (h : CodAt w x y a n cap zs) (hb : Lat w w') : CodAt w' x y a n cap zs := ⟨h.x, h.y, h.pix.keep hb⟩
section
variable {H : Type} {enc : TypeId × Value → H} {w : World} {base : Nat} {spare : Nat → Bool} {held : Bool}
theorem open_codCells {fuel : Nat} {cs : List Value} {d : DataW H × List MemPlace} (h : DataW.trod enc Tryd.prog w base spare held fuel 110 cs = some d) :
    ∃ (al : Bool) (x y : Int) (a : Option Addr) (n cap : Nat) (zs : List Int), cs = [.bool al, .int .i64 x, .int .i64 y, .slice a n cap] ∧ CodAt w x y a n cap zs := by
  obtain ⟨xs, n, _, _, hlen, hxl, hf⟩ := DataW.trod_struct Tryd.underlying110 h
  rw [show Tryd.prog.cellsOf 110 = 4 by kernel_rfl] at hlen
  have hxl3 : xs.length = 3 := hxl
  match cs, hlen with
  | [c0, c1, c2, c3], _ =>
    have h0 := hf 0 _ rfl
    have h1 := hf 1 _ rfl
    have h2 := hf 2 _ rfl
    rw [List.getElem?_eq_getElem (by omega)] at h0 h1 h2
    rw [show Tryd.prog.cellsOf _ = 1 by kernel_rfl] at h0
    rw [show Tryd.prog.cellsOf _ = 2 by kernel_rfl] at h1
    rw [show Tryd.prog.cellsOf _ = 1 by kernel_rfl] at h2
    have h0' : DataW.trod enc Tryd.prog w base spare held n 4 [c0] = some _ := h0
    have h1' : DataW.trod enc Tryd.prog w base spare held n 108 [c1, c2] = some _ := h1
    have h2' : DataW.trod enc Tryd.prog w base spare held n 25 [c3] = some _ := h2
    obtain ⟨al, hb, _⟩ := DataW.trod_bool Tryd.underlying4 h0'
    obtain ⟨ys, k, _, _, _, hyl, hg⟩ := DataW.trod_struct Tryd.underlying108 h1'
    have hyl2 : ys.length = 2 := hyl
    have g0 := hg 0 _ rfl
    have g1 := hg 1 _ rfl
    rw [List.getElem?_eq_getElem (by omega)] at g0 g1
    rw [show Tryd.prog.cellsOf _ = 1 by kernel_rfl] at g0 g1
    have g0' : DataW.trod enc Tryd.prog w base spare held k 3 [c1] = some _ := g0
    have g1' : DataW.trod enc Tryd.prog w base spare held k 3 [c2] = some _ := g1
    obtain ⟨x, rfl, wx⟩ := open_intCell Tryd.underlying3 g0'
    obtain ⟨y, rfl, wy⟩ := open_intCell Tryd.underlying3 g1'
    obtain ⟨a, m, cap, zs, rfl, hz⟩ := open_IntsCell Tryd.underlying25 Tryd.underlying3 (by kernel_rfl) h2'
    simp at hb
    subst hb
    exact ⟨al, x, y, a, m, cap, zs, rfl, wx, wy, hz⟩
theorem open_Cod {r : Reach} {b0 : Nat} {v : Value} {d : DataW H} {p : List MemPlace} (hv : Value.okWide Tryd.prog w r b0 110 v) (h : DataW.Trod enc Tryd.prog w base spare held 110 v d p) :
    ∃ (al : Bool) (x y : Int) (a : Option Addr) (n cap : Nat) (zs : List Int), v = codV al x y a n cap ∧ CodAt w x y a n cap zs := by
  obtain ⟨cs, rfl, hsz⟩ := okWide_struct Tryd.underlying110 hv
  obtain ⟨fuel, hf⟩ := h
  obtain ⟨al, x, y, a, n, cap, zs, hcs, hc⟩ := open_codCells hf
  refine ⟨al, x, y, a, n, cap, zs, ?_, hc⟩
  simp [Value.cells] at hcs
  cases cs
  simp_all
end
end Go.Proofs.YtooepflfofgnnaaDoor

namespace Go.Proofs.YtooepflfofgnnaaDoor
open Go.ChangeShapes Go.WideShapes Go.ChangeAt Go.RowKit Go.Joins Go.Deep

set_option maxRecDepth 100000
section
variable {H : Type} {enc : TypeId × Value → H} {w : World} {base : Nat} {spare : Nat → Bool} {held : Bool}
theorem open_CodsAt {d : DataW H} {ps : List MemPlace} {a : Option Addr} {n cap : Nat}
    (h : DataW.Trod enc Tryd.prog w base spare held 73 (.slice a n cap) d ps) : ∃ l, CodsAt w a n cap l := by
  obtain ⟨fuel, hf⟩ := h
  rcases open_slice Tryd.underlying73 hf with h0 | ⟨x, l, c, m, k, D, Pl, hcs, _, hl, hm, hmm, hx, hi⟩
  · have hcs := h0.1
    simp [Value.cells] at hcs
    obtain ⟨rfl, rfl, rfl⟩ := hcs
    exact ⟨[], CodsAt.nil w⟩
  · simp [Value.cells] at hcs
    obtain ⟨rfl, rfl, rfl⟩ := hcs
    have hlm : n ≤ m := by rw [hmm]; split <;> omega
    have hb : ∀ i, i < n → ∃ q : Cd, (w.cell? (x.add (i * 4 + 0)) = some (.bool q.c.al) ∧ w.cell? (x.add (i * 4 + 1)) = some (.int .i64 q.c.x) ∧ w.cell? (x.add (i * 4 + 2)) = some (.int .i64 q.c.y) ∧ w.cell? (x.add (i * 4 + 3)) = some (.slice q.a q.n q.cap)) ∧ CodAt w q.c.x q.c.y q.a q.n q.cap q.c.rs := fun i hin => by
      obtain ⟨cs', hc, ht'⟩ := hi i (by omega)
      rw [show Tryd.prog.cellsOf 110 = 4 by kernel_rfl] at hc
      obtain ⟨_, hcl, hat⟩ := World.cells?_some hc
      obtain ⟨al, x', y', pa, pn, pc, zs, hcs', hcod⟩ := open_codCells ht'
      subst hcs'
      refine ⟨⟨⟨al, x', y', zs⟩, pa, pn, pc⟩, ⟨?_, ?_, ?_, ?_⟩, hcod⟩
      · rw [← Go.Deep.add_add, hat 0 (by omega)]; rfl
      · rw [← Go.Deep.add_add, hat 1 (by omega)]; rfl
      · rw [← Go.Deep.add_add, hat 2 (by omega)]; rfl
      · rw [← Go.Deep.add_add, hat 3 (by omega)]; rfl
    obtain ⟨B, hB⟩ := Go.Deep.choose_lt hb
    refine ⟨(List.range n).map B, by simp, hl, hm, fun hn => ?_, fun p hp => ?_⟩
    · have h0 := (hB 0 (by omega)).1.1
      have hs : x = ⟨x.block, x.off, none⟩ := by
        have := World.cell?_spot h0
        cases x with | mk b o s => cases s <;> simp_all [Addr.add]
      refine ⟨x.block, x.off, by rw [← hs], fun j p hp => ?_⟩
      have hj : j < n := by have := (List.getElem?_eq_some_iff.1 hp).1; simpa using this
      have hpB : p = B j := by
        rw [List.getElem?_map, List.getElem?_range hj] at hp
        injection hp with hp
        exact hp.symm
      obtain ⟨c0, c1, c2, c3⟩ := (hB j hj).1
      rw [hs, Addr.add_lit] at c0 c1 c2 c3
      subst hpB
      exact ⟨by simpa using c0, by rw [Nat.add_assoc]; exact c1, by rw [Nat.add_assoc]; exact c2, by rw [Nat.add_assoc]; exact c3⟩
    · obtain ⟨i, hi, rfl⟩ := List.mem_map.1 hp
      exact (hB i (List.mem_range.1 hi)).2.pix
end
end Go.Proofs.YtooepflfofgnnaaDoor

namespace Go.Proofs.YtooepflfofgnnaaDoor
open Go.ChangeShapes Go.WideShapes Go.ChangeAt Go.RowKit

set_option maxHeartbeats 4000000 in
set_option maxRecDepth 100000 in
theorem walk_bytesTell (wd hg s : Int) (a : Option Addr) (n cap : Nat) (cs : List Cd) (b : ByteArray) (w : World) (hgn : Hnd w) (_ : (Lit.int .i64 wd).wf = true) (_ : (Lit.int .i64 hg).wf = true) (_ : (Lit.int .i64 s).wf = true) (h : CodsAt w a n cap cs) (hb : b.size ≤ maxLen) :
    Calls Tryd.prog 9 #[.int .i64 wd, .int .i64 hg, .int .i64 s, .slice a n cap, .string b] w fun e w' => e = .returned (.bool true) ∧ Lat w w' := by
  have H := Lib.hid h
  have HG := Lib.hid hgn
  obtain ⟨PE, hPE⟩ : ∃ x, x = pkE wd hg s (cs.map Cd.c) := ⟨_, rfl⟩
  obtain ⟨PS, hPS⟩ : ∃ x, x = pkS wd hg s (cs.map Cd.c) := ⟨_, rfl⟩
  have k1 := fun W (hW : Lat w W) => refBytes wd hg s a n cap cs W (h.keep hW)
  have k2 := fun W (hW : Lat w W) => pack_any wd hg s a n cap cs W (h.keep hW)
  simp only [← hPE, ← hPS] at k1 k2
  obtain ⟨UE, hUE⟩ : ∃ x, x = unE b := ⟨_, rfl⟩
  obtain ⟨V0, hV0⟩ : ∃ x, x = unV b 0 := ⟨_, rfl⟩
  obtain ⟨V1, hV1⟩ : ∃ x, x = unV b 1 := ⟨_, rfl⟩
  obtain ⟨V2, hV2⟩ : ∃ x, x = unV b 2 := ⟨_, rfl⟩
  obtain ⟨UL, hUL⟩ : ∃ x, x = unL b := ⟨_, rfl⟩
  have k3 := fun W => refRead_any b W hb
  have k4 := fun W => unpack_any b W hb
  simp only [← hUE, ← hV0, ← hV1, ← hV2, ← hUL] at k3 k4
  have K1 := Lib.hid k1
  have K2 := Lib.hid k2
  have K3 := Lib.hid k3
  have K4 := Lib.hid k4
  have t0 : (PS.toList == PS.toList) = true := beq_iff_eq.2 rfl
  have t1 : (V0 == V0) = true := beq_iff_eq.2 rfl
  have t2 : (V1 == V1) = true := beq_iff_eq.2 rfl
  have t3 : (V2 == V2) = true := beq_iff_eq.2 rfl
  clear h hgn hPE hPS hUE hV0 hV1 hV2 hUL k1 k2 k3 k4 hb
  go_enter Tryd.func9, Tryd.ntmps9
  go_wp2_with fail
  refine (K1.out w (Lat.refl w)).mono ?_
  rintro e w1 ⟨rfl, hb1⟩
  have HB1 := Lib.hid hb1
  clear hb1
  go_wp2_with fail
  refine (K2.out w1 HB1.out).mono ?_
  rintro e w2 ⟨rfl, hb2⟩
  have HB2 := Lib.hid (Lat.trans HB1.out hb2)
  clear hb2
  go_wp2_with fail
  refine (sameErr_any PE _ (HG.out.keep HB2.out)).mono ?_
  rintro e w3 ⟨rfl, hb3⟩
  have HB3 := Lib.hid (Lat.trans HB2.out hb3)
  clear hb3
  go_wp2_with fail
  refine (K3.out w3).mono ?_
  rintro e w4 ⟨ra, rc, rs, rfl, hat4, hrs, hb4⟩
  have HAT4 := Lib.hid hat4
  have HRS := Lib.hid hrs
  have HB4 := Lib.hid (Lat.trans HB3.out hb4)
  clear hat4 hrs hb4
  go_wp2_with fail
  refine (K4.out w4).mono ?_
  rintro e w5 ⟨ua, uc, us, rfl, hat5, hus, hb5⟩
  have hlen : us.length = rs.length := by
    have h1 := congrArg List.length hus
    have h2 := congrArg List.length HRS.out
    rw [List.length_map] at h1 h2
    omega
  rw [hlen] at hat5 ⊢
  have HAT5 := Lib.hid hat5
  have HAT4' := Lib.hid (HAT4.out.keep hb5)
  have HUS := Lib.hid hus
  have HB5 := Lib.hid (Lat.trans HB4.out hb5)
  clear hat5 hus hb5 hlen
  go_wp2_with fail
  refine (sameErr_any UE _ (HG.out.keep HB5.out)).mono ?_
  rintro e w6 ⟨rfl, hb6⟩
  have HAT6 := Lib.hid (HAT5.out.keep hb6)
  have HAT7 := Lib.hid (HAT4'.out.keep hb6)
  have HB6 := Lib.hid (Lat.trans HB5.out hb6)
  clear hb6
  go_wp2_with fail
  refine (sameCds_yes ua rs.length uc us ra rc rs w6 HAT6.out HAT7.out (by rw [HUS.out, HRS.out])).mono ?_
  rintro e w7 ⟨rfl, hb7⟩
  have HB7 := Lib.hid (Lat.trans HB6.out hb7)
  clear hb7
  go_wp2_with fail
  go_ret
  exact ⟨rfl, HB7.out⟩
end Go.Proofs.YtooepflfofgnnaaDoor

