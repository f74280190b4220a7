/- The contract of slices.Repeat at one int. -/
import Derived.Test.YtnnjijdpenifjaaDoorAppG
import Derived.Test.YtnnjijdpenifjaaDoorShelfMul
import Derived.Laws.CopyOwn
import Derived.Deep.RegionLaw
import Derived.IntWalk
namespace Go.Proofs.YtnnjijdpenifjaaDoor
open Go.ChangeShapes Go.WideShapes Go.ChangeAt Go.RowKit

/-- n of m cells hold c, the others 0. -/
def rb (m n : Nat) (c : Int) : List Value := List.replicate n (.int .i64 c) ++ List.replicate (m - n) (.int .i64 0)
theorem rb_length (m n : Nat) (c : Int) (h : n ≤ m) : (rb m n c).length = m := by unfold rb; simp; omega
theorem rb_get (m n : Nat) (c : Int) (j : Nat) (h : j < n) : (rb m n c)[j]? = some (.int .i64 c) := by unfold rb; rw [List.getElem?_append_left (by simpa using h)]; simp [h]
theorem rb_splice (m n k : Nat) (c : Int) (h : n + k ≤ m) : splice (rb m n c) n (List.replicate k (.int .i64 c)) = rb m (n + k) c := by
  unfold splice rb
  rw [List.length_replicate]
  have e1 : (List.replicate n (Value.int .i64 c) ++ List.replicate (m - n) (Value.int .i64 0)).take n = List.replicate n (.int .i64 c) := by
    have := List.take_left (l₁ := List.replicate n (Value.int .i64 c)) (l₂ := List.replicate (m - n) (Value.int .i64 0))
    rwa [List.length_replicate] at this
  have e2 : (List.replicate n (Value.int .i64 c) ++ List.replicate (m - n) (Value.int .i64 0)).drop (n + k) = List.replicate (m - (n + k)) (.int .i64 0) := by
    rw [List.drop_append, List.drop_eq_nil_of_le (by simp), List.nil_append, List.length_replicate, List.drop_replicate]
    congr 1; omega
  rw [e1, e2, ← List.append_assoc, List.replicate_append_replicate]
theorem rb_full (m : Nat) (c : Int) : rb m m c = List.replicate m (.int .i64 c) := by unfold rb; simp

theorem wpList_make_int (w : World) {ops : Array Oper} {rest : List Oper} {o : Oper} {a : Act} {Q : Exit → Act → World → Prop}
    (hg : o.guard = none) (l c : Operand) (hop : o.op = Op.makeSlice 22 l c) (n : Nat) (hl : a.eval l = .int .i64 n) (hc : a.eval c = .int .i64 n) (b3 : n ≤ 1000000)
    (hK : ∀ g w', g = w.heap.size → Hid (w'.heap[g]? = some (.cells (List.replicate n (.int .i64 0)).toArray 3 (0, 0))) → Lat w w' → wpList Tryd.prog ops Q rest (a.put o.dst (.slice (some ⟨g, 0, none⟩) n n)) w') :
    wpList Tryd.prog ops Q (o :: rest) a w := by
  obtain ⟨i, h2, h3, h4, h5⟩ := info_parts info_int
  refine wpList_make_full w hg l c 22 hop w.heap.size 3 i (.int .i64 0) 1 Tryd.underlying22 h2 h3 h4 .i64 .i64 _ _ n hl hc rfl rfl (by rw [h5]; omega) (by unfold maxLen; omega) (Nat.le_refl _) ?_
  intro w' hown hgrow
  refine hK w.heap.size w' rfl ?_ ⟨hgrow.os, hgrow.tape, hgrow.output, hgrow.size, fun k hk => hgrow.block k hk (by simp)⟩
  obtain ⟨hlen, hor⟩ := hown
  rcases hor with ⟨hv, _⟩ | ⟨g, cap, cur, hv, hge, hh, hn, hcm, hs, ht⟩
  · cases hv
  · have hgg : g = w.heap.size := by cases hv; rfl
    have hcc : cap = n := by cases hv; rfl
    subst hgg
    subst hcc
    rw [Nat.mul_one] at ht hs
    have e : cur = (List.replicate cap (Value.int .i64 0)).toArray := by
      have e1 : cur.toList.take cap = cur.toList := List.take_of_length_le (by simp [hs])
      rw [e1] at ht
      apply Array.toList_inj.1
      have hz : (Value.int .i64 0).cells = #[Value.int .i64 0] := rfl
      rw [ht, hz, toList_madeCells_one]
    show _ = _
    rw [hh, e]

theorem own_of_block {w : World} {B g m : Nat} {zs : List Int} (hB : B ≤ g) (hm : m ≤ 1000000) (hl : zs.length = m) (h : w.heap[g]? = some (.cells (zs.map (Value.int .i64)).toArray 3 (0, 0))) : OwnInts w B (.slice (some ⟨g, 0, none⟩) m m) zs := by
  subst hl
  have e : (zs.map (Value.int .i64)).length = zs.length := List.length_map _
  unfold OwnInts Own
  rw [e]
  refine ⟨by rw [e, Nat.mul_one], .inr ⟨g, zs.length, _, rfl, hB, h, Nat.le_refl _, by unfold maxLen; omega, by simp, ?_⟩⟩
  rw [Nat.mul_one]
  exact List.take_of_length_le (by simp)

set_option maxHeartbeats 2000000 in
theorem repeat_any (c : Int) (m : Nat) (b o cap : Nat) (w : World) (h : w.cell? ⟨b, o, none⟩ = some (.int .i64 c)) (hm : m ≤ 100000) :
    Calls Tryd.prog 72 #[.slice (some ⟨b, o, none⟩) 1 cap, .int .i64 m] w fun e w' => ∃ g, e = .returned (.slice (some ⟨g, 0, none⟩) m m) ∧ OwnInts w' w.heap.size (.slice (some ⟨g, 0, none⟩) m m) (List.replicate m c) ∧ Lat w w' := by
  have hbl : b < w.heap.size := World.block_lt_of_cell? _ _ h
  have e1 : (1 * m / 18446744073709551616 : Nat) = 0 := by rw [Nat.one_mul]; exact Nat.div_eq_of_lt (by omega)
  have e2 : (1 * m % 18446744073709551616 : Nat) = m := by rw [Nat.one_mul]; exact Nat.mod_eq_of_lt (by omega)
  have hmul : ∀ W, Calls Tryd.prog 91 #[.int .u64 1, .int .u64 m] W fun e w' => e = .returned (.tuple #[.int .u64 0, .int .u64 m]) ∧ W = w' := fun W =>
    (Tryd.bits_Mul 1 m (by omega) (by omega) W).mono fun e w' hh => ⟨by rw [hh.1, e1, e2]; rfl, hh.2.symm⟩
  have HM := Lib.hid hmul
  have H := Lib.hid h
  clear e1 e2 hmul h
  have d0 : decide ((m : Int) < 0) = false := decide_eq_false (by omega)
  have d9 : decide (9223372036854775807 < (m : Int)) = false := decide_eq_false (by omega)
  go_enter Tryd.func72, Tryd.ntmps72
  go_wp2_with fail
  refine (HM.out _).mono ?_
  rintro e w' ⟨rfl, rfl⟩
  go_wp2_with (at_make; refine wpList_make_int _ rfl _ _ rfl m rfl rfl (by omega) ?_)
  intro g w1 hg hblk hb
  have hsrc : w1.cell? ⟨b, o, none⟩ = some (.int .i64 c) := hb.cell_at H.out
  have hgb : w.heap.size ≤ g := by omega
  have hrb : w1.heap[g]? = some (.cells (rb m 0 c).toArray 3 (0, 0)) := by have := hblk.out; unfold rb; simpa using this
  have HRB := Lib.hid hrb
  have HSRC := Lib.hid hsrc
  have HB := Lib.hid hb
  clear hg hb hsrc hrb hblk
  obtain ⟨k0, hk0⟩ : ∃ k, k = min 1 m := ⟨_, rfl⟩
  obtain ⟨CS, hCS⟩ : ∃ l : List Value, l = List.replicate k0 (.int .i64 c) := ⟨_, rfl⟩
  have hCl : CS.length = k0 := by rw [hCS, List.length_replicate]
  have hc1 : CS.length = Nat.min 1 m := by rw [hCl, hk0]
  have hc2 : 0 < CS.length → (some ⟨g, 0, none⟩ : Option Addr) = some ⟨g, 0, none⟩ ∧ ∃ ad, (some ⟨b, o, none⟩ : Option Addr) = some ad ∧ ∀ j v, CS[j]? = some v → w1.cell? (ad.add j) = some v := fun _ => ⟨rfl, _, rfl, fun j v hj => by
    have hj1 : j < k0 := by have := (List.getElem?_eq_some_iff.1 hj).1; omega
    have hj0 : j = 0 := by omega
    subst hj0
    rw [hCS, List.getElem?_replicate, if_pos hj1] at hj
    injection hj with hj
    subst hj
    rw [Addr.add_lit]; exact HSRC.out⟩
  have hc3 : 0 + CS.length ≤ (rb m 0 c).length := by rw [rb_length _ _ _ (Nat.zero_le _), hCl, hk0]; omega
  have hc4 : ∀ v ∈ CS, v.oneCell' = true := fun v hv => by rw [hCS] at hv; rw [List.eq_of_mem_replicate hv]; rfl
  have hsp : splice (rb m 0 c) 0 CS = rb m k0 c := by rw [hCS, rb_splice m 0 k0 c (by omega), Nat.zero_add]
  have hk0m : k0 ≤ m ∧ (k0 = m ∨ 1 ≤ k0) := by omega
  have C1 := Lib.hid hc1
  have C2 := Lib.hid hc2
  have C3 := Lib.hid hc3
  have C4 := Lib.hid hc4
  have SP := Lib.hid hsp
  have CL := Lib.hid hCl
  clear hk0 hCS hCl hc1 hc2 hc3 hc4 hsp
  go_wp2_with (refine wpList_copy_splice rfl (.tmp 31) (.tmp 32) 22 22 rfl 3 Tryd.underlying22 (by kernel_rfl) (some ⟨g, 0, none⟩) (some ⟨b, o, none⟩) m m 1 cap rfl rfl g 0 (rb m 0 c) 3 HRB.out CS C1.out C2.out C3.out C4.out w.heap.size w HB.out hgb ?_)
  intro w2 hw2 hb2
  have hr2 := hw2.out
  rw [SP.out] at hr2
  rw [CL.out]
  have HR2 := Lib.hid hr2
  have HB2 := Lib.hid hb2
  clear hw2 hb2 hr2 C1 C2 C3 C4 SP CL HRB HSRC HB
  obtain ⟨hk1, hk2⟩ := hk0m
  go_wp2_with fail
  go_loopw [8] (fun n wr => ∃ k : Nat, k ≤ m ∧ (k = m ∨ 1 ≤ k) ∧ n = .int .i64 k ∧ Hid (wr.heap[g]? = some (.cells (rb m k c).toArray 3 (0, 0)) ∧ Lat w wr)) (fun n _ => m - (intOf n).toNat)
  case atStart => exact ⟨k0, hk1, hk2, rfl, HR2.out, HB2.out⟩
  case round =>
    obtain ⟨k, hk, hk3, rfl, hrel⟩ := hrel
    by_cases hlt : k < m
    · have hk4 : 1 ≤ k := by omega
      obtain ⟨q, hq⟩ : ∃ q, q = min k (m - k) := ⟨_, rfl⟩
      obtain ⟨CS, hCS⟩ : ∃ l : List Value, l = List.replicate q (.int .i64 c) := ⟨_, rfl⟩
      have hCl : CS.length = q := by rw [hCS, List.length_replicate]
      have hc1 : CS.length = Nat.min k (m - k) := by rw [hCl, hq]
      have hhp : wr.drew.heap[g]? = some (.cells (rb m k c).toArray 3 (0, 0)) := hrel.out.1
      have hc2 : ∀ j v, CS[j]? = some v → wr.drew.cell? ((⟨g, 0, none⟩ : Addr).add j) = some v := fun j v hj => by
        have hj1 : j < q := by have := (List.getElem?_eq_some_iff.1 hj).1; omega
        rw [hCS, List.getElem?_replicate, if_pos hj1] at hj
        injection hj with hj
        subst hj
        rw [Addr.add_lit, Nat.zero_add]
        have hrg := rb_get m k c j (by omega)
        simp only [World.cell?, hhp]
        simpa using hrg
      have hc3 : k + CS.length ≤ (rb m k c).length := by rw [rb_length _ _ _ hk, hCl, hq]; omega
      have hc4 : ∀ v ∈ CS, v.oneCell' = true := fun v hv => by rw [hCS] at hv; rw [List.eq_of_mem_replicate hv]; rfl
      have hsp : splice (rb m k c) k CS = rb m (k + q) c := by rw [hCS, rb_splice m k q c (by omega)]
      have hq1 : 1 ≤ q := by omega
      have hq2 : k + q ≤ m := by omega
      have hlat : Below w.heap.size w wr.drew := Lat.trans hrel.out.2 (Lat.drew _)
      have C1 := Lib.hid hc1
      have C2 := Lib.hid hc2
      have C3 := Lib.hid hc3
      have C4 := Lib.hid hc4
      have SP := Lib.hid hsp
      have CL := Lib.hid hCl
      have HHP := Lib.hid hhp
      have HLAT := Lib.hid hlat
      have i1 : (0 : Int) ≤ (k : Int) := by omega
      have i2 : (k : Int) ≤ (m : Int) := by omega
      have i3 : (k : Int) < (m : Int) := by omega
      have i4 : k ≠ m := by omega
      have i5 : m ≠ k := by omega
      have i6 : IntKind.i64.wrap ((k : Int) + (q : Int)) = (k : Int) + (q : Int) := IntWalk.i64_in _ (by omega)
      clear hq hCS hCl hc1 hc2 hc3 hc4 hsp hhp hlat hrel
      go_wp2_with fail
      go_region_law (refine step_copy_splice rfl (.tmp 41) (.tmp 44) 22 22 rfl 3 Tryd.underlying22 (by kernel_rfl) (some ⟨g, k, none⟩) (some ⟨g, 0, none⟩) (m - k) (m - k) k m (by simp [Act.eval, Act.put]) (by simp [Act.eval, Act.put]) g k (rb m k c) 3 HHP.out CS C1.out (fun _ => ⟨rfl, _, rfl, C2.out⟩) C3.out C4.out w.heap.size w HLAT.out hgb ?_; intro w3 hw3 hb3; rw [CL.out])
      have hr3 := hw3.out
      rw [SP.out] at hr3
      have HR3 := Lib.hid hr3
      have HB3 := Lib.hid hb3
      clear hw3 hb3 hr3
      simp only [Act.put, List.getElem_toArray, List.getElem_cons_succ, List.getElem_cons_zero]
      go_simp
      go_wp2
      go_roundw
      case rel => exact ⟨k + q, hq2, .inr (by omega), by go_num, HR3.out, HB3.out⟩
      case measure => simp [intOf]; omega
    · obtain rfl : k = m := by omega
      have hown := own_of_block (B := w.heap.size) (m := k) (zs := List.replicate k c) hgb (by omega) List.length_replicate (by rw [List.map_replicate, ← rb_full]; exact hrel.out.1)
      have HOWN := Lib.hid hown
      clear hown
      go_wp2
      go_ret
      exact ⟨g, rfl, HOWN.out, hrel.out.2⟩
end Go.Proofs.YtnnjijdpenifjaaDoor
