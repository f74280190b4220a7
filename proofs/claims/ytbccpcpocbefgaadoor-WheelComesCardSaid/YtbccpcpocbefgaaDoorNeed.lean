/- The contracts of solve.Rank and need.add, First, New, Lacks. -/
import Derived.Test.YtbccpcpocbefgaaDoorTabAdd
import Derived.Test.YtbccpcpocbefgaaDoorReady
import Derived.Test.YtbccpcpocbefgaaDoorDrop
import Derived.Test.YtbccpcpocbefgaaDoorNeedPl
import Derived.Test.YtbccpcpocbefgaaDoorAppOne
namespace Go.Proofs.YtbccpcpocbefgaaDoor
open Go.ChangeShapes Go.WideShapes Go.ChangeAt Go.RowKit

/-- the row of a seed -/
def rowOf (k : Nat) (z : Int) : Vec := (bitsN (setZ k z.toNat), [])
def rowsOf (k : Nat) (zs : List Int) : List Vec := zs.map (rowOf k)
theorem rowOf_lt (k : Nat) (z : Int) (hk : 1 ≤ k) (hz : 1 ≤ z) : (rowOf k z).1 < 2 ^ k := bitsTo_lt _ k (setZ_lt k _ hk (by omega)) _ (Nat.le_refl _)
theorem rowsOf_bare {k : Nat} {zs : List Int} (hk : 1 ≤ k) (hz : ∀ z ∈ zs, 1 ≤ z ∧ z ≤ 10000) : Bare k (rowsOf k zs) := fun v hv => by
  obtain ⟨z, hm, rfl⟩ := List.mem_map.1 hv
  exact ⟨rfl, rowOf_lt k z hk (hz z hm).1⟩
theorem rowsOf_getD (k : Nat) (zs : List Int) (j : Nat) (h : j < zs.length) : (rowsOf k zs).getD j (0, []) = rowOf k (zs.getD j 0) := by
  unfold rowsOf
  rw [List.getD_eq_getElem?_getD, List.getElem?_map, List.getD_eq_getElem?_getD, List.getElem?_eq_getElem h]; rfl
theorem rowsOf_len (k : Nat) (zs : List Int) : (rowsOf k zs).length = zs.length := List.length_map _

theorem Fr.grown {b : Nat} {w w' : World} (h : Fr (fun j => j = b) w w') : w.grownBy w' (some b) := ⟨h.os, h.tape, h.output, h.size, fun k hk hne => h.block k hk (fun e => hne (by rw [e]))⟩
theorem Own.frB {w w' : World} {B b : Nat} {e : TypeId} {v : Value} {xs : List Value} (h : Own w B e v xs) (hf : Fr (fun j => j = b) w w') (hb : b < B) : Own w' B e v xs :=
  Own.grown h hf.grown fun g hg e => by
    injection e with e
    have := (Own.lt h g hg).1
    omega
/-- an append of one int, by what it turns -/
theorem app_intF (wr : World) (B : Nat) {ops : Array Oper} {rest : List Oper} {o : Oper} {a : Act} {Q : Exit → Act → World → Prop}
    (hg : o.guard = none) (s x : Operand) (ho : o.op = .call { callee := .builtin .append, args := #[s, x], argTypes := #[22, 22] })
    (v : Value) (zs : List Int) (z : Int) (hs : a.eval s = v) (hown : OwnInts wr B v zs) (hx : a.eval x = .slice (some ⟨wr.heap.size, 0, none⟩) 1 1)
    (hn : zs.length < 1000000) (hB : B ≤ wr.heap.size)
    (K : ∀ v' w', OwnInts w' B v' (zs ++ [z]) → Fr (fun j => v.ownBlock = some j) wr w' → wpList Tryd.prog ops Q rest (a.put o.dst v') w') :
    wpList Tryd.prog ops Q (o :: rest) a (wr.alloc (.cells #[.int .i64 z] 3)) := by
  have hal : OwnInts (wr.alloc (.cells #[.int .i64 z] 3)) B v zs := Own.alloc hown _
  have hrow1 : RowAt (wr.alloc (.cells #[.int .i64 z] 3)) (some ⟨wr.heap.size, 0, none⟩) 1 1 (fun j => [Value.int .i64 z].getD j undef) := by
    refine ⟨Nat.le_refl _, by unfold maxLen; omega, fun _ => ⟨wr.heap.size, 0, rfl, fun j hj => ?_⟩⟩
    obtain rfl : j = 0 := by omega
    simp
  obtain ⟨v', w', hrun, h2, h3, _⟩ := run_app_many (P := Tryd.prog) (wr.alloc (.cells #[.int .i64 z] 3)) B 22 o.type 3 (.int .i64 0) 8 Tryd.underlying22 info_int rfl (by decide) v _ hal (some ⟨wr.heap.size, 0, none⟩) 1 1 [.int .i64 z] rfl
    hrow1 (fun u hu => by rw [List.mem_singleton.1 hu]; rfl) (by rw [List.length_map]; omega) (by simp; omega)
  refine wpList_plain hg fun K' hK => ?_
  unfold Oper.wp execOp
  simp only [ho, resolve, invoke, builtin, Sem.run_bind, Sem.run_pure, Result.andThen_ok, List.map_toArray, List.map_cons, List.map_nil, hs, hx, hrun]
  refine hK _ _ (K v' w' (by simpa [OwnInts] using h2) ⟨h3.os, h3.tape, h3.output, ?_, fun k hk hne => ?_⟩)
  · have := h3.size; simp at this; omega
  · rw [h3.block k (by simp; omega) (fun e => hne e.symm)]; exact heap_alloc_old wr _ hk

set_option maxRecDepth 100000 in
theorem nadd_any (p b k : Nat) (T : Nat → Option Vec) (a : Option Addr) (n cap : Nat) (zs : List Int) (w : World) (h : TabAt w p b k T) (hz : IntsAt w a n cap zs) (hk : k ≤ 16) (hT : TI 0 k T) (hv : bitsN zs < 2 ^ k) (hz2 : ∀ z ∈ zs, 0 ≤ z ∧ z < 16) :
    Calls Tryd.prog 27 #[.pointer (some ⟨p, 0, none⟩), .slice a n cap] w fun e w' => e = .returned (.bool (rsT k T (bitsN zs, []))) ∧ TabAt w' p b k (addT k T (bitsN zs, [])) ∧ Fr (fun j => j = b) w w' := by
  have h1 := bits_any a n cap zs w hz hz2
  have h2 := tadd_any p b k 0 T (bitsN zs, []) w h hk hT hv rfl (by omega)
  obtain ⟨B, hB⟩ : ∃ B, B = bitsN zs := ⟨_, rfl⟩
  rw [← hB] at h1 h2 ⊢
  have h3 : Calls Tryd.prog 35 #[.pointer (some ⟨p, 0, none⟩), .agg #[.int .u64 B, .string { data := #[] }]] w fun e w' => e = .returned (.tuple #[.bool (rsT k T (B, [])), .bool (mayT k T (B, []))]) ∧ TabAt w' p b k (addT k T (B, [])) ∧ Fr (fun j => j = b) w w' := h2
  obtain ⟨r1, hr1⟩ : ∃ r, r = rsT k T (B, []) := ⟨_, rfl⟩
  obtain ⟨r2, hr2⟩ : ∃ r, r = mayT k T (B, []) := ⟨_, rfl⟩
  rw [← hr1, ← hr2] at h3
  rw [← hr1]
  have H1 := Lib.hid h1; have H3 := Lib.hid h3
  clear h hz hT hv hz2 h1 h2 h3 hB hr1 hr2
  go_enter Tryd.func27, Tryd.ntmps27
  go_wp2_with (first
    | (go_at_call 36; refine H1.out.mono ?_; rintro e w' ⟨rfl, rfl⟩)
    | (go_at_call 35; refine H3.out.mono ?_; rintro e w' ⟨rfl, ht, hf⟩))
  go_ret
  exact ⟨rfl, ht, hf⟩

/-- one seed more in the table -/
theorem tab_next {k : Nat} {zs : List Int} (j : Nat) (hj : j < zs.length) : addT k (tabT k ((rowsOf k zs).take j)) (rowOf k (zs.getD j 0)) = tabT k ((rowsOf k zs).take (j + 1)) := by
  rw [take_snocV _ j (by rw [rowsOf_len]; exact hj), tabT_snoc, rowsOf_getD k zs j hj]

def rankR (k : Int) (zs : List Int) : Nat := if rdyE k zs = 0 then rk k.toNat (rowsOf k.toNat zs) else 0
set_option maxHeartbeats 2000000 in
set_option maxRecDepth 100000 in
theorem srank_any (k : Int) (a : Option Addr) (n cap : Nat) (zs : List Int) (w : World) (h : IntsAt w a n cap zs) :
    Calls Tryd.prog 16 #[.int .i64 k, .slice a n cap] w fun e w' => e = .returned (.tuple #[.int .i64 (rankR k zs), errv (rdyE k zs)]) ∧ Lat w w' := by
  have hr := ready_any k a n cap zs w h
  by_cases h0 : rdyE k zs = 0
  · obtain ⟨h1, h2, h3, h4⟩ := rdyE_zero h0
    obtain ⟨f, rfl⟩ : ∃ f : Nat, k = f := ⟨k.toNat, by omega⟩
    have hR : rankR f zs = rk f (rowsOf f zs) := by unfold rankR; rw [if_pos h0, Int.toNat_natCast]
    rw [h0, errv_zero rfl] at hr ⊢
    rw [hR]
    have hl := h.len
    have hn60 : n ≤ 60 := by omega
    have hba := rowsOf_bare (k := f) (zs := zs) (by omega) h4
    have hti := fun j => (tab_st (k := f) (by omega) (hba.take j)).ti
    have hfin : rk f (rowsOf f zs) = rnkT (tabT f ((rowsOf f zs).take n)) f := by
      rw [List.take_of_length_le (by rw [rowsOf_len]; omega)]; rfl
    rw [hfin]
    have H := Lib.hid h; have HR := Lib.hid hr; have HZ := Lib.hid h4; have HTI := Lib.hid hti; have HL := Lib.hid hl; have HBA := Lib.hid hba
    have hf1 : 1 ≤ f := by omega
    have hf16 : f ≤ 16 := by omega
    clear h hr h0 h1 h2 h3 h4 hR hl hti hfin hba
    go_enter Tryd.func16, Tryd.ntmps16
    go_wp2_with (first
      | (go_at_call 25; refine HR.out.mono ?_; rintro e w' ⟨rfl, rfl⟩)
      | (go_at_call 26; refine (newTable_any f _).mono ?_; rintro e w1 ⟨⟨p, b, rfl, hp, hb, ht⟩, hb1⟩))
    have HP := Lib.hid hp; have HB := Lib.hid hb
    have hTab0 : TabAt w1 p b f (tabT f ((rowsOf f zs).take 0)) := ht
    have HT0 := Lib.hid hTab0; have HB1 := Lib.hid hb1
    clear hp hb ht hTab0 hb1
    go_loopw [9, 19] (fun _ i wr => ∃ j : Nat, j ≤ n ∧ i = .int .i64 j ∧ Hid (TabAt wr p b f (tabT f ((rowsOf f zs).take j)) ∧ Lat w wr)) (fun _ i _ => n - (intOf i).toNat)
    case atStart => exact ⟨0, Nat.zero_le _, rfl, HT0.out, HB1.out⟩
    case round =>
      obtain ⟨j, hj, rfl, hrel⟩ := hrel
      by_cases hlt : j < n
      · obtain ⟨htab, hlat⟩ := hrel.out
        obtain ⟨ab, ao, rfl, hc⟩ := (H.out.keep hlat).row.at_ (by omega)
        have c1 := hc j hlt
        have hm := HZ.out _ (getD_mem zs j (by rw [HL.out]; exact hlt))
        have hnx := tab_next (k := f) (zs := zs) j (by rw [HL.out]; exact hlt)
        obtain ⟨s, hs⟩ : ∃ s : Nat, zs.getD j 0 = (s : Int) := ⟨(zs.getD j 0).toNat, by omega⟩
        rw [hs] at c1 hm hnx
        have hrow : rowOf f (s : Int) = (bitsN (setZ f s), []) := by unfold rowOf; rw [Int.toNat_natCast]
        rw [hrow] at hnx
        have hs1 : 1 ≤ s := by omega
        have hs2 : s ≤ 10000 := by omega
        have hbl : bitsN (setZ f s) < 2 ^ f := by have := rowOf_lt f (s : Int) hf1 (by omega); rw [hrow] at this; exact this
        have hsz : ∀ z ∈ setZ f s, 0 ≤ z ∧ z < 16 := fun z hz => by have := setZ_lt f s hf1 hs1 z hz; omega
        have HTB := Lib.hid htab; have HLT := Lib.hid hlat; have HNX := Lib.hid hnx; have HBL := Lib.hid hbl; have HSZ := Lib.hid hsz
        clear hrel htab hlat hc hm hs hrow hnx hbl hsz
        go_wp2_with (first
          | (go_at_call 28; refine (dropOf_any f s _ hf1 hf16 hs1 hs2).mono ?_; rintro e w2 ⟨oa, oc, rfl, hoi, hb2⟩)
          | (go_at_call 36; refine (bits_any _ _ _ _ _ hoi HSZ.out).mono ?_; rintro e w' ⟨rfl, rfl⟩)
          | (go_at_call 35; refine (tadd_any p b f 0 _ (bitsN (setZ f s), []) _ (HTB.out.keep hb2) hf16 (HTI.out j) HBL.out rfl (by omega)).mono ?_; rintro e w3 ⟨rfl, ht3, hf3⟩))
        have hl3 : Lat w w3 := hf3.lat_of (Lat.trans HLT.out hb2) (fun i e => by rw [e]; exact HB.out)
        rw [HNX.out] at ht3
        have HT3 := Lib.hid ht3; have HL3 := Lib.hid hl3
        clear ht3 hf3 hl3 hoi hb2
        go_roundw
        case rel => exact ⟨j + 1, by omega, by go_num, HT3.out, HL3.out⟩
        case measure => simp [intOf]; omega
      · obtain rfl : j = n := by omega
        obtain ⟨htab, hlat⟩ := hrel.out
        have HTB := Lib.hid htab; have HLT := Lib.hid hlat
        clear hrel htab hlat
        go_wp2_with (go_at_call 29; refine (rank_tab p b f _ _ HTB.out).mono ?_; rintro e w' ⟨rfl, rfl⟩)
        go_ret2
        exact ⟨rfl, HLT.out⟩
  · have hR : rankR k zs = 0 := by unfold rankR; rw [if_neg h0]
    rw [hR]
    rw [errv_pos h0] at hr ⊢
    have HR := Lib.hid hr
    clear h hr h0 hR
    go_enter Tryd.func16, Tryd.ntmps16
    go_wp2_with (go_at_call 25; refine HR.out.mono ?_; rintro e w' ⟨rfl, rfl⟩)
    go_ret2
    exact ⟨rfl, Lat.refl _⟩
end Go.Proofs.YtbccpcpocbefgaaDoor
