/- The contract of (*solve.Table).Left: what is left of a row. -/
import Derived.Test.YtcpookgbneoilaaDoorBitsW
import Derived.Test.YtcpookgbneoilaaDoorGateC
import Derived.Deep.LoopGhost
import Derived.Deep.Light
import Derived.Deep.Cut
namespace Go.Proofs.YtcpookgbneoilaaDoor
open Go.ChangeShapes Go.WideShapes Go.ChangeAt Go.RowKit

/-- behind the bit at which the loop ends nothing turns -/
theorem leftTo_end {T : Nat → Option Vec} {v : Vec} {i : Nat} (h : (leftTo T v i).1 < 2 ^ i) : ∀ j, i ≤ j → leftTo T v j = leftTo T v i
  | 0, hj => by obtain rfl : i = 0 := by omega
                rfl
  | j + 1, hj => by
    by_cases e : i = j + 1
    · subst e; rfl
    · have ih := leftTo_end h j (by omega)
      have hb : (leftTo T v j).1.testBit j = false := by
        rw [ih]
        exact Nat.testBit_lt_two_pow (Nat.lt_of_lt_of_le h (Nat.pow_le_pow_right (by omega) (by omega)))
      rw [leftTo_no hb, ih]

/-- a row in a block -/
structure RowB (w : World) (g : Nat) (x : Vec) : Prop where
  c0 : w.cell? ⟨g, 0, none⟩ = some (.int .u64 x.1)
  c1 : w.cell? ⟨g, 1, none⟩ = some (.string (S x.2))
  f0 : w.frozen? ⟨g, 0, none⟩ = false
  f1 : w.frozen? ⟨g, 1, none⟩ = false
theorem RowB.lt {w : World} {g : Nat} {x : Vec} (h : RowB w g x) : g < w.heap.size := World.block_lt_of_cell? _ _ h.c0
theorem RowB.keep {w w' : World} {g : Nat} {x : Vec} (h : RowB w g x) (hb : Lat w w') : RowB w' g x :=
  ⟨hb.cell_at h.c0, hb.cell_at h.c1, hb.free_at h.lt h.f0, hb.free_at h.lt h.f1⟩

theorem and_bit (n i : Nat) : n &&& bitP i = if n.testBit i = true then bitP i else 0 := by
  unfold bitP
  apply Nat.eq_of_testBit_eq
  intro j
  rw [Nat.testBit_and, Nat.testBit_two_pow]
  by_cases h : n.testBit i = true
  · rw [if_pos h, Nat.testBit_two_pow]
    by_cases e : i = j
    · subst e; simp [h]
    · simp [e]
  · rw [if_neg h, Nat.zero_testBit]
    by_cases e : i = j
    · subst e; simp at h; simp [h]
    · simp [e]
theorem two_setR {w : World} {g : Nat} {a b : Value} (c0 : w.cell? ⟨g, 0, none⟩ = some a) (c1 : w.cell? ⟨g, 1, none⟩ = some b) (x y : Value) :
    ((w.setCell ⟨g, 0, none⟩ x).setCell ⟨g, 1, none⟩ y).cell? ⟨g, 0, none⟩ = some x ∧ ((w.setCell ⟨g, 0, none⟩ x).setCell ⟨g, 1, none⟩ y).cell? ⟨g, 1, none⟩ = some y := by
  refine ⟨?_, ?_⟩
  · rw [World.cell?_setCell_other _ _ _ _ (by intro e; injection e with _ e2 _; cases e2)]
    exact World.cell?_setCell_same _ _ _ c0
  · exact World.cell?_setCell_same _ _ _ (by rw [World.cell?_setCell_other _ _ _ _ (by intro e; injection e with _ e2 _; cases e2)]; exact c1)
theorem row_put {w : World} {g : Nat} {x : Vec} (h : RowB w g x) (a : Nat) (l : List UInt8) : RowB ((w.setCell ⟨g, 0, none⟩ (.int .u64 a)).setCell ⟨g, 1, none⟩ (.string (S l))) g (a, l) := by
  obtain ⟨q0, q1⟩ := two_setR h.c0 h.c1 (.int .u64 a) (.string (S l))
  exact ⟨q0, q1, by rw [World.frozen?_setCell, World.frozen?_setCell]; exact h.f0, by rw [World.frozen?_setCell, World.frozen?_setCell]; exact h.f1⟩
theorem RowB.other {w : World} {g h : Nat} {x : Vec} (hb : RowB w g x) (hne : g ≠ h) (o : Nat) (v : Value) : RowB (w.setCell ⟨h, o, none⟩ v) g x :=
  ⟨by rw [World.cell?_setCell_other _ _ _ _ (by intro e; injection e with e1 _ _; exact hne e1.symm)]; exact hb.c0, by rw [World.cell?_setCell_other _ _ _ _ (by intro e; injection e with e1 _ _; exact hne e1.symm)]; exact hb.c1,
   by rw [World.frozen?_setCell]; exact hb.f0, by rw [World.frozen?_setCell]; exact hb.f1⟩
theorem row_new (w : World) (a : Nat) (l : List UInt8) : RowB (w.alloc (.cells #[.int .u64 a, .string (S l)] 93)) w.heap.size (a, l) := by
  have hh := heap_alloc_new w (.cells #[.int .u64 a, .string (S l)] 93)
  refine ⟨by rw [World.cell?_alloc_at _ _ _ _ rfl]; rfl, by rw [World.cell?_alloc_at _ _ _ _ rfl]; rfl, ?_, ?_⟩ <;>
  · unfold World.frozen?
    rw [hh]; rfl

set_option maxHeartbeats 2000000 in
set_option maxRecDepth 100000 in
theorem left_any (p b k m : Nat) (T : Nat → Option Vec) (v : Vec) (w : World) (h : TabAt w p b k T) (hk : k ≤ 16) (hT : TI m k T) (hv : v.1 < 2 ^ k) (hm : v.2.length = m) (hm8 : m ≤ 8) :
    Calls Tryd.prog 62 #[.pointer (some ⟨p, 0, none⟩), rowV v] w fun e w' => e = .returned (rowV (leftTo T v k)) ∧ Lat w w' := by
  have hlt := leftTo_lt hT hv
  have hln := leftTo_len hT hm
  have hk64 : (2 : Nat) ^ k ≤ 65536 := Nat.pow_le_pow_right (by omega) hk
  have H := Lib.hid h; have HLT := Lib.hid hlt; have HLN := Lib.hid hln; have HT := Lib.hid hT
  clear h hlt hln hT
  obtain ⟨v1, v2⟩ := v
  show Calls _ _ #[_, .agg #[.int .u64 v1, .string (S v2)]] _ _
  go_enter Tryd.func62, Tryd.ntmps62
  go_wp2
  have hb0 : Lat w ((w.alloc (.cells #[.int .u64 v1, .string (S v2)] 93)).alloc (.cells #[.int .u64 0, .string { data := #[] }] 93)) := Lat.trans (Lat.alloc _ _) (Lat.alloc _ _)
  have hr0 : RowB ((w.alloc (.cells #[.int .u64 v1, .string (S v2)] 93)).alloc (.cells #[.int .u64 0, .string { data := #[] }] 93)) w.heap.size (v1, v2) := (row_new w v1 v2).keep (Lat.alloc _ _)
  have hz0 : RowB ((w.alloc (.cells #[.int .u64 v1, .string (S v2)] 93)).alloc (.cells #[.int .u64 0, .string { data := #[] }] 93)) (w.heap.size + 1) (0, []) := by
    have h2 := row_new (w.alloc (.cells #[.int .u64 v1, .string (S v2)] 93)) 0 []
    rw [World.size_alloc] at h2
    exact h2
  have HB0 := Lib.hid hb0; have HR0 := Lib.hid hr0; have HZ0 := Lib.hid hz0
  clear hb0 hr0 hz0
  go_loopg [5, 6, 7] 20 (fun f bb _ _ wr => ∃ i : Nat, i ≤ k ∧ bb = .int .u64 (bitP i) ∧ Hid (f + i = 20 ∧ RowB wr w.heap.size (leftTo T (v1, v2) i) ∧ RowB wr (w.heap.size + 1) (0, []) ∧ Lat w wr))
  case atStart => exact ⟨0, Nat.zero_le _, rfl, rfl, HR0.out, HZ0.out, HB0.out⟩
  case round =>
    obtain ⟨i, hi, rfl, hrel⟩ := hrel
    obtain ⟨hgk, hrb, hzb, hlat⟩ := hrel.out
    have hul := HLT.out i
    have hum := HLN.out i
    obtain ⟨u1, u2, hu⟩ : ∃ a b, leftTo T (v1, v2) i = (a, b) := ⟨_, _, rfl⟩
    rw [hu] at hrb hul hum
    have c0 := hrb.c0
    have c1 := hrb.c1
    have hbi : bitP i ≤ 65536 := Nat.le_trans (Nat.pow_le_pow_right (by omega) hi) hk64
    have hu16 : u1 < 65536 := Nat.lt_of_lt_of_le hul hk64
    have HGK := Lib.hid hgk; have HRBX := Lib.hid hrb; have HZB := Lib.hid hzb; have HLAT := Lib.hid hlat; have HU := Lib.hid hu; have HUL := Lib.hid hum
    clear hrel hgk hrb hzb hlat hu hum
    by_cases hle : bitP i ≤ u1
    · have hik : i < k := by
        rcases Nat.lt_or_ge i k with h | h
        · exact h
        · obtain rfl : i = k := by omega
          have : u1 < bitP i := hul
          omega
      have d1 : decide (bitP i ≤ u1) = true := decide_eq_true hle
      have hsh : (bitP i : Int) * 2 = (bitP (i + 1) : Int) := by rw [bitP_succ]; omega
      have HSH := Lib.hid hsh
      have hand : bits .and .u64 (u1 : Int) (bitP i : Int) = ((u1 &&& bitP i : Nat) : Int) := bits_and_u64_nat _ _ (by omega) (by omega)
      have hand2 : u1 &&& bitP i = if u1.testBit i = true then bitP i else 0 := and_bit u1 i
      have hbp := bitP_pos i
      clear hsh
      by_cases htb : u1.testBit i = true
      · have hne : (bits .and .u64 (u1 : Int) (bitP i : Int) == 0) = false := by rw [hand, hand2, if_pos htb]; exact beq_eq_false_iff_ne.2 (by omega)
        have hlook := (H.out.keep HLAT.out).look_ok i (by omega)
        have ct := (H.out.keep HLAT.out).cell
        cases hTi : T i with
        | none =>
          have HST : Hid (leftTo T (v1, v2) (i + 1) = (u1, u2)) := by show _ = _; rw [leftTo_none hTi, HU.out]
          rw [hTi] at hlook
          have hlook2 : (Instr.lookup 108 (.map (some b)) (.int .u64 (bitP i : Int)) true).run Tryd.prog wr = .ok (.tuple #[.agg #[.int .u64 0, .string { data := #[] }], .bool false]) wr := hlook
          clear hlook hand hand2 htb hTi hbp hle hul
          go_wp2
          go_roundg (gk - 1)
          case measure => go_light; have := HGK.out; omega
          case rel => go_light; exact ⟨i + 1, by omega, by rw [HSH.out], by have := HGK.out; omega, by rw [HST.out]; exact HRBX.out.keep (Lat.alloc _ _), HZB.out.keep (Lat.alloc _ _), Lat.trans HLAT.out (Lat.alloc _ _)⟩
        | some x =>
          obtain ⟨x1, x2⟩ := x
          have HST : Hid (leftTo T (v1, v2) (i + 1) = (u1 ^^^ x1, xorL u2 x2)) := by show _ = _; rw [leftTo_take (by rw [HU.out]; exact htb) hTi, HU.out]; rfl
          rw [hTi] at hlook
          have hlook2 : (Instr.lookup 108 (.map (some b)) (.int .u64 (bitP i : Int)) true).run Tryd.prog wr = .ok (.tuple #[.agg #[.int .u64 x1, .string (S x2)], .bool true]) wr := hlook
          have hxl : x2.length = m := HT.out.len i (x1, x2) hTi
          have hxb : x1 < 2 ^ k := HT.out.bits i (x1, x2) hTi
          have HAB : Hid (u2.length = (S x2).size) := by show u2.length = x2.length; rw [HUL.out, hxl]
          have HXOR : Hid (bits .xor .u64 (u1 : Int) (x1 : Int) = ((u1 ^^^ x1 : Nat) : Int)) := bits_xor_u64_nat _ _ (by omega) (by omega)
          clear hlook hand hand2 htb hTi hbp hle hul hxl hxb
          go_upto_region 7 with fail
          obtain ⟨X, hX⟩ : ∃ X, X = wr.heap.size := ⟨_, rfl⟩
          obtain ⟨W0, hW0⟩ : ∃ W, W = wr.alloc (.cells #[.int .u64 x1, .string (S x2)] 93) := ⟨_, rfl⟩
          have hlw0 : Lat wr W0 := by rw [hW0]; exact Lat.alloc _ _
          have hXR : RowB W0 X (x1, x2) := by rw [hW0, hX]; exact row_new wr x1 x2
          have hne1 : X ≠ w.heap.size := by have := HLAT.out.size; have := HRBX.out.lt; omega
          have hR0 := HRBX.out.keep hlw0
          have HFX : Hid (W0.drew.cell? ⟨X, 0, none⟩ = some (.int .u64 x1) ∧ W0.drew.cell? ⟨X, 1, none⟩ = some (.string (S x2)) ∧ W0.drew.frozen? ⟨w.heap.size, 0, none⟩ = false ∧ W0.drew.frozen? ⟨w.heap.size, 1, none⟩ = false) := ⟨hXR.c0, hXR.c1, hR0.f0, hR0.f1⟩
          have HGX : Hid (W0.drew.cell? ⟨w.heap.size, 0, none⟩ = some (.int .u64 u1) ∧ W0.drew.cell? ⟨w.heap.size, 1, none⟩ = some (.string (S u2))) := ⟨hR0.c0, hR0.c1⟩
          have HLW0 := Lib.hid (Lat.trans HLAT.out hlw0); have HZW0 := Lib.hid (HZB.out.keep hlw0)
          rw [← hW0, ← hX]
          clear hW0 hX hlw0 hXR hR0 c0 c1 ct hlook2
          have hF : W0.drew.cell? ⟨X, 0, none⟩ = some (.int .u64 x1) ∧ W0.drew.cell? ⟨X, 1, none⟩ = some (.string (S x2)) ∧ W0.drew.frozen? ⟨w.heap.size, 0, none⟩ = false ∧ W0.drew.frozen? ⟨w.heap.size, 1, none⟩ = false := HFX.out
          have hG : W0.drew.cell? ⟨w.heap.size, 0, none⟩ = some (.int .u64 u1) ∧ W0.drew.cell? ⟨w.heap.size, 1, none⟩ = some (.string (S u2)) := HGX.out
          refine wp_region_gate (fun w' => w'.cell? ⟨X, 0, none⟩ = some (.int .u64 x1) ∧ w'.cell? ⟨X, 1, none⟩ = some (.string (S x2)) ∧ w'.frozen? ⟨w.heap.size, 0, none⟩ = false ∧ w'.frozen? ⟨w.heap.size, 1, none⟩ = false) (fun w' => w'.cell? ⟨w.heap.size, 0, none⟩ = some (.int .u64 u1) ∧ w'.cell? ⟨w.heap.size, 1, none⟩ = some (.string (S u2))) 11 (by kernel_rfl) ?_
          refine gate_takeF (i := 0) (v := ?_) rfl (by kernel_rfl) (by kernel_rfl) (by kernel_rfl) (fun _ _ _ h => h) (by decide) ⟨hF, fun _ => hG⟩ (Or.inl ⟨by rfl, ?_⟩) ?_
          rotate_left
          · intro wq hSw; obtain ⟨s0, s1, s2, s3⟩ := hSw; go_simp; rfl
          simp only [Act.put]
          refine gate_takeC (i := 1) [4, 10] (v := ?_) rfl (by kernel_rfl) (by kernel_rfl) (by kernel_rfl) (fun _ _ _ h => h) (by decide) (by kernel_rfl) (by kernel_rfl) ⟨hF, fun _ => hG⟩ (Or.inl ⟨by rfl, ?_⟩) ?_
          rotate_left
          · intro wq hSw; obtain ⟨⟨s0, s1, s2, s3⟩, s4, s5⟩ := hSw; go_simp; rfl
          simp only [Act.put]
          refine gate_takeF (i := 2) (v := ?_) rfl (by kernel_rfl) (by kernel_rfl) (by kernel_rfl) (fun _ _ _ h => h) (by decide) ⟨hF, fun _ => hG⟩ (Or.inl ⟨by rfl, ?_⟩) ?_
          rotate_left
          · intro wq hSw; obtain ⟨s0, s1, s2, s3⟩ := hSw; go_simp; rfl
          simp only [Act.put]
          refine gate_takeF (i := 3) (v := ?_) rfl (by kernel_rfl) (by kernel_rfl) (by kernel_rfl) (fun _ _ _ h => h) (by decide) ⟨hF, fun _ => hG⟩ (Or.inl ⟨by rfl, ?_⟩) ?_
          rotate_left
          · intro wq hSw; obtain ⟨s0, s1, s2, s3⟩ := hSw; go_simp; rfl
          simp only [Act.put]
          refine gate_takeF (i := 4) (v := ?_) rfl (by kernel_rfl) (by kernel_rfl) (by kernel_rfl) (fun _ _ _ h => h) (by decide) ⟨hF, fun _ => hG⟩ (Or.inl ⟨by rfl, ?_⟩) ?_
          rotate_left
          · intro wq hSw; obtain ⟨s0, s1, s2, s3⟩ := hSw; go_simp; rfl
          simp only [Act.put]
          refine gate_takeF (i := 5) (v := ?_) rfl (by kernel_rfl) (by kernel_rfl) (by kernel_rfl) (fun _ _ _ h => h) (by decide) ⟨hF, fun _ => hG⟩ (Or.inl ⟨by rfl, ?_⟩) ?_
          rotate_left
          · intro wq hSw; obtain ⟨s0, s1, s2, s3⟩ := hSw; go_simp; rfl
          simp only [Act.put]
          refine gate_takeC (i := 6) [9, 10] (v := ?_) rfl (by kernel_rfl) (by kernel_rfl) (by kernel_rfl) (fun _ _ _ h => h) (by decide) (by kernel_rfl) (by kernel_rfl) ⟨hF, fun _ => hG⟩ (Or.inl ⟨by rfl, ?_⟩) ?_
          rotate_left
          · intro wq hSw; obtain ⟨⟨s0, s1, s2, s3⟩, s4, s5⟩ := hSw; go_simp; rfl
          simp only [Act.put]
          refine gate_takeF (i := 7) (v := ?_) rfl (by kernel_rfl) (by kernel_rfl) (by kernel_rfl) (fun _ _ _ h => h) (by decide) ⟨hF, fun _ => hG⟩ (Or.inl ⟨by rfl, ?_⟩) ?_
          rotate_left
          · intro wq hSw; obtain ⟨s0, s1, s2, s3⟩ := hSw; go_simp; rfl
          simp only [Act.put]
          refine gate_takeF (i := 8) (v := ?_) rfl (by kernel_rfl) (by kernel_rfl) (by kernel_rfl) (fun _ _ _ h => h) (by decide) ⟨hF, fun _ => hG⟩ (Or.inl ⟨by rfl, ?_⟩) ?_
          rotate_left
          · intro wq hSw; obtain ⟨s0, s1, s2, s3⟩ := hSw; go_simp; rfl
          simp only [Act.put]
          refine gate_one (i := 9) (by kernel_rfl) rfl (fun K hK => ?_)
          go_simp
          refine (overS u2 (S x2) _ HAB.out (by rw [HUL.out]; unfold maxLen; omega)).mono ?_
          rintro y w2 ⟨rfl, hb2⟩
          have hF2 : w2.cell? ⟨X, 0, none⟩ = some (.int .u64 x1) ∧ w2.cell? ⟨X, 1, none⟩ = some (.string (S x2)) ∧ w2.frozen? ⟨w.heap.size, 0, none⟩ = false ∧ w2.frozen? ⟨w.heap.size, 1, none⟩ = false := ⟨hb2.cell_at hF.1, hb2.cell_at hF.2.1, hb2.free_at (World.block_lt_of_cell? _ _ hG.1) hF.2.2.1, hb2.free_at (World.block_lt_of_cell? _ _ hG.2) hF.2.2.2⟩
          have hG2 : w2.cell? ⟨w.heap.size, 0, none⟩ = some (.int .u64 u1) ∧ w2.cell? ⟨w.heap.size, 1, none⟩ = some (.string (S u2)) := ⟨hb2.cell_at hG.1, hb2.cell_at hG.2⟩
          refine hK _ _ ⟨hF2, fun _ => hG2⟩ ?_
          clear hK K hF hG
          obtain ⟨hF, hG⟩ := And.intro hF2 hG2
          clear hF2 hG2
          refine gate_takeF (i := 10) (v := ?_) rfl (by kernel_rfl) (by kernel_rfl) (by kernel_rfl) (fun _ _ _ h => h) (by decide) ⟨hF, fun _ => hG⟩ (Or.inl ⟨by rfl, ?_⟩) ?_
          rotate_left
          · intro wq hSw; obtain ⟨s0, s1, s2, s3⟩ := hSw; go_simp; rfl
          simp only [Act.put]
          refine gate_one (i := 11) (by kernel_rfl) rfl (fun K hK => ?_)
          obtain ⟨s0, s1, s2, s3⟩ := hF
          obtain ⟨s4, s5⟩ := hG
          have hlw2 : Lat w w2 := Lat.trans HLW0.out (Lat.trans (Lat.drew W0) hb2)
          have hRB := row_put (x := (u1, u2)) ⟨s4, s5, s2, s3⟩ (u1 ^^^ x1) (xorL u2 x2)
          have hZ2 := ((HZW0.out.keep (Lat.trans (Lat.drew W0) hb2)).other (show w.heap.size + 1 ≠ w.heap.size by omega) 0 (.int .u64 ((u1 ^^^ x1 : Nat) : Int))).other (show w.heap.size + 1 ≠ w.heap.size by omega) 1 (.string (S (xorL u2 x2)))
          have hlw3 : Lat w ((w2.setCell ⟨w.heap.size, 0, none⟩ (.int .u64 ((u1 ^^^ x1 : Nat) : Int))).setCell ⟨w.heap.size, 1, none⟩ (.string (S (xorL u2 x2)))) := (hlw2.setCell (p := ⟨w.heap.size, 0, none⟩) (Nat.le_refl _) _).setCell (p := ⟨w.heap.size, 1, none⟩) (Nat.le_refl _) _
          have HRB := Lib.hid hRB; have HZ2 := Lib.hid hZ2; have HLW3 := Lib.hid hlw3
          have hxr := HXOR.out
          clear hRB hZ2 hlw2 hlw3
          go_simp
          refine hK _ _ ?_ ?_
          · refine FG.past (by kernel_rfl) ⟨?_, ?_, ?_, ?_⟩
            · rw [World.cell?_setCell_other _ _ _ _ (by intro e; injection e with e1 _ _; omega), World.cell?_setCell_other _ _ _ _ (by intro e; injection e with e1 _ _; omega)]; exact s0
            · rw [World.cell?_setCell_other _ _ _ _ (by intro e; injection e with e1 _ _; omega), World.cell?_setCell_other _ _ _ _ (by intro e; injection e with e1 _ _; omega)]; exact s1
            · rw [World.frozen?_setCell, World.frozen?_setCell]; exact s2
            · rw [World.frozen?_setCell, World.frozen?_setCell]; exact s3
          clear hK K
          refine gate_done (by kernel_rfl) ?_ _
          clear s0 s1 s2 s3 s4 s5 hxr hb2
          go_wp2
          go_roundg (gk - 1)
          case measure => go_light; have := HGK.out; omega
          case rel => go_light; exact ⟨i + 1, by omega, by rw [HSH.out], by have := HGK.out; omega, by rw [HST.out]; exact HRB.out, HZ2.out, HLW3.out⟩
      · have hne : (bits .and .u64 (u1 : Int) (bitP i : Int) == 0) = true := by rw [hand, hand2, if_neg htb]; rfl
        have HST : Hid (leftTo T (v1, v2) (i + 1) = (u1, u2)) := by show _ = _; rw [leftTo_no (by rw [HU.out]; simpa using htb), HU.out]
        clear hand hand2 htb hbp hle hul
        go_wp2
        go_roundg (gk - 1)
        case measure => go_light; have := HGK.out; omega
        case rel => go_light; exact ⟨i + 1, by omega, by rw [HSH.out], by have := HGK.out; omega, by rw [HST.out]; exact HRBX.out, HZB.out, HLAT.out⟩
    · have d1 : decide (bitP i ≤ u1) = false := decide_eq_false hle
      have hend : leftTo T (v1, v2) k = (u1, u2) := by
        rw [leftTo_end (by rw [HU.out]; show u1 < bitP i; omega) k hi]; exact HU.out
      have HEND := Lib.hid hend
      have z0 := HZB.out.c0
      have z1 : wr.cell? ⟨w.heap.size + 1, 1, none⟩ = some (.string { data := #[] }) := HZB.out.c1
      have g0 := HZB.out.f0
      have g1 := HZB.out.f1
      have hfin : Lat w ((wr.setCell ⟨w.heap.size + 1, 0, none⟩ (.int .u64 u1)).setCell ⟨w.heap.size + 1, 1, none⟩ (.string (S u2))) := (HLAT.out.setCell (p := ⟨w.heap.size + 1, 0, none⟩) (Nat.le_succ _) _).setCell (p := ⟨w.heap.size + 1, 1, none⟩) (Nat.le_succ _) _
      have hq := two_setR z0 z1 (.int .u64 u1) (.string (S u2))
      obtain ⟨q0, q1⟩ := hq
      have HFIN := Lib.hid hfin; have Q0 := Lib.hid q0; have Q1 := Lib.hid q1
      clear hend hfin hle hul q0 q1
      go_wp2
      exact bodyPost_ret (v := .agg #[.int .u64 u1, .string (S u2)]) (by simp [results, Tryd.results62, go_sem, Q0.out, Q1.out]) rfl ⟨by rw [HEND.out]; rfl, HFIN.out⟩
end Go.Proofs.YtcpookgbneoilaaDoor
