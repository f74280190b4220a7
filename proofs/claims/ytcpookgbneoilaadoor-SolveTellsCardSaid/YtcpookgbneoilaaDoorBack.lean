/- The contract of (*solve.Table).back: from the last block to the first. -/
import Derived.Test.YtcpookgbneoilaaDoorTabAdd
import Derived.Test.YtcpookgbneoilaaDoorAppG
import Derived.Deep.CutRange
import Derived.Deep.CutBlock
namespace Go.Proofs.YtcpookgbneoilaaDoor
open Go.ChangeShapes Go.WideShapes Go.ChangeAt Go.RowKit

/-- a row's data over those of the known ones behind block i that are in it -/
def bkR (r : Vec) (kn : Nat → List UInt8) (i : Nat) : Nat → List UInt8
  | 0 => r.2
  | q + 1 => if r.1.testBit (i + 1 + q) = true then xorL (bkR r kn i q) (kn (i + 1 + q)) else bkR r kn i q
/-- what is known when f blocks were found, from the last one -/
def outF (T : Nat → Option Vec) (k : Nat) : Nat → Nat → List UInt8
  | 0 => fun _ => []
  | f + 1 => fun j => if j = k - 1 - f then bkR ((T (k - 1 - f)).getD (0, [])) (outF T k f) (k - 1 - f) f else outF T k f j
theorem outF_len {m k : Nat} {T : Nat → Option Vec} (hT : TI m k T) (hfull : ∀ b, b < k → T b ≠ none) : ∀ f, f ≤ k → ∀ j, k - f ≤ j → j < k → (outF T k f j).length = m
  | 0, _, j, h1, h2 => by omega
  | f + 1, hf, j, h1, h2 => by
    have ih := outF_len hT hfull f (by omega)
    show (if j = k - 1 - f then bkR ((T (k - 1 - f)).getD (0, [])) (outF T k f) (k - 1 - f) f else outF T k f j).length = m
    by_cases e : j = k - 1 - f
    · rw [if_pos e]
      obtain ⟨x, hx⟩ : ∃ x, T (k - 1 - f) = some x := by
        cases h : T (k - 1 - f) with
        | none => exact absurd h (hfull _ (by omega))
        | some x => exact ⟨x, rfl⟩
      rw [hx]
      have hxl := hT.len _ _ hx
      have : ∀ q, q ≤ f → (bkR ((some x).getD (0, [])) (outF T k f) (k - 1 - f) q).length = m := fun q => by
        induction q with
        | zero => intro _; exact hxl
        | succ q ihq =>
          intro hq
          unfold bkR
          split
          · rw [xorL_length _ _ (by rw [ihq (by omega), ih _ (by omega) (by omega)])]; exact ihq (by omega)
          · exact ihq (by omega)
      exact this f (Nat.le_refl _)
    · rw [if_neg e]; exact ih j (by omega) h2
theorem bkR_len {m k : Nat} {T : Nat → Option Vec} (hT : TI m k T) (hfull : ∀ b, b < k → T b ≠ none) {f : Nat} (hf : f < k) {x : Vec} (hx : T (k - 1 - f) = some x) : ∀ q, q ≤ f → (bkR x (outF T k f) (k - 1 - f) q).length = m
  | 0, _ => hT.len _ _ hx
  | q + 1, hq => by
    have ih := bkR_len hT hfull hf hx q (by omega)
    unfold bkR
    split
    · rw [xorL_length _ _ (by rw [ih, outF_len hT hfull f (by omega) _ (by omega) (by omega)])]; exact ih
    · exact ih
theorem shr_bit (n j : Nat) (hn : n < 65536) : bits .and .u64 ((n / 2 ^ j : Nat) : Int) 1 = if n.testBit j = true then 1 else 0 := by
  have h1 : n / 2 ^ j ≤ n := Nat.div_le_self _ _
  have h2 := bits_and_u64_nat (n / 2 ^ j) 1 (by omega) (by omega)
  rw [Nat.and_one_is_mod] at h2
  have h3 : ((1 : Nat) : Int) = 1 := rfl
  rw [h3] at h2
  rw [h2, Nat.testBit_eq_decide_div_mod_eq]
  by_cases h : n / 2 ^ j % 2 = 1
  · rw [h, decide_eq_true rfl, if_pos rfl]; rfl
  · rw [decide_eq_false h, if_neg (by simp)]
    have : n / 2 ^ j % 2 = 0 := by omega
    rw [this]; rfl

theorem row_put1 {w : World} {g : Nat} {x : Vec} (h : RowB w g x) (l : List UInt8) : RowB (w.setCell ⟨g, 1, none⟩ (.string (S l))) g (x.1, l) :=
  ⟨by rw [World.cell?_setCell_other _ _ _ _ (by intro e; injection e with _ e2 _; cases e2)]; exact h.c0, World.cell?_setCell_same _ _ _ h.c1, by rw [World.frozen?_setCell]; exact h.f0, by rw [World.frozen?_setCell]; exact h.f1⟩
theorem Blk.otherB {w : World} {g n h : Nat} {F : Nat → Value} (hb : Blk w g n F) (hne : g ≠ h) (o : Nat) (v : Value) : Blk (w.setCell ⟨h, o, none⟩ v) g n F :=
  ⟨by simpa [World.setCell] using hb.lt, fun j hj => by rw [World.cell?_setCell_other _ _ _ _ (by intro e; injection e with e1 _ _; exact hne e1.symm)]; exact hb.cell j hj, fun j hj => by rw [World.frozen?_setCell]; exact hb.free j hj⟩

set_option maxHeartbeats 4000000 in
set_option maxRecDepth 100000 in
theorem back_any (p b k m : Nat) (T : Nat → Option Vec) (w : World) (h : TabAt w p b k T) (hk1 : 1 ≤ k) (hk : k ≤ 16) (hT : TI m k T) (hm8 : m ≤ 8) (hfull : ∀ b, b < k → T b ≠ none) :
    Calls Tryd.prog 47 #[.pointer (some ⟨p, 0, none⟩), .int .i64 k] w fun e w' => ∃ g, e = .returned (.slice (some ⟨g, 0, none⟩) k k) ∧ w.heap.size ≤ g ∧ Blk w' g k (fun j => .string (S (outF T k k j))) ∧ Lat w w' := by
  have hol := fun f hf => outF_len hT hfull f hf
  have hbl := fun f (hf : f < k) x hx => bkR_len (x := x) hT hfull hf hx
  have H := Lib.hid h; have HTI := Lib.hid hT; have HFU := Lib.hid hfull; have HOL := Lib.hid hol; have HBL := Lib.hid hbl
  clear h hT hfull hol hbl
  go_enter Tryd.func47, Tryd.ntmps47
  go_wp2_with (at_make; refine wpList_make_blk _ rfl _ _ 54 rfl 9 (.string .empty) 16 Tryd.underlying54 info_string rfl k rfl rfl (by omega) (by unfold maxLen; omega) ?_)
  intro g w1 hg hblk hb1
  have HBK : Hid (Blk w1 g k (fun j => .string (S (outF T k 0 j)))) := hblk.congr fun j _ => rfl
  have HB1 := Lib.hid hb1; have HG : Hid (w.heap.size ≤ g) := Nat.le_of_eq hg.symm
  clear hblk hb1 hg
  go_wp2
  go_loopg [6, 7, 8] (k + 1) (fun gh i _ _ wr => ∃ f : Nat, f ≤ k ∧ i = .int .i64 ((k : Int) - 1 - (f : Int)) ∧ Hid (gh + f = k + 1 ∧ Blk wr g k (fun j => .string (S (outF T k f j))) ∧ Lat w wr))
  case atStart => exact ⟨0, Nat.zero_le _, by go_num, rfl, HBK.out, HB1.out⟩
  case round =>
    obtain ⟨f, hf, rfl, hrel⟩ := hrel
    obtain ⟨hgh, hblk, hlat⟩ := hrel.out
    by_cases hfk : f < k
    · obtain ⟨i, hi⟩ : ∃ i, i = k - 1 - f := ⟨_, rfl⟩
      have hiI : (k : Int) - 1 - (f : Int) = (i : Int) := by omega
      rw [hiI]
      have hik : i < k := by omega
      obtain ⟨x, hx⟩ : ∃ x, T i = some x := by
        cases h : T i with
        | none => exact absurd h (HFU.out i hik)
        | some x => exact ⟨x, rfl⟩
      obtain ⟨x1, x2⟩ := x
      have hxb := HTI.out.bits i _ hx
      have hx16 : x1 < 65536 := Nat.lt_of_lt_of_le hxb (Nat.pow_le_pow_right (by omega) hk)
      have hbl := HBL.out f hfk (x1, x2) (by rw [← hi]; exact hx)
      rw [← hi] at hbl
      have hst : ∀ j, outF T k (f + 1) j = if j = i then bkR (x1, x2) (outF T k f) i f else outF T k f j := fun j => by
        show (if j = k - 1 - f then bkR ((T (k - 1 - f)).getD (0, [])) (outF T k f) (k - 1 - f) f else outF T k f j) = _
        rw [← hi, hx]; rfl
      have hwp := wrap_pow i (by omega)
      have HGH := Lib.hid hgh; have HBLK := Lib.hid hblk; have HLT := Lib.hid hlat; have HX := Lib.hid hx; have HBL2 := Lib.hid hbl; have HST := Lib.hid hst; have HI := Lib.hid hi; have HWP := Lib.hid hwp
      clear hrel hgh hblk hlat hx hxb hbl hst hi hwp hiI
      go_upto_region 5 with fail
      have hF : TabAt wr.drew p b k T := (H.out.keep HLT.out).keep (Lat.drew wr)
      have hL0 : Lat wr wr.drew := Lat.drew wr
      have hci : (0 : Int) ≤ (i : Int) := by omega
      refine wp_region_gate (fun w' => TabAt w' p b k T) (fun _ => True) 1000 (by kernel_rfl) ?_
      obtain ⟨w0, hw0⟩ : ∃ x, x = wr.drew := ⟨_, rfl⟩
      rw [← hw0] at hF hL0 ⊢
      clear hw0
      refine gate_takeF (i := 0) (v := ?_) rfl (by kernel_rfl) (by kernel_rfl) (by kernel_rfl) (fun _ _ _ h => h) (by decide) ⟨hF, fun _ => trivial⟩ (Or.inl ⟨by rfl, ?_⟩) ?_
      rotate_left
      · intro wq hSw; go_simp; rfl
      simp only [Act.put]
      refine gate_takeF (i := 1) (v := ?_) rfl (by kernel_rfl) (by kernel_rfl) (by kernel_rfl) (fun _ _ _ h => h) (by decide) ⟨hF, fun _ => trivial⟩ (Or.inl ⟨by rfl, ?_⟩) ?_
      rotate_left
      · intro wq hSw; go_simp; rfl
      simp only [Act.put]
      refine gate_takeF (i := 2) (v := ?_) rfl (by kernel_rfl) (by kernel_rfl) (by kernel_rfl) (fun _ _ _ h => h) (by decide) ⟨hF, fun _ => trivial⟩ (Or.inl ⟨by rfl, ?_⟩) ?_
      rotate_left
      · intro wq hSw; go_simp; rfl
      simp only [Act.put]
      refine gate_takeF (i := 3) (v := ?_) rfl (by kernel_rfl) (by kernel_rfl) (by kernel_rfl) (fun _ _ _ h => h) (by decide) ⟨hF, fun _ => trivial⟩ (Or.inl ⟨by rfl, ?_⟩) ?_
      rotate_left
      · intro wq hSw; have s0 := hSw.cell; go_simp; rfl
      simp only [Act.put]
      refine gate_takeF (i := 4) (v := ?_) rfl (by kernel_rfl) (by kernel_rfl) (by kernel_rfl) (fun _ _ _ h => h) (by decide) ⟨hF, fun _ => trivial⟩ (Or.inl ⟨by rfl, ?_⟩) ?_
      rotate_left
      · intro wq hSw; go_simp; rfl
      simp only [Act.put]
      refine gate_takeF (i := 5) (v := ?_) rfl (by kernel_rfl) (by kernel_rfl) (by kernel_rfl) (fun _ _ _ h => h) (by decide) ⟨hF, fun _ => trivial⟩ (Or.inl ⟨by rfl, ?_⟩) ?_
      rotate_left
      · intro wq hSw; have hw := HWP.out; go_simp; rfl
      simp only [Act.put]
      refine gate_takeF (i := 6) (v := ?_) rfl (by kernel_rfl) (by kernel_rfl) (by kernel_rfl) (fun _ _ _ h => h) (by decide) ⟨hF, fun _ => trivial⟩ (Or.inl ⟨by rfl, ?_⟩) ?_
      rotate_left
      · intro wq hSw; have s9 := hSw.look i (by omega); rw [HX.out] at s9; have s0 : (Instr.lookup 108 (.map (some b)) (.int .u64 (bitP i : Int)) false).run Tryd.prog wq = .ok (.agg #[.int .u64 x1, .string (S x2)]) wq := s9; clear s9; have hw := HWP.out; go_simp; rfl
      simp only [Act.put]
      refine gate_one (i := 7) (by kernel_rfl) rfl (fun K hK => ?_)
      go_simp
      obtain ⟨X, hX⟩ : ∃ X, X = w0.heap.size := ⟨_, rfl⟩
      obtain ⟨W1, hW1⟩ : ∃ W, W = w0.alloc (.cells #[.int .u64 0, .string { data := #[] }] 93) := ⟨_, rfl⟩
      have hrx : RowB W1 X (0, []) := by rw [hW1, hX]; exact row_new w0 0 []
      have hL1 : Lat wr W1 := by rw [hW1]; exact Lat.trans hL0 (Lat.alloc _ _)
      have hF1 : TabAt W1 p b k T := by rw [hW1]; exact hF.keep (Lat.alloc _ _)
      have hXw : wr.heap.size ≤ X := by rw [hX]; exact hL0.size
      rw [← hW1, ← hX]
      clear hW1 hX
      refine hK _ _ ⟨hF1, fun _ => trivial⟩ ?_
      clear hK K hF
      refine gate_one (i := 8) (by kernel_rfl) rfl (fun K hK => ?_)
      have s0 := hrx.c0
      have s1 : W1.cell? ⟨X, 1, none⟩ = some (.string { data := #[] }) := hrx.c1
      have s2 := hrx.f0
      have s3 := hrx.f1
      have hpX : p ≠ X := by have h1 := H.out.lt.1; have h2 := HLT.out.size; omega
      have hbX : b ≠ X := by have h1 := H.out.lt.2; have h2 := HLT.out.size; omega
      have hgX : g ≠ X := by have h1 := HBLK.out.lt; omega
      have hput := row_put hrx x1 x2
      have hF2 := (hF1.fr (Fr.set (S := fun j => j = X) W1 ⟨X, 0, none⟩ (.int .u64 x1) rfl) hpX hbX).fr (Fr.set (S := fun j => j = X) _ ⟨X, 1, none⟩ (.string (S x2)) rfl) hpX hbX
      have hbk2 := ((HBLK.out.keep hL1).otherB hgX 0 (.int .u64 x1)).otherB hgX 1 (.string (S x2))
      have hL2 : Lat w ((W1.setCell ⟨X, 0, none⟩ (.int .u64 x1)).setCell ⟨X, 1, none⟩ (.string (S x2))) := ((Lat.trans HLT.out hL1).setCell (p := ⟨X, 0, none⟩) (Nat.le_trans HLT.out.size hXw) _).setCell (p := ⟨X, 1, none⟩) (Nat.le_trans HLT.out.size hXw) _
      have HPUT := Lib.hid hput; have HF2 := Lib.hid hF2; have HBK2 := Lib.hid hbk2; have HL2 := Lib.hid hL2; have HXW := Lib.hid (Nat.le_trans HLT.out.size hXw)
      clear hput hF2 hbk2 hL2 hrx hF1 hL1 hXw hL0
      go_simp
      refine hK _ _ ⟨HF2.out, fun _ => trivial⟩ ?_
      clear hK K
      refine gate_done (by kernel_rfl) ?_ _
      clear s0 s1 s2 s3
      obtain ⟨W2, hW2⟩ : ∃ W, W = (W1.setCell ⟨X, 0, none⟩ (.int .u64 x1)).setCell ⟨X, 1, none⟩ (.string (S x2)) := ⟨_, rfl⟩
      have hput := HPUT.out
      have hbk2 := HBK2.out
      have hL2 := HL2.out
      rw [← hW2] at hput hbk2 hL2 ⊢
      have HP2 := Lib.hid hput; have HB2 := Lib.hid hbk2; have HL3 := Lib.hid hL2
      clear hW2 hput hbk2 hL2 HPUT HF2 HBK2 HL2
      obtain ⟨wo, hwo⟩ : ∃ wo : World, wo = wr := ⟨_, rfl⟩
      subst hwo
      go_wp2
      go_loopw [8] (fun jj wr => ∃ q : Nat, q ≤ f ∧ jj = .int .i64 ((i + 1 + q : Nat) : Int) ∧ Hid (RowB wr X (x1, bkR (x1, x2) (outF T k f) i q) ∧ Blk wr g k (fun j => .string (S (outF T k f j))) ∧ Lat w wr)) (fun jj _ => 40 - (intOf jj).toNat)
      case atStart => exact ⟨0, Nat.zero_le _, rfl, HP2.out, HB2.out, HL3.out⟩
      case round =>
        obtain ⟨q, hq, rfl, hrel⟩ := hrel
        obtain ⟨hrw, hbk, hlat⟩ := hrel.out
        obtain ⟨jn, hjn⟩ : ∃ x, x = i + 1 + q := ⟨_, rfl⟩
        rw [← hjn]
        have hik2 : i + 1 + f = k := by have := HI.out; omega
        by_cases hqf : q < f
        · have hjk : jn < k := by omega
          have c0 := hrw.c0
          have dj : decide (jn < k) = true := decide_eq_true hjk
          have hyl := HBL2.out q (by omega)
          have hzl := HOL.out f (by omega) jn (by omega) hjk
          have hq1 : bkR (x1, x2) (outF T k f) i (q + 1) = if x1.testBit jn = true then xorL (bkR (x1, x2) (outF T k f) i q) (outF T k f jn) else bkR (x1, x2) (outF T k f) i q := by rw [hjn]; rfl
          obtain ⟨y, hy⟩ : ∃ y, y = bkR (x1, x2) (outF T k f) i q := ⟨_, rfl⟩
          obtain ⟨z, hz⟩ : ∃ z, z = outF T k f jn := ⟨_, rfl⟩
          have cg : wr.cell? ⟨g, jn, none⟩ = some (.string (S z)) := by rw [hz]; exact hbk.cell jn hjk
          rw [← hy] at hyl hq1 hrw
          rw [← hz] at hzl hq1
          have hdiv : (x1 : Int) / 2 ^ jn = ((x1 / 2 ^ jn : Nat) : Int) := by rw [Int.natCast_ediv, Int.natCast_pow]; rfl
          have hsb := shr_bit x1 jn hx16
          rw [← hdiv] at hsb
          have HRW := Lib.hid hrw; have HBK := Lib.hid hbk; have HLA := Lib.hid hlat; have HQ1 := Lib.hid hq1; have HJN := Lib.hid hjn; have HCG := Lib.hid cg
          have HYL : Hid (y.length = (S z).size) := hyl.trans hzl.symm
          have HYM : Hid (y.length = m) := hyl
          clear hik2 hrel hrw hbk hlat hq1 hjn hy hz cg hyl hzl hdiv
          by_cases htb : x1.testBit jn = true
          · have dbit : (bits BinOp.and IntKind.u64 ((x1 : Int) / 2 ^ jn) 1 == 1) = true := by rw [hsb, if_pos htb]; rfl
            have HQ2 : Hid (bkR (x1, x2) (outF T k f) i (q + 1) = xorL y z) := by show _ = _; rw [HQ1.out, if_pos htb]
            clear hsb htb
            go_upto_region 10 with fail
            have hF : wr.drew.cell? ⟨g, jn, none⟩ = some (.string (S z)) ∧ wr.drew.frozen? ⟨X, 1, none⟩ = false := ⟨HCG.out, HRW.out.f1⟩
            have hG : wr.drew.cell? ⟨X, 1, none⟩ = some (.string (S y)) := HRW.out.c1
            have hj0 : (0 : Int) ≤ (jn : Int) := by omega
            have hjk2 : (jn : Int) < (k : Int) := by omega
            have hL0 : Lat wr wr.drew := Lat.drew wr
            refine wp_region_gate (fun w' => w'.cell? ⟨g, jn, none⟩ = some (.string (S z)) ∧ w'.frozen? ⟨X, 1, none⟩ = false) (fun w' => w'.cell? ⟨X, 1, none⟩ = some (.string (S y))) 8 (by kernel_rfl) ?_
            obtain ⟨w0, hw0⟩ : ∃ x, x = wr.drew := ⟨_, rfl⟩
            rw [← hw0] at hF hG hL0 ⊢
            clear hw0
            refine gate_takeF (i := 0) (v := ?_) rfl (by kernel_rfl) (by kernel_rfl) (by kernel_rfl) (fun _ _ _ h => h) (by decide) ⟨hF, fun _ => hG⟩ (Or.inl ⟨by rfl, ?_⟩) ?_
            rotate_left
            · intro wq hSw; go_simp; rfl
            simp only [Act.put]
            refine gate_takeC (i := 1) [6] (v := ?_) rfl (by kernel_rfl) (by kernel_rfl) (by kernel_rfl) (fun _ _ _ h => h) (by decide) (by kernel_rfl) (by kernel_rfl) ⟨hF, fun _ => hG⟩ (Or.inl ⟨by rfl, ?_⟩) ?_
            rotate_left
            · intro wq hSw; obtain ⟨⟨s0, s1⟩, s2⟩ := hSw; go_simp; rfl
            simp only [Act.put]
            refine gate_takeF (i := 2) (v := ?_) rfl (by kernel_rfl) (by kernel_rfl) (by kernel_rfl) (fun _ _ _ h => h) (by decide) ⟨hF, fun _ => hG⟩ (Or.inl ⟨by rfl, ?_⟩) ?_
            rotate_left
            · intro wq hSw; go_simp; rfl
            simp only [Act.put]
            refine gate_takeF (i := 3) (v := ?_) rfl (by kernel_rfl) (by kernel_rfl) (by kernel_rfl) (fun _ _ _ h => h) (by decide) ⟨hF, fun _ => hG⟩ (Or.inl ⟨by rfl, ?_⟩) ?_
            rotate_left
            · intro wq hSw; go_simp; rfl
            simp only [Act.put]
            refine gate_takeF (i := 4) (v := ?_) rfl (by kernel_rfl) (by kernel_rfl) (by kernel_rfl) (fun _ _ _ h => h) (by decide) ⟨hF, fun _ => hG⟩ (Or.inl ⟨by rfl, ?_⟩) ?_
            rotate_left
            · intro wq hSw; go_simp; rfl
            simp only [Act.put]
            refine gate_takeF (i := 5) (v := ?_) rfl (by kernel_rfl) (by kernel_rfl) (by kernel_rfl) (fun _ _ _ h => h) (by decide) ⟨hF, fun _ => hG⟩ (Or.inl ⟨by rfl, ?_⟩) ?_
            rotate_left
            · intro wq hSw; obtain ⟨s0, s1⟩ := hSw; go_simp; rfl
            simp only [Act.put]
            refine gate_one (i := 6) (by kernel_rfl) rfl (fun K hK => ?_)
            go_simp
            refine (overS y (S z) _ HYL.out (by rw [HYM.out]; unfold maxLen; omega)).mono ?_
            rintro e w5 ⟨rfl, hb5⟩
            have hX0 : X < w0.heap.size := World.block_lt_of_cell? _ _ hG
            have hF' : w5.cell? ⟨g, jn, none⟩ = some (.string (S z)) ∧ w5.frozen? ⟨X, 1, none⟩ = false := ⟨hb5.cell_at hF.1, hb5.free_at hX0 hF.2⟩
            have hG' : w5.cell? ⟨X, 1, none⟩ = some (.string (S y)) := hb5.cell_at hG
            refine hK _ _ ⟨hF', fun _ => hG'⟩ ?_
            clear hK K hF hG
            refine gate_takeF (i := 7) (v := ?_) rfl (by kernel_rfl) (by kernel_rfl) (by kernel_rfl) (fun _ _ _ h => h) (by decide) ⟨hF', fun _ => hG'⟩ (Or.inl ⟨by rfl, ?_⟩) ?_
            rotate_left
            · intro wq hSw; go_simp; rfl
            simp only [Act.put]
            refine gate_one (i := 8) (by kernel_rfl) rfl (fun K hK => ?_)
            obtain ⟨s0, s1⟩ := hF'
            have s2 := hG'
            have hl5 : Lat wr w5 := Lat.trans hL0 hb5
            have hrow5 := row_put1 (HRW.out.keep hl5) (xorL y z)
            have hbk5 := (HBK.out.keep hl5).otherB hgX 1 (.string (S (xorL y z)))
            have hlw5 : Lat w (w5.setCell ⟨X, 1, none⟩ (.string (S (xorL y z)))) := (Lat.trans HLA.out hl5).setCell (p := ⟨X, 1, none⟩) HXW.out _
            have HR5 := Lib.hid hrow5; have HB5 := Lib.hid hbk5; have HL5 := Lib.hid hlw5
            clear hrow5 hbk5 hlw5 hl5 hL0 hb5
            go_simp
            refine hK _ _ (FG.past (by kernel_rfl) ⟨by rw [World.cell?_setCell_other _ _ _ _ (by intro e; injection e with e1 _ _; exact hgX e1.symm)]; exact s0, by rw [World.frozen?_setCell]; exact s1⟩) ?_
            clear hK K
            refine gate_done (by kernel_rfl) ?_ _
            clear s0 s1 s2 hG'
            go_wp2
            go_roundw
            case rel => exact ⟨q + 1, by omega, by rw [HJN.out]; go_num, by rw [HQ2.out]; exact HR5.out, HB5.out, HL5.out⟩
            case measure => simp [intOf]; omega
          · have dbit : (bits BinOp.and IntKind.u64 ((x1 : Int) / 2 ^ jn) 1 == 1) = false := by rw [hsb, if_neg htb]; rfl
            have HQ2 : Hid (bkR (x1, x2) (outF T k f) i (q + 1) = y) := by show _ = _; rw [HQ1.out, if_neg htb]
            clear hsb htb
            go_wp2
            go_roundw
            case rel => exact ⟨q + 1, by omega, by rw [HJN.out]; go_num, by rw [HQ2.out]; exact HRW.out, HBK.out, HLA.out⟩
            case measure => simp [intOf]; omega
        · obtain rfl : q = f := by omega
          have hjk : jn = k := by omega
          have dj : decide (jn < k) = false := decide_eq_false (by omega)
          have cl := hbk.cell i hik
          have fl := hbk.free i hik
          have cx := hrw.c1
          obtain ⟨y, hy⟩ : ∃ y, y = bkR (x1, x2) (outF T k q) i q := ⟨_, rfl⟩
          rw [← hy] at cx
          have hnew : Blk (wr.setCell ⟨g, i, none⟩ (.string (S y))) g k (fun j => .string (S (outF T k (q + 1) j))) := (hbk.set hik (.string (S y))).congr fun j _ => by
            rw [HST.out j]
            by_cases e : j = i
            · rw [if_pos e, if_pos e, hy]
            · rw [if_neg e, if_neg e]
          have hlat2 : Lat w (wr.setCell ⟨g, i, none⟩ (.string (S y))) := hlat.setCell (p := ⟨g, i, none⟩) HG.out _
          have hiI : (i : Int) < (k : Int) := by omega
          have HNEW := Lib.hid hnew; have HLAT2 := Lib.hid hlat2; have HIK2 := Lib.hid hik2
          clear hrel hrw hbk hlat hjn hjk hy hnew hlat2 hik2
          go_wp2
          go_roundg (gk - 1)
          case measure => go_light; have := HGH.out; omega
          case rel => go_light; exact ⟨q + 1, by omega, by have := HIK2.out; go_num, by have := HGH.out; omega, HNEW.out, HLAT2.out⟩
    · obtain rfl : f = k := by omega
      have e : ((f : Int) - 1 - (f : Int)) = -1 := by omega
      rw [e]
      have HBF := Lib.hid hblk; have HLF := Lib.hid hlat
      clear hrel hgh hblk hlat e
      go_wp2
      go_ret
      exact ⟨g, rfl, HG.out, HBF.out, HLF.out⟩
end Go.Proofs.YtcpookgbneoilaaDoor
