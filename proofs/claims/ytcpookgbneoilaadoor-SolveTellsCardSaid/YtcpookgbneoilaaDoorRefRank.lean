/- The contract of dropref1.rank: the rank of lines, which change places. -/
import Derived.Test.YtcpookgbneoilaaDoorRefRow
import Derived.Deep.CutRange
import Derived.Test.YtcpookgbneoilaaDoorGate
namespace Go.Proofs.YtcpookgbneoilaaDoor
open Go.ChangeShapes Go.WideShapes Go.ChangeAt Go.RowKit

def atI (o : Option Nat) : Int := match o with
  | none => -1
  | some p => (p : Int)
theorem pick_succ (A : List Vec) (us : Nat → Bool) (b f i : Nat) : pick A us b (f + 1) i = if (rowG A i).1.testBit b = true ∧ us i = false then some i else pick A us b f (i + 1) := rfl
theorem line_z : (lineV (0, [])).cells.size = 17 := by show (lineC (0, [])).toArray.size = 17; rw [List.size_toArray, lineC_len]
theorem ones_lines (A : List Vec) : ∀ r ∈ A.map lineC, ∀ u ∈ r, u.oneCell' = true := fun r hr => by
  obtain ⟨v, _, rfl⟩ := List.mem_map.1 hr
  exact lineC_one v

set_option maxHeartbeats 4000000 in
set_option maxRecDepth 100000 in
theorem refRk (a : Option Addr) (n cap k m : Nat) (L : List Vec) (w : World) (h : LinesAt w a n cap L) (hL : Ln m 16 L) (hn : n ≤ 1000) (hk : k ≤ 16) (hm : m ≤ 1000) :
    Calls Tryd.prog 43 #[.slice a n cap, .int .i64 k] w fun e w' => e = .returned (.int .i64 ((rkF L k).2 : Nat)) ∧ Lat w w' := by
  have hlen := h.len
  have HH := Lib.hid h; have HL := Lib.hid hL; have HLEN := Lib.hid hlen
  clear h hL hlen
  go_enter Tryd.func43, Tryd.ntmps43
  go_wp2_with (at_builtin; go_loud (refine wpList_appRM w w.heap.size rfl (.tmp 12) (.tmp 13) 76 rfl 78 (lineV (0, [])) 17 32 Tryd.underlying76 line_info line_z (by decide) (by decide) (.slice none 0 0) [] rfl (OwnR.nil w _ _ _) a n cap (L.map lineC) rfl HH.out (ones_lines L) (by simp; omega) (Nat.le_refl _) ?_); intro v1 w1 hown hfr hloc)
  rw [List.nil_append] at hown
  obtain ⟨aa, cc, rfl, hform, hnc, hcm⟩ := OwnL.form hown HLEN.out
  have hl1 : Lat w w1 := hfr.lat_of (Lat.refl w) (fun k e => by cases e)
  have HO := Lib.hid (show OwnL w1 w.heap.size (.slice aa n cc) L from hown); have HL1 := Lib.hid hl1; have HF := Lib.hid hform
  clear hown hfr hloc hl1 hform
  have hrk : ∀ b, b ≤ 16 → ∃ T, Rk m 16 L (rkF L b).1 T (rkF L b).2 b := fun b hb => rkF_rk HL.out b hb
  have HRK := Lib.hid hrk
  clear hrk
  go_wp2_with fail
  go_loopg [6, 7] k (fun f nv bv wr => ∃ b : Nat, b + f = k ∧ nv = .int .i64 ((rkF L b).2 : Nat) ∧ bv = .int .i64 b ∧ Hid (Lat w wr ∧ OwnL wr w.heap.size (.slice aa n cc) (rkF L b).1))
  case atStart => exact ⟨0, by omega, rfl, rfl, HL1.out, HO.out⟩
  case round =>
    clear HO HL1
    obtain ⟨b, hb, rfl, rfl, hrel⟩ := hrel
    by_cases hlt : b < k
    · obtain ⟨f, rfl⟩ : ∃ f, gk = f + 1 := ⟨gk - 1, by omega⟩
      have db : decide (b < k) = true := decide_eq_true hlt
      obtain ⟨T, hT⟩ := HRK.out b (by omega)
      have hAl : (rkF L b).1.length = n := hT.len.trans HLEN.out
      have hle := hT.le
      have hwf := hT.ln
      have hsk := fun h => (rkF_none (L := L) (b := b) h).trans (Prod.ext rfl rfl : rkF L b = ((rkF L b).1, (rkF L b).2))
      have htk := fun p h => rkF_some (L := L) (b := b) (p := p) h
      obtain ⟨A, hA⟩ : ∃ A, A = (rkF L b).1 := ⟨_, rfl⟩
      obtain ⟨c, hc⟩ : ∃ c, c = (rkF L b).2 := ⟨_, rfl⟩
      rw [← hA] at hrel
      rw [← hA, ← hc] at hsk htk
      rw [← hA] at hAl hle hwf
      rw [← hc] at hle ⊢
      rw [hAl] at hle hsk htk
      obtain ⟨pk, hpk⟩ : ∃ pk, pk = pick A noUse b (n - c) c := ⟨_, rfl⟩
      rw [← hpk] at hsk htk
      have HAL := Lib.hid hAl; have HWF := Lib.hid hwf; have HSK := Lib.hid hsk; have HTK := Lib.hid htk; have HPK := Lib.hid hpk; have HREL := Lib.hid hrel.out
      have hb16 : b < 16 := by omega
      clear hT hAl hwf hsk htk hpk hrel hA hc
      go_upto_block 2 with fail
      go_cut [8, 9] from 21 to 38 (fun av _ wx => av = .int .i64 (atI pk) ∧ wr = wx)
      case first =>
        go_wp2_with fail
        go_loopg [8, 9] (n - c) (fun f av iv wx => ∃ i : Nat, i + f = n ∧ c ≤ i ∧ iv = .int .i64 i ∧ wr = wx ∧ ((av = .int .i64 (-1) ∧ Hid (pick A noUse b (n - i) i = pk)) ∨ ∃ p : Nat, av = .int .i64 p ∧ Hid (pk = some p)))
        case atStart => exact ⟨c, by omega, Nat.le_refl _, rfl, rfl, .inl ⟨rfl, HPK.out.symm⟩⟩
        case round =>
          obtain ⟨i, hi, hci, rfl, rfl, hav⟩ := hrel
          rcases hav with ⟨rfl, hpi⟩ | ⟨p, rfl, hpp⟩
          · by_cases hin : i < n
            · obtain ⟨f, rfl⟩ : ∃ f, gk = f + 1 := ⟨gk - 1, by omega⟩
              have di : decide (i < n) = true := decide_eq_true hin
              obtain ⟨g, rfl, hg1, hg2⟩ := HF.out (by omega)
              have cb := HREL.out.2.bit hin hb16
              have i0 : (0 : Int) ≤ (i : Int) := by omega
              have i1 : (i : Int) < (n : Int) := by omega
              have b0 : (0 : Int) ≤ (b : Int) := by omega
              have b1 : (b : Int) < 16 := by omega
              have hp2 := hpi.out
              rw [show n - i = (n - (i + 1)) + 1 by omega, pick_succ] at hp2
              obtain ⟨T, hT⟩ : ∃ T, T = (rowG A i).1.testBit b := ⟨_, rfl⟩
              rw [← hT] at cb hp2
              clear hpi hT
              cases T with
              | true =>
                rw [if_pos ⟨rfl, rfl⟩] at hp2
                have HP2 := Lib.hid hp2.symm
                clear hp2
                go_wp2_with fail
                go_roundg f
                case measure => omega
                case rel => exact ⟨i + 1, by omega, by omega, by go_num, rfl, .inr ⟨i, rfl, HP2.out⟩⟩
              | false =>
                rw [if_neg (fun e => Bool.noConfusion e.1)] at hp2
                have HP2 := Lib.hid hp2
                clear hp2
                go_wp2_with fail
                go_roundg f
                case measure => omega
                case rel => exact ⟨i + 1, by omega, by omega, by go_num, rfl, .inl ⟨rfl, HP2.out⟩⟩
            · obtain rfl : i = n := by omega
              have di : decide (i < i) = false := decide_eq_false (by omega)
              have hp2 := hpi.out
              rw [Nat.sub_self] at hp2
              have HP2 := Lib.hid hp2
              clear hpi hp2
              go_wp2_with fail
              go_meet
              exact ⟨by rw [← HP2.out]; rfl, rfl⟩
          · have dp : decide ((p : Int) < 0) = false := decide_eq_false (by omega)
            have HPP := Lib.hid hpp.out
            clear hpp
            by_cases hin : i < n
            · have di : decide (i < n) = true := decide_eq_true hin
              go_wp2_with fail
              go_meet
              exact ⟨by rw [HPP.out]; rfl, rfl⟩
            · have di : decide (i < n) = false := decide_eq_false hin
              go_wp2_with fail
              go_meet
              exact ⟨by rw [HPP.out]; rfl, rfl⟩
      case rest =>
        obtain ⟨rfl, rfl⟩ := hcut
        cases pk with
        | none =>
          have HNX := Lib.hid (HSK.out rfl)
          clear HSK HTK HPK
          rw [show atI none = -1 from rfl]
          go_wp2_with fail
          go_roundg f
          case measure => omega
          case rel => exact ⟨b + 1, by omega, by rw [HNX.out], by go_num, by rw [HNX.out]; exact HREL.out⟩
        | some p =>
          obtain ⟨hcp, hpn, _, _⟩ := pick_some HPK.out.symm
          have hpn : p < n := by omega
          have hcn : c < n := by omega
          have HNX := Lib.hid (HTK.out p rfl)
          obtain ⟨g, rfl, hg1, hg2⟩ := HF.out (by omega)
          have HG := Lib.hid (And.intro hg1 hg2)
          have hgx : g < wr.heap.size := (HREL.out.2.lt g rfl).2
          have HGX := Lib.hid hgx
          have dp : decide ((p : Int) < 0) = false := decide_eq_false (by omega)
          have p0 : (0 : Int) ≤ (p : Int) := by omega
          have p1 : (p : Int) < (n : Int) := by omega
          have c0 : (0 : Int) ≤ (c : Int) := by omega
          have c1 : (c : Int) < (n : Int) := by omega
          clear HSK HTK HPK hg1 hg2 hgx
          rw [show atI (some p) = (p : Int) from rfl]
          have hzt := zline_there wr 78
          obtain ⟨W2, hW2⟩ : ∃ W, W = (wr.alloc (.cells (lineC (0, [])).toArray 78)).setCells wr.heap.size 0 (lineC (rowG A p)) := ⟨_, rfl⟩
          have hgx := HGX.out
          have hx2 := World.rangeAt_setCells_same (wr.alloc (.cells (lineC (0, [])).toArray 78)) wr.heap.size 0 (lineC (rowG A p)) (by rw [lineC_len]; exact hzt)
          have ho2 := (HREL.out.2.keep (Lat.alloc wr (.cells (lineC (0, [])).toArray 78))).other (x := wr.heap.size) (by omega) 0 (lineC (rowG A p))
          have hl2 : Lat w W2 := by
            rw [hW2]
            exact (Fr.setCells _ _ _ _).lat_of (HREL.out.1.trans (Lat.alloc _ _)) (fun k e => by rw [e]; exact HREL.out.1.size)
          rw [← hW2] at hx2 ho2
          obtain ⟨W3, hW3⟩ : ∃ W, W = W2.setCells g (p * 17) (lineC (rowG A c)) := ⟨_, rfl⟩
          have ho3 := ho2.put hpn (rowG A c)
          have hl3 := ho2.lat_put hl2 (Nat.le_refl _) p (rowG A c)
          have hx3 := World.rangeAt_setCells_apart hx2 g (p * 17) (lineC (rowG A c)) (.inl (by omega))
          rw [← hW3] at ho3 hl3 hx3
          obtain ⟨W4, hW4⟩ : ∃ W, W = W3.setCells g (c * 17) (lineC (rowG A p)) := ⟨_, rfl⟩
          have ho4 : OwnL (W3.setCells g (c * 17) (lineC (rowG A p))) w.heap.size (.slice (some ⟨g, 0, none⟩) n cc) (swp A c p) := ho3.put hcn (rowG A p)
          have hl4 := ho3.lat_put hl3 (Nat.le_refl _) c (rowG A p)
          have hx4 := World.rangeAt_setCells_apart hx3 g (c * 17) (lineC (rowG A p)) (.inl (by omega))
          rw [← hW4] at ho4 hl4 hx4
          rw [zero_cells] at hW2 hzt
          have HZT := Lib.hid hzt; have HX2 := Lib.hid hx2; have HO2 := Lib.hid ho2; have HO3 := Lib.hid ho3; have HX3 := Lib.hid hx3
          have HO4 := Lib.hid ho4; have HL4 := Lib.hid hl4; have HX4 := Lib.hid hx4; have HW2 := Lib.hid hW2; have HW3 := Lib.hid hW3; have HW4 := Lib.hid hW4
          clear hzt hx2 ho2 ho3 hx3 ho4 hl4 hx4 hl3 hl2 hW2 hW3 hW4 hgx
          go_upto_region 14 with fail
          refine wp_region_lit ?_
          go_upto_region 15 with (first
            | refine at_load rfl (.tmp 43) rfl g (p * 17) rfl (rowG A p) (HREL.out.2.row hpn) ?_
            | refine at_store rfl (.tmp 10) (.tmp 44) rfl wr.heap.size 0 (rowG A p) rfl rfl HZT.out ?_)
          rw [← HW2.out]
          go_upto_region 16 with (first
            | refine at_load rfl (.tmp 49) rfl g (c * 17) rfl (rowG A c) (HO2.out.row hcn) ?_
            | refine at_store rfl (.tmp 51) (.tmp 50) rfl g (p * 17) (rowG A c) rfl rfl (HO2.out.there hpn) ?_)
          rw [← HW3.out]
          go_upto_region 17 with (first
            | refine at_load rfl (.tmp 10) rfl wr.heap.size 0 rfl (rowG A p) HX3.out ?_
            | refine at_store rfl (.tmp 55) (.tmp 54) rfl g (c * 17) (rowG A p) rfl rfl (HO3.out.there hcn) ?_)
          rw [← HW4.out]
          clear HW2 HW3 HW4 HX2 HX3 HO2 HO3 HZT HREL
          obtain ⟨B, hB⟩ : ∃ B, B = swp A c p := ⟨_, rfl⟩
          have hBl : B.length = n := by rw [hB, swp_len]; exact HAL.out
          have hBw : Ln m 16 B := by
            rw [hB]
            exact fun u hu => HWF.out u ((swp_mem (by rw [HAL.out]; exact hcn) (by rw [HAL.out]; exact hpn) u).1 hu)
          have hBc : rowG B c = rowG A p := by
            rw [hB, swp_row (by rw [HAL.out]; exact hcn) (by rw [HAL.out]; exact hpn), if_pos rfl]
          rw [← hB] at HO4 HNX
          rw [← hBc] at HX4
          have HBL := Lib.hid hBl; have HBW := Lib.hid hBw
          clear hB hBl hBw hBc HAL HWF
          obtain ⟨X, hX⟩ : ∃ X, X = wr.heap.size := ⟨_, rfl⟩
          have hXg : X ≠ g := by have := HGX.out; omega
          rw [← hX] at HX4 ⊢
          have HXG := Lib.hid hXg; have HC1 := Lib.hid hcn
          clear hX HGX hXg hcn hpn
          go_wp2_with fail
          go_loopg [11] (n - (c + 1)) (fun f iv wx => ∃ i : Nat, i + f = n ∧ c + 1 ≤ i ∧ iv = .int .i64 i ∧ Hid (Lat w wx ∧ OwnL wx w.heap.size (.slice (some ⟨g, 0, none⟩) n cc) (clrTo B c b (c + 1) i) ∧ wx.rangeAt X 0 (lineC (rowG B c))))
          case atStart => exact ⟨c + 1, by have := HC1.out; omega, Nat.le_refl _, by go_num, HL4.out, by rw [clrTo_zero _ _ (Nat.le_refl _)]; exact HO4.out, HX4.out⟩
          case round =>
            clear HO4 HL4 HX4
            obtain ⟨i, hi, hci, rfl, hrel⟩ := hrel
            by_cases hin : i < n
            · obtain ⟨f, rfl⟩ : ∃ f, gk = f + 1 := ⟨gk - 1, by omega⟩
              have di : decide (i < n) = true := decide_eq_true hin
              have hrow : rowG (clrTo B c b (c + 1) i) i = rowG B i := by rw [clrTo_row _ _ _ _ (by rw [HBL.out]; exact hin), if_neg (by omega)]
              have cb := hrel.out.2.1.bit hin hb16
              have hr := hrel.out.2.1.row hin
              rw [hrow] at cb hr
              have i0 : (0 : Int) ≤ (i : Int) := by omega
              have i1 : (i : Int) < (n : Int) := by omega
              have b0 : (0 : Int) ≤ (b : Int) := by omega
              have b1 : (b : Int) < 16 := by omega
              have hcs := clrTo_succ (A := B) (p := c) (b := b) (s := c + 1) (j := i) hci (by rw [HBL.out]; exact hin)
              obtain ⟨T, hT⟩ : ∃ T, T = (rowG B i).1.testBit b := ⟨_, rfl⟩
              rw [← hT] at cb hcs
              cases T with
              | true =>
                rw [if_pos ⟨by omega, rfl⟩] at hcs
                have hov := fun W => refOver (rowG B i) (rowG B c) W (by rw [(HBW.out.row (by rw [HBL.out]; exact hin)).1, (HBW.out.row (by rw [HBL.out]; exact HC1.out)).1]) (by rw [(HBW.out.row (by rw [HBL.out]; exact hin)).1]; omega)
                have HOV := Lib.hid hov; have HCS := Lib.hid hcs; have HLA := Lib.hid hrel.out.1; have HOA := Lib.hid hrel.out.2.1
                have hG : wr.drew.rangeAt g (i * 17) (lineC (rowG B i)) ∧ wr.drew.rangeAt X 0 (lineC (rowG B c)) := ⟨range_keep hr (Lat.drew _), range_keep hrel.out.2.2 (Lat.drew _)⟩
                clear hrel hr hT hrow hov hcs
                go_wp2_with fail
                refine wp_region_gate (fun _ => True) (fun w' => w'.rangeAt g (i * 17) (lineC (rowG B i)) ∧ w'.rangeAt X 0 (lineC (rowG B c))) 9 (by kernel_rfl) ?_
                refine gate_takeG (i := 0) (v := ?_) rfl (by kernel_rfl) (by kernel_rfl) (by kernel_rfl) (fun _ _ _ h => h) (by decide) (by kernel_rfl) (by kernel_rfl) ⟨trivial, fun _ => hG⟩ (Or.inl ⟨by kernel_rfl, ?_⟩) ?_
                rotate_left
                · intro wq hSw; obtain ⟨-, s0, s1⟩ := hSw; go_simp; rfl
                simp only [Act.put]
                refine gate_takeG (i := 1) (v := ?_) rfl (by kernel_rfl) (by kernel_rfl) (by kernel_rfl) (fun _ _ _ h => h) (by decide) (by kernel_rfl) (by kernel_rfl) ⟨trivial, fun _ => hG⟩ (Or.inl ⟨by kernel_rfl, ?_⟩) ?_
                rotate_left
                · intro wq hSw; obtain ⟨-, s0, s1⟩ := hSw; go_simp; rfl
                simp only [Act.put]
                refine gate_takeG (i := 2) (v := ?_) rfl (by kernel_rfl) (by kernel_rfl) (by kernel_rfl) (fun _ _ _ h => h) (by decide) (by kernel_rfl) (by kernel_rfl) ⟨trivial, fun _ => hG⟩ (Or.inl ⟨by kernel_rfl, ?_⟩) ?_
                rotate_left
                · intro wq hSw; obtain ⟨-, s0, s1⟩ := hSw; go_simp; rfl
                simp only [Act.put]
                refine gate_takeG (i := 3) (v := ?_) rfl (by kernel_rfl) (by kernel_rfl) (by kernel_rfl) (fun _ _ _ h => h) (by decide) (by kernel_rfl) (by kernel_rfl) ⟨trivial, fun _ => hG⟩ (Or.inl ⟨by kernel_rfl, ?_⟩) ?_
                rotate_left
                · intro wq hSw; obtain ⟨-, s0, s1⟩ := hSw; go_simp; rfl
                simp only [Act.put]
                refine gate_takeG (i := 4) (v := ?_) rfl (by kernel_rfl) (by kernel_rfl) (by kernel_rfl) (fun _ _ _ h => h) (by decide) (by kernel_rfl) (by kernel_rfl) ⟨trivial, fun _ => hG⟩ (Or.inl ⟨by kernel_rfl, ?_⟩) ?_
                rotate_left
                · intro wq hSw; obtain ⟨-, s0, s1⟩ := hSw; go_simp; rfl
                simp only [Act.put]
                refine gate_takeG (i := 5) (v := lineV (rowG B i)) rfl (by kernel_rfl) (by kernel_rfl) (by kernel_rfl) (fun _ _ _ h => h) (by decide) (by kernel_rfl) (by kernel_rfl) ⟨trivial, fun _ => hG⟩ (line_yields (by kernel_rfl) (.tmp 75) rfl g (i * 17) rfl (rowG B i) (fun _ h => h.2.1)) ?_
                simp only [Act.put]
                refine gate_takeG (i := 6) (v := lineV (rowG B c)) rfl (by kernel_rfl) (by kernel_rfl) (by kernel_rfl) (fun _ _ _ h => h) (by decide) (by kernel_rfl) (by kernel_rfl) ⟨trivial, fun _ => hG⟩ (line_yields (by kernel_rfl) (.tmp 10) rfl X (0) rfl (rowG B c) (fun _ h => h.2.2)) ?_
                simp only [Act.put]
                refine gate_one (i := 7) (by kernel_rfl) rfl (fun K hK => ?_)
                go_simp
                refine (HOV.out _).mono ?_
                rintro e w5 ⟨rfl, hb5⟩
                have hG' : w5.rangeAt g (i * 17) (lineC (rowG B i)) ∧ w5.rangeAt X 0 (lineC (rowG B c)) := ⟨range_keep hG.1 hb5, range_keep hG.2 hb5⟩
                refine hK _ _ ⟨trivial, fun _ => hG'⟩ ?_
                clear hK K
                have HL5 := Lib.hid (HLA.out.trans ((Lat.drew _).trans hb5)); have HO5 := Lib.hid (HOA.out.keep ((Lat.drew _).trans hb5)); have HX5 := Lib.hid hG'.2
                clear hG hb5
                have hG := hG'
                clear hG'
                refine gate_takeG (i := 8) (v := ?_) rfl (by kernel_rfl) (by kernel_rfl) (by kernel_rfl) (fun _ _ _ h => h) (by decide) (by kernel_rfl) (by kernel_rfl) ⟨trivial, fun _ => hG⟩ (Or.inl ⟨by kernel_rfl, ?_⟩) ?_
                rotate_left
                · intro wq hSw; obtain ⟨-, s0, s1⟩ := hSw; go_simp; rfl
                simp only [Act.put]
                refine gate_one (i := 9) (by kernel_rfl) rfl (fun K hK => ?_)
                rw [if_pos (by kernel_rfl)]
                refine line_store (.tmp 79) (.tmp 78) rfl g (i * 17) (vx (rowG B i) (rowG B c)) rfl rfl (HO5.out.there hin) ?_
                refine hK _ _ (FG.past (by kernel_rfl) trivial) ?_
                clear hK K hG
                refine gate_done (by kernel_rfl) ?_ _
                have hfin : OwnL (w5.setCells g (i * 17) (lineC (vx (rowG B i) (rowG B c)))) w.heap.size (.slice (some ⟨g, 0, none⟩) n cc) (clrTo B c b (c + 1) (i + 1)) := by
                  rw [HCS.out]; exact HO5.out.put hin _
                have hfl := HO5.out.lat_put HL5.out (Nat.le_refl _) i (vx (rowG B i) (rowG B c))
                have hfx := World.rangeAt_setCells_apart HX5.out g (i * 17) (lineC (vx (rowG B i) (rowG B c))) (.inl HXG.out)
                obtain ⟨w6, hw6⟩ : ∃ w6, w6 = w5.setCells g (i * 17) (lineC (vx (rowG B i) (rowG B c))) := ⟨_, rfl⟩
                rw [← hw6] at hfin hfl hfx ⊢
                have HFI := Lib.hid hfin; have HFL := Lib.hid hfl; have HFX := Lib.hid hfx
                clear hfin hfl hfx hw6 HO5 HL5 HX5 HOA HLA HOV
                simp only [List.getElem_toArray, List.getElem_cons_succ, List.getElem_cons_zero]
                go_simp
                go_wp2_with fail
                go_roundg f
                case measure => omega
                case rel => exact ⟨i + 1, by omega, by omega, by go_num, HFL.out, HFI.out, HFX.out⟩
              | false =>
                rw [if_neg (fun e => Bool.noConfusion e.2)] at hcs
                have HCS := Lib.hid hcs; have HR := Lib.hid hrel.out
                clear hrel hr hT hrow hcs
                go_wp2_with fail
                go_roundg f
                case measure => omega
                case rel => exact ⟨i + 1, by omega, by omega, by go_num, HR.out.1, by rw [HCS.out]; exact HR.out.2.1, HR.out.2.2⟩
            · obtain rfl : i = n := by omega
              have di : decide (i < i) = false := decide_eq_false (by omega)
              have HR := Lib.hid hrel.out
              clear hrel
              go_wp2_with fail
              go_roundg f
              case measure => omega
              case rel => exact ⟨b + 1, by omega, by rw [HNX.out]; go_num, by go_num, by rw [HNX.out]; exact ⟨HR.out.1, HR.out.2.1⟩⟩
    · obtain rfl : b = k := by omega
      have db : decide (b < b) = false := decide_eq_false (by omega)
      have HR := Lib.hid hrel.out.1
      clear hrel
      go_wp2_with fail
      go_ret
      exact ⟨rfl, HR.out⟩
end Go.Proofs.YtcpookgbneoilaaDoor
