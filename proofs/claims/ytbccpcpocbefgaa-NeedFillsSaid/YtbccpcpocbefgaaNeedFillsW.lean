/- The walk of NeedFills: it returns true, whatever it is asked. -/
import Derived.Test.YtbccpcpocbefgaaNeedPl2
namespace Go.Proofs.Ytbccpcpocbefgaa
open Go.ChangeShapes Go.WideShapes Go.ChangeAt Go.RowKit

theorem fact_lack : lackR 3 [2] = [0, 2] ∧ rdyE 3 [2] = 0 := ⟨by kernel_rfl, by kernel_rfl⟩

set_option maxHeartbeats 4000000 in
set_option maxRecDepth 100000 in
theorem walk_needFills (k : Int) (a : Option Addr) (n cap : Nat) (zs : List Int) (wo : Int) (w : World) (_ : (Lit.int .i64 k).wf = true) (h : IntsAt w a n cap zs) (_ : (Lit.int .i64 wo).wf = true) :
    Calls Try.prog 3 #[.int .i64 k, .slice a n cap, .int .i64 wo] w fun x w' => x = .returned (.bool true) ∧ Lat w w' := by
  have hb0 : Lat w (w.alloc (.cells #[.int .i64 2] 3)) := Lat.alloc _ _
  have hat0 : IntsAt (w.alloc (.cells #[.int .i64 2] 3)) (some ⟨w.heap.size, 0, none⟩) 1 1 [2] := by
    have := ints_new w [2] 3 (by simp) (by intro z hz; rw [List.mem_singleton] at hz; subst hz; omega)
    simpa using this
  have k0 := lacks_any 3 _ 1 1 [2] _ hat0
  rw [fact_lack.1, fact_lack.2, errv_zero rfl] at k0
  have k1 := fun W (hW : Lat w W) => srank_any k a n cap zs W (h.keep hW)
  have H := Lib.hid h; have HK0 := Lib.hid k0; have HB0 := Lib.hid hb0; have HK1 := Lib.hid k1
  clear k0 hb0 k1 hat0
  go_enter Try.func3, Try.ntmps3
  go_wp2_with fail
  refine HK0.out.mono ?_
  rintro x w1 ⟨⟨fa, fk, fc, rfl, hf⟩, hb1⟩
  obtain rfl : fk = 2 := by rw [← hf.len]; rfl
  obtain ⟨fb, fo, rfl, hfc⟩ := hf.row.at_ (by omega)
  have q3 : w1.cell? ⟨fb, fo, none⟩ = some (.int .i64 0) := hfc 0 (by omega)
  have q4 : w1.cell? ⟨fb, fo + 1, none⟩ = some (.int .i64 2) := hfc 1 (by omega)
  have HB1 := Lib.hid (Lat.trans HB0.out hb1)
  clear hf hfc hb1
  go_wp2_with fail
  refine (HK1.out _ HB1.out).mono ?_
  clear q3 q4
  by_cases h0 : rdyE k zs = 0
  · obtain ⟨h1, h2, h3, h4⟩ := rdyE_zero h0
    obtain ⟨f, rfl⟩ : ∃ f : Nat, k = f := ⟨k.toNat, by omega⟩
    have hl := h.len
    have hcm := h.row.cap
    have hle := h.row.le
    unfold maxLen at hcm
    have hn60 : n ≤ 60 := by omega
    have hf1 : 1 ≤ f := by omega
    have hf16 : f ≤ 16 := by omega
    have hba := rowsOf_bare (k := f) (zs := zs) hf1 h4
    have hnl := newL_len (k := f) (by omega) hba (rowsOf f zs).length (Nat.le_refl _)
    rw [List.take_length, rowsOf_len] at hnl
    have hll := lack_len (k := f) (by omega) hba
    have hnr : newR f zs = ofNats (newL f (rowsOf f zs) zs.length) := by unfold newR; rw [if_pos h0, Int.toNat_natCast]
    have hlr : lackR f zs = ofNats (lackL f (rowsOf f zs) f) := by unfold lackR; rw [if_pos h0, Int.toNat_natCast]
    have hltk := lackL_lt f (rowsOf f zs) f
    have hall := fun hl => rank_all (f := f) (zs := zs) hf1 hf16 h4 hl
    have hfew := fun wo hl => rank_few (f := f) (zs := zs) hf1 hf16 h4 wo hl
    have hfull := fun hr => first_full (f := f) (zs := zs) (by omega) hf1 hf16 h4 hr
    have hnone := fun hr => first_none (f := f) (zs := zs) (by omega) hf1 hf16 h4 hr
    have hrk : rankR f zs = rk f (rowsOf f zs) := rankR_of h0
    obtain ⟨R, hR⟩ : ∃ R, R = rk f (rowsOf f zs) := ⟨_, rfl⟩
    have hRle := rk_le f (rowsOf f zs)
    rw [← hR] at hnl hll hfull hnone hrk hRle
    obtain ⟨LK, hLK⟩ : ∃ LK, LK = lackL f (rowsOf f zs) f := ⟨_, rfl⟩
    rw [← hLK] at hll hlr hltk hall hfew
    have kn := fun W (hW : Lat w W) => new_any f a n cap zs W (h.keep hW)
    have kl := fun W (hW : Lat w W) => lacks_any f a n cap zs W (h.keep hW)
    have kf := fun W (hW : Lat w W) => first_any f a n cap zs W (h.keep hW)
    rw [h0, errv_zero rfl] at kn kl
    rw [hrk, h0, errv_zero rfl]
    rw [hnr] at kn
    rw [hlr] at kl
    rintro x w2 ⟨rfl, hb2⟩
    have KN := Lib.hid kn; have KL := Lib.hid kl; have KF := Lib.hid kf; have HNL := Lib.hid hnl; have HLL := Lib.hid hll; have HLTK := Lib.hid hltk; have HALL := Lib.hid hall; have HFEW := Lib.hid hfew; have HFULL := Lib.hid hfull; have HNONE := Lib.hid hnone
    have HB2 := Lib.hid (Lat.trans HB1.out hb2); have HL := Lib.hid hl
    clear kn kl kf hnl hll hltk hall hfew hfull hnone hb2 hba hnr hlr hrk hR hLK h0 h1 h2 h3 h4 h hl HK0 HB0 HK1
    go_wp2_with fail
    refine (KN.out _ HB2.out).mono ?_
    rintro x w3 ⟨⟨na, nk, nc, rfl, hn⟩, hb3⟩
    obtain rfl : nk = R := by rw [← hn.len, ofNats_len]; exact HNL.out
    have HB3 := Lib.hid (Lat.trans HB2.out hb3)
    clear hn hb3
    go_wp2_with fail
    refine (KL.out _ HB3.out).mono ?_
    rintro x w4 ⟨⟨la, lk, lc, rfl, hla⟩, hb4⟩
    have hlk : lk = LK.length := by rw [← hla.len, ofNats_len]
    have dl : ((lk : Int) != (f : Int) - (nk : Int)) = false := by rw [bne_eq_false_iff_eq]; have := HLL.out; omega
    have hlk16 : lk ≤ 16 := by have := HLL.out; omega
    have HLA := Lib.hid hla; have HB4 := Lib.hid (Lat.trans HB3.out hb4); have HLK := Lib.hid hlk
    clear hla hb4 hlk
    go_wp2_with fail
    refine (KF.out _ HB4.out).mono ?_
    clear KN KL KF
    by_cases hfu : nk = f
    · obtain ⟨F, e1, e2, e3, e4, e5, e6, e7, e8⟩ := HFULL.out hfu
      rw [HL.out] at e4
      rw [e1, e2, errv_zero rfl]
      rintro x w5 ⟨rfl, hb5⟩
      have HLA5 := Lib.hid (HLA.out.keep hb5); have HB5 := Lib.hid (Lat.trans HB4.out hb5)
      obtain ⟨F1, hF1⟩ : ∃ F1, F = F1 + 1 := ⟨F - 1, by omega⟩
      have hsub : (F : Int) - 1 = (F1 : Int) := by omega
      have dR : ((nk : Int) == (f : Int)) = true := by rw [hfu]; exact beq_self_eq_true _
      have k5 := fun W (hW : Lat w W) => srank_any f a F cap (zs.take F) W ((H.out.keep hW).take F e4)
      rw [e5, e6, errv_zero rfl] at k5
      have k6 := fun W (hW : Lat w W) => srank_any f a F1 cap (zs.take F1) W ((H.out.keep hW).take F1 (by omega))
      rw [show F - 1 = F1 by omega] at e7 e8
      rw [e8, errv_zero rfl] at k6
      obtain ⟨r1, hr1⟩ : ∃ r, r = rankR f (zs.take F1) := ⟨_, rfl⟩
      rw [← hr1] at k6 e7
      have K5 := Lib.hid k5; have K6 := Lib.hid k6
      have hFc : F ≤ cap := by omega
      have hF1c : F1 ≤ cap := by omega
      have dFf : decide (F < f) = false := decide_eq_false (by omega)
      have dFn : decide (n < F) = false := decide_eq_false (by omega)
      have dF0 : decide ((0 : Int) < (F : Int)) = true := decide_eq_true (by omega)
      have dr1 : decide (f ≤ r1) = false := decide_eq_false (by omega)
      have hFI : (0 : Int) ≤ (F : Int) := by omega
      have hF1I : (0 : Int) ≤ (F1 : Int) := by omega
      have hF60 : F ≤ 60 := by omega
      clear k5 k6 e1 e2 e5 e6 e8 hr1 hb5 hF1 hfu
      go_wp2_with fail
      refine (K5.out _ HB5.out).mono ?_
      rintro x w6 ⟨rfl, hb6⟩
      have HLA6 := Lib.hid (HLA5.out.keep hb6); have HB6 := Lib.hid (Lat.trans HB5.out hb6)
      clear hb6
      go_wp2_with fail
      refine (K6.out _ HB6.out).mono ?_
      rintro x w7 ⟨rfl, hb7⟩
      have HLA7 := Lib.hid (HLA6.out.keep hb7); have HB7 := Lib.hid (Lat.trans HB6.out hb7)
      clear hb7 K5 K6 HLA5 HLA6 HB5 HB6 HFULL HNONE
      have HAT := Lib.hid (H.out.keep HB7.out)
      go_wp2_with (first
        | (at_builtin; refine app_ints w7 w7 w7.heap.size rfl (.tmp 148) (.tmp 149) rfl (.slice none 0 0) [] zs rfl (Own.nil _ _ _) a n cap rfl HAT.out (by simp; omega) rfl (Lat.refl _) ?_; intro v19 w8 hown hb8 _)
        | (at_builtin; refine app_ints w8 w7 w7.heap.size rfl (.tmp 151) (.tmp 152) rfl (.slice none 0 0) [] zs rfl (Own.nil _ _ _) a n cap rfl (HAT.out.keep hb8) (by simp; omega) rfl hb8 ?_; intro v20 w9 hown2 hb9 hst9))
      rw [List.nil_append] at hown hown2
      obtain ⟨ho19, hap⟩ := hst9.other hown (Apart.nil _)
      have HINV : Hid (OwnInts w9 w7.heap.size v19 (zs ++ seedsOf (LK.take 0)) ∧ OwnInts w9 w7.heap.size v20 (zs ++ seedsOf (fewTo LK wo 0)) ∧ Apart v20 v19 ∧ Lat w7 w9) := by
        refine ⟨?_, ?_, hap, hb9⟩
        · show OwnInts _ _ _ (zs ++ []); rw [List.append_nil]; exact ho19
        · show OwnInts _ _ _ (zs ++ []); rw [List.append_nil]; exact hown2
      clear hown hown2 hb8 hb9 hst9 ho19 hap
      go_wp2
      go_loopw [19, 20, 21] (fun v19 v20 i wr => ∃ j : Nat, j ≤ lk ∧ i = .int .i64 j ∧ Hid (OwnInts wr w7.heap.size v19 (zs ++ seedsOf (LK.take j)) ∧ OwnInts wr w7.heap.size v20 (zs ++ seedsOf (fewTo LK wo j)) ∧ Apart v20 v19 ∧ Lat w7 wr)) (fun _ _ i _ => lk - (intOf i).toNat)
      case atStart => exact ⟨0, Nat.zero_le _, rfl, HINV.out⟩
      case round =>
        obtain ⟨j, hj, rfl, hrel⟩ := hrel
        obtain ⟨o19, o20, hap, hlat⟩ := hrel.out
        by_cases hlt : j < lk
        · obtain ⟨lb, lo, rfl, hc⟩ := HLA7.out.row.at_ (by omega)
          have c7 := hc j hlt
          have hjl : j < LK.length := by rw [← HLK.out]; exact hlt
          rw [ofNats_getD LK j hjl] at c7
          have hx := HLTK.out (LK.getD j 0) (by rw [List.getD_eq_getElem?_getD, List.getElem?_eq_getElem hjl]; exact List.getElem_mem _)
          have htk : seedsOf (LK.take (j + 1)) = seedsOf (LK.take j) ++ [((LK.getD j 0 : Nat) : Int) + 1] := by
            rw [← seedsOf_snoc, List.take_succ_eq_append_getElem hjl, List.getD_eq_getElem?_getD, List.getElem?_eq_getElem hjl]; rfl
          have hfw : fewTo LK wo (j + 1) = if (j : Int) = wo then fewTo LK wo j else fewTo LK wo j ++ [LK.getD j 0] := rfl
          obtain ⟨x, hxd⟩ : ∃ x, x = LK.getD j 0 := ⟨_, rfl⟩
          rw [← hxd] at c7 hx htk hfw
          have c1 := hlat.cell_at c7
          have C7 := Lib.hid c7
          have hn1 : (zs ++ seedsOf (LK.take j)).length < 1000000000000 := by
            rw [List.length_append, HL.out]; unfold seedsOf; rw [List.length_map, List.length_take]; omega
          have hn2 : (zs ++ seedsOf (fewTo LK wo j)).length < 1000000000000 := by
            rw [List.length_append, HL.out]; unfold seedsOf; rw [List.length_map, fewTo_len]; split <;> omega
          have O19 := Lib.hid o19; have O20 := Lib.hid o20; have HAP := Lib.hid hap; have HLT := Lib.hid hlat; have HTK := Lib.hid htk; have HFW := Lib.hid hfw; have HN1 := Lib.hid hn1; have HN2 := Lib.hid hn2
          clear hrel o19 o20 hap hlat hc htk hfw hxd hjl hn1 hn2 c7
          by_cases hjw : (j : Int) = wo
          · have dw : ((j : Int) != wo) = false := by rw [hjw]; exact bne_self_eq_false _
            have HJW := Lib.hid hjw
            clear hjw
            go_wp2_with (at_builtin; refine app_int wr w7 w7.heap.size rfl (.tmp 160) (.tmp 166) rfl u19 _ ((x : Int) + 1) rfl O19.out rfl HN1.out rfl HLT.out ?_; intro v' w2' hown' hb' hst')
            obtain ⟨p20, ap⟩ := hst'.other O20.out (Apart.symm HAP.out)
            have q19 : OwnInts w2' w7.heap.size v' (zs ++ seedsOf (LK.take (j + 1))) := by rw [HTK.out, ← List.append_assoc]; exact hown'
            have q20 : OwnInts w2' w7.heap.size u20 (zs ++ seedsOf (fewTo LK wo (j + 1))) := by rw [HFW.out, if_pos HJW.out]; exact p20
            have Q19 := Lib.hid q19; have Q20 := Lib.hid q20; have AP := Lib.hid (Apart.symm ap); have HL2 := Lib.hid hb'
            clear hown' hb' hst' p20 ap q19 q20
            go_wp2
            go_roundw
            case rel => exact ⟨j + 1, by omega, by go_num, Q19.out, Q20.out, AP.out, HL2.out⟩
            case measure => simp [intOf]; omega
          · have dw : ((j : Int) != wo) = true := bne_iff_ne.2 hjw
            have HJW := Lib.hid hjw
            clear hjw
            go_wp2_with (first
              | (at_builtin; refine app_int wr w7 w7.heap.size rfl (.tmp 160) (.tmp 166) rfl u19 _ ((x : Int) + 1) rfl O19.out rfl HN1.out rfl HLT.out ?_; intro v' w2' hown' hb' hst'; have hpa := hst'.other O20.out (Apart.symm HAP.out); have c3 := Lat.cell_at hb' C7.out)
              | (at_builtin; refine app_int w2' w7 w7.heap.size rfl (.tmp 171) (.tmp 177) rfl u20 _ ((x : Int) + 1) rfl hpa.1 rfl HN2.out rfl hb' ?_; intro v2 w3' hown2 hb2 hst2))
            obtain ⟨p19, ap⟩ := hst2.other hown' (Apart.symm hpa.2)
            have q19 : OwnInts w3' w7.heap.size v' (zs ++ seedsOf (LK.take (j + 1))) := by rw [HTK.out, ← List.append_assoc]; exact p19
            have q20 : OwnInts w3' w7.heap.size v2 (zs ++ seedsOf (fewTo LK wo (j + 1))) := by rw [HFW.out, if_neg HJW.out, seedsOf_snoc, ← List.append_assoc]; exact hown2
            have Q19 := Lib.hid q19; have Q20 := Lib.hid q20; have AP := Lib.hid ap; have HL2 := Lib.hid hb2
            clear hown' hb' hst' hpa hown2 hb2 hst2 p19 ap q19 q20 c3
            go_wp2
            go_roundw
            case rel => exact ⟨j + 1, by omega, by go_num, Q19.out, Q20.out, AP.out, HL2.out⟩
            case measure => simp [intOf]; omega
        · obtain rfl : j = lk := by omega
          have htk : LK.take j = LK := List.take_of_length_le (by rw [HLK.out]; exact Nat.le_refl _)
          rw [htk] at o19
          have hfl : fewTo LK wo j = fewTo LK wo LK.length := by rw [HLK.out]
          rw [hfl] at o20
          have hsl : (seedsOf LK).length = j := by unfold seedsOf; rw [List.length_map, HLK.out]
          obtain ⟨N19, hN19⟩ : ∃ N, N = (zs ++ seedsOf LK).length := ⟨_, rfl⟩
          have hN : N19 = n + j := by rw [hN19, List.length_append, HL.out, hsl]
          have HLB := Lib.hid (Lat.trans HB7.out hlat)
          by_cases h60 : 60 < N19
          · obtain ⟨a19, c19, hv, -⟩ := Own.slice o19
            rw [List.length_map, ← hN19] at hv
            subst hv
            have d60 : decide ((60 : Int) < (N19 : Int)) = true := decide_eq_true (by omega)
            clear hrel o19 o20 hap hlat htk hfl hsl hN19 hN
            go_wp2
            go_ret
            exact ⟨rfl, HLB.out⟩
          · have h60' : (zs ++ seedsOf LK).length ≤ 60 := by omega
            have ha := HALL.out h60'
            have hw := HFEW.out wo h60'
            have hwf1 : ∀ z ∈ zs ++ seedsOf LK, -9223372036854775808 ≤ z ∧ z ≤ 9223372036854775807 := fun z hz => by have := (rdyE_zero ha.2).2.2.2 z hz; omega
            have hwf2 : ∀ z ∈ zs ++ seedsOf (fewTo LK wo LK.length), -9223372036854775808 ≤ z ∧ z ≤ 9223372036854775807 := fun z hz => by have := (rdyE_zero hw.1).2.2.2 z hz; omega
            obtain ⟨a19, c19, hv19, t19⟩ := OwnInts.sliceN o19 hwf1 hN19.symm
            obtain ⟨N20, hN20⟩ : ∃ N, N = (zs ++ seedsOf (fewTo LK wo LK.length)).length := ⟨_, rfl⟩
            obtain ⟨a20, c20, hv20, t20⟩ := OwnInts.sliceN o20 hwf2 hN20.symm
            subst hv19
            subst hv20
            have k8 := srank_any f _ _ _ _ wr t19
            have k9 := fun W (hW : Lat wr W) => srank_any f _ _ _ _ W (t20.keep hW)
            rw [ha.1, ha.2, errv_zero rfl] at k8
            rw [hw.1, errv_zero rfl] at k9
            obtain ⟨r2, hr2⟩ : ∃ r, r = rankR f (zs ++ seedsOf (fewTo LK wo LK.length)) := ⟨_, rfl⟩
            rw [← hr2] at k9 hw
            have hlkI : (LK.length : Int) = (j : Int) := by rw [HLK.out]
            rw [hlkI] at hw
            have hw2 := hw.2
            have K8 := Lib.hid k8; have K9 := Lib.hid k9; have HW2 := Lib.hid hw2
            have d60 : decide ((60 : Int) < (N19 : Int)) = false := decide_eq_false (by omega)
            have dff : ((f : Int) == (f : Int)) = true := beq_self_eq_true _
            clear hrel o19 o20 hap hlat htk hfl hsl hN19 hN20 hN ha hw hw2 hwf1 hwf2 t19 t20 k8 k9 hr2 hlkI h60'
            go_wp2_with fail
            refine K8.out.mono ?_
            rintro x w10 ⟨rfl, hb10⟩
            have HB10 := Lib.hid hb10
            clear hb10
            go_wp2_with fail
            refine (K9.out _ HB10.out).mono ?_
            rintro x w11 ⟨rfl, hb11⟩
            have HB11 := Lib.hid (Lat.trans HLB.out (Lat.trans HB10.out hb11))
            clear hb11
            by_cases w0 : wo < 0
            · have d1 : decide (wo < 0) = true := decide_eq_true w0
              clear w0
              go_wp2
              go_ret
              exact ⟨rfl, HB11.out⟩
            · have d1 : decide (wo < 0) = false := decide_eq_false w0
              by_cases w1 : (j : Int) ≤ wo
              · have d2 : decide ((j : Int) ≤ wo) = true := decide_eq_true w1
                clear w0 w1
                go_wp2
                go_ret
                exact ⟨rfl, HB11.out⟩
              · have d2 : decide ((j : Int) ≤ wo) = false := decide_eq_false w1
                have hr2f := HW2.out (by omega) (by omega)
                have d3 : decide (r2 < f) = true := decide_eq_true hr2f
                clear w0 w1 hr2f
                go_wp2
                go_ret
                exact ⟨rfl, HB11.out⟩
    · obtain ⟨e1, e2⟩ := HNONE.out hfu
      rw [e1, e2, errv_pos (by omega)]
      rintro x w7 ⟨rfl, hb7⟩
      have HLA7 := Lib.hid (HLA.out.keep hb7); have HB7 := Lib.hid (Lat.trans HB4.out hb7)
      have dR : ((nk : Int) == (f : Int)) = false := beq_eq_false_iff_ne.2 (by omega)
      clear e1 e2 hb7 HFULL HNONE
      have HAT := Lib.hid (H.out.keep HB7.out)
      go_wp2_with (first
        | (at_builtin; refine app_ints w7 w7 w7.heap.size rfl (.tmp 148) (.tmp 149) rfl (.slice none 0 0) [] zs rfl (Own.nil _ _ _) a n cap rfl HAT.out (by simp; omega) rfl (Lat.refl _) ?_; intro v19 w8 hown hb8 _)
        | (at_builtin; refine app_ints w8 w7 w7.heap.size rfl (.tmp 151) (.tmp 152) rfl (.slice none 0 0) [] zs rfl (Own.nil _ _ _) a n cap rfl (HAT.out.keep hb8) (by simp; omega) rfl hb8 ?_; intro v20 w9 hown2 hb9 hst9))
      rw [List.nil_append] at hown hown2
      obtain ⟨ho19, hap⟩ := hst9.other hown (Apart.nil _)
      have HINV : Hid (OwnInts w9 w7.heap.size v19 (zs ++ seedsOf (LK.take 0)) ∧ OwnInts w9 w7.heap.size v20 (zs ++ seedsOf (fewTo LK wo 0)) ∧ Apart v20 v19 ∧ Lat w7 w9) := by
        refine ⟨?_, ?_, hap, hb9⟩
        · show OwnInts _ _ _ (zs ++ []); rw [List.append_nil]; exact ho19
        · show OwnInts _ _ _ (zs ++ []); rw [List.append_nil]; exact hown2
      clear hown hown2 hb8 hb9 hst9 ho19 hap
      go_wp2
      go_loopw [19, 20, 21] (fun v19 v20 i wr => ∃ j : Nat, j ≤ lk ∧ i = .int .i64 j ∧ Hid (OwnInts wr w7.heap.size v19 (zs ++ seedsOf (LK.take j)) ∧ OwnInts wr w7.heap.size v20 (zs ++ seedsOf (fewTo LK wo j)) ∧ Apart v20 v19 ∧ Lat w7 wr)) (fun _ _ i _ => lk - (intOf i).toNat)
      case atStart => exact ⟨0, Nat.zero_le _, rfl, HINV.out⟩
      case round =>
        obtain ⟨j, hj, rfl, hrel⟩ := hrel
        obtain ⟨o19, o20, hap, hlat⟩ := hrel.out
        by_cases hlt : j < lk
        · obtain ⟨lb, lo, rfl, hc⟩ := HLA7.out.row.at_ (by omega)
          have c7 := hc j hlt
          have hjl : j < LK.length := by rw [← HLK.out]; exact hlt
          rw [ofNats_getD LK j hjl] at c7
          have hx := HLTK.out (LK.getD j 0) (by rw [List.getD_eq_getElem?_getD, List.getElem?_eq_getElem hjl]; exact List.getElem_mem _)
          have htk : seedsOf (LK.take (j + 1)) = seedsOf (LK.take j) ++ [((LK.getD j 0 : Nat) : Int) + 1] := by
            rw [← seedsOf_snoc, List.take_succ_eq_append_getElem hjl, List.getD_eq_getElem?_getD, List.getElem?_eq_getElem hjl]; rfl
          have hfw : fewTo LK wo (j + 1) = if (j : Int) = wo then fewTo LK wo j else fewTo LK wo j ++ [LK.getD j 0] := rfl
          obtain ⟨x, hxd⟩ : ∃ x, x = LK.getD j 0 := ⟨_, rfl⟩
          rw [← hxd] at c7 hx htk hfw
          have c1 := hlat.cell_at c7
          have C7 := Lib.hid c7
          have hn1 : (zs ++ seedsOf (LK.take j)).length < 1000000000000 := by
            rw [List.length_append, HL.out]; unfold seedsOf; rw [List.length_map, List.length_take]; omega
          have hn2 : (zs ++ seedsOf (fewTo LK wo j)).length < 1000000000000 := by
            rw [List.length_append, HL.out]; unfold seedsOf; rw [List.length_map, fewTo_len]; split <;> omega
          have O19 := Lib.hid o19; have O20 := Lib.hid o20; have HAP := Lib.hid hap; have HLT := Lib.hid hlat; have HTK := Lib.hid htk; have HFW := Lib.hid hfw; have HN1 := Lib.hid hn1; have HN2 := Lib.hid hn2
          clear hrel o19 o20 hap hlat hc htk hfw hxd hjl hn1 hn2 c7
          by_cases hjw : (j : Int) = wo
          · have dw : ((j : Int) != wo) = false := by rw [hjw]; exact bne_self_eq_false _
            have HJW := Lib.hid hjw
            clear hjw
            go_wp2_with (at_builtin; refine app_int wr w7 w7.heap.size rfl (.tmp 160) (.tmp 166) rfl u19 _ ((x : Int) + 1) rfl O19.out rfl HN1.out rfl HLT.out ?_; intro v' w2' hown' hb' hst')
            obtain ⟨p20, ap⟩ := hst'.other O20.out (Apart.symm HAP.out)
            have q19 : OwnInts w2' w7.heap.size v' (zs ++ seedsOf (LK.take (j + 1))) := by rw [HTK.out, ← List.append_assoc]; exact hown'
            have q20 : OwnInts w2' w7.heap.size u20 (zs ++ seedsOf (fewTo LK wo (j + 1))) := by rw [HFW.out, if_pos HJW.out]; exact p20
            have Q19 := Lib.hid q19; have Q20 := Lib.hid q20; have AP := Lib.hid (Apart.symm ap); have HL2 := Lib.hid hb'
            clear hown' hb' hst' p20 ap q19 q20
            go_wp2
            go_roundw
            case rel => exact ⟨j + 1, by omega, by go_num, Q19.out, Q20.out, AP.out, HL2.out⟩
            case measure => simp [intOf]; omega
          · have dw : ((j : Int) != wo) = true := bne_iff_ne.2 hjw
            have HJW := Lib.hid hjw
            clear hjw
            go_wp2_with (first
              | (at_builtin; refine app_int wr w7 w7.heap.size rfl (.tmp 160) (.tmp 166) rfl u19 _ ((x : Int) + 1) rfl O19.out rfl HN1.out rfl HLT.out ?_; intro v' w2' hown' hb' hst'; have hpa := hst'.other O20.out (Apart.symm HAP.out); have c3 := Lat.cell_at hb' C7.out)
              | (at_builtin; refine app_int w2' w7 w7.heap.size rfl (.tmp 171) (.tmp 177) rfl u20 _ ((x : Int) + 1) rfl hpa.1 rfl HN2.out rfl hb' ?_; intro v2 w3' hown2 hb2 hst2))
            obtain ⟨p19, ap⟩ := hst2.other hown' (Apart.symm hpa.2)
            have q19 : OwnInts w3' w7.heap.size v' (zs ++ seedsOf (LK.take (j + 1))) := by rw [HTK.out, ← List.append_assoc]; exact p19
            have q20 : OwnInts w3' w7.heap.size v2 (zs ++ seedsOf (fewTo LK wo (j + 1))) := by rw [HFW.out, if_neg HJW.out, seedsOf_snoc, ← List.append_assoc]; exact hown2
            have Q19 := Lib.hid q19; have Q20 := Lib.hid q20; have AP := Lib.hid ap; have HL2 := Lib.hid hb2
            clear hown' hb' hst' hpa hown2 hb2 hst2 p19 ap q19 q20 c3
            go_wp2
            go_roundw
            case rel => exact ⟨j + 1, by omega, by go_num, Q19.out, Q20.out, AP.out, HL2.out⟩
            case measure => simp [intOf]; omega
        · obtain rfl : j = lk := by omega
          have htk : LK.take j = LK := List.take_of_length_le (by rw [HLK.out]; exact Nat.le_refl _)
          rw [htk] at o19
          have hfl : fewTo LK wo j = fewTo LK wo LK.length := by rw [HLK.out]
          rw [hfl] at o20
          have hsl : (seedsOf LK).length = j := by unfold seedsOf; rw [List.length_map, HLK.out]
          obtain ⟨N19, hN19⟩ : ∃ N, N = (zs ++ seedsOf LK).length := ⟨_, rfl⟩
          have hN : N19 = n + j := by rw [hN19, List.length_append, HL.out, hsl]
          have HLB := Lib.hid (Lat.trans HB7.out hlat)
          by_cases h60 : 60 < N19
          · obtain ⟨a19, c19, hv, -⟩ := Own.slice o19
            rw [List.length_map, ← hN19] at hv
            subst hv
            have d60 : decide ((60 : Int) < (N19 : Int)) = true := decide_eq_true (by omega)
            clear hrel o19 o20 hap hlat htk hfl hsl hN19 hN
            go_wp2
            go_ret
            exact ⟨rfl, HLB.out⟩
          · have h60' : (zs ++ seedsOf LK).length ≤ 60 := by omega
            have ha := HALL.out h60'
            have hw := HFEW.out wo h60'
            have hwf1 : ∀ z ∈ zs ++ seedsOf LK, -9223372036854775808 ≤ z ∧ z ≤ 9223372036854775807 := fun z hz => by have := (rdyE_zero ha.2).2.2.2 z hz; omega
            have hwf2 : ∀ z ∈ zs ++ seedsOf (fewTo LK wo LK.length), -9223372036854775808 ≤ z ∧ z ≤ 9223372036854775807 := fun z hz => by have := (rdyE_zero hw.1).2.2.2 z hz; omega
            obtain ⟨a19, c19, hv19, t19⟩ := OwnInts.sliceN o19 hwf1 hN19.symm
            obtain ⟨N20, hN20⟩ : ∃ N, N = (zs ++ seedsOf (fewTo LK wo LK.length)).length := ⟨_, rfl⟩
            obtain ⟨a20, c20, hv20, t20⟩ := OwnInts.sliceN o20 hwf2 hN20.symm
            subst hv19
            subst hv20
            have k8 := srank_any f _ _ _ _ wr t19
            have k9 := fun W (hW : Lat wr W) => srank_any f _ _ _ _ W (t20.keep hW)
            rw [ha.1, ha.2, errv_zero rfl] at k8
            rw [hw.1, errv_zero rfl] at k9
            obtain ⟨r2, hr2⟩ : ∃ r, r = rankR f (zs ++ seedsOf (fewTo LK wo LK.length)) := ⟨_, rfl⟩
            rw [← hr2] at k9 hw
            have hlkI : (LK.length : Int) = (j : Int) := by rw [HLK.out]
            rw [hlkI] at hw
            have hw2 := hw.2
            have K8 := Lib.hid k8; have K9 := Lib.hid k9; have HW2 := Lib.hid hw2
            have d60 : decide ((60 : Int) < (N19 : Int)) = false := decide_eq_false (by omega)
            have dff : ((f : Int) == (f : Int)) = true := beq_self_eq_true _
            clear hrel o19 o20 hap hlat htk hfl hsl hN19 hN20 hN ha hw hw2 hwf1 hwf2 t19 t20 k8 k9 hr2 hlkI h60'
            go_wp2_with fail
            refine K8.out.mono ?_
            rintro x w10 ⟨rfl, hb10⟩
            have HB10 := Lib.hid hb10
            clear hb10
            go_wp2_with fail
            refine (K9.out _ HB10.out).mono ?_
            rintro x w11 ⟨rfl, hb11⟩
            have HB11 := Lib.hid (Lat.trans HLB.out (Lat.trans HB10.out hb11))
            clear hb11
            by_cases w0 : wo < 0
            · have d1 : decide (wo < 0) = true := decide_eq_true w0
              clear w0
              go_wp2
              go_ret
              exact ⟨rfl, HB11.out⟩
            · have d1 : decide (wo < 0) = false := decide_eq_false w0
              by_cases w1 : (j : Int) ≤ wo
              · have d2 : decide ((j : Int) ≤ wo) = true := decide_eq_true w1
                clear w0 w1
                go_wp2
                go_ret
                exact ⟨rfl, HB11.out⟩
              · have d2 : decide ((j : Int) ≤ wo) = false := decide_eq_false w1
                have hr2f := HW2.out (by omega) (by omega)
                have d3 : decide (r2 < f) = true := decide_eq_true hr2f
                clear w0 w1 hr2f
                go_wp2
                go_ret
                exact ⟨rfl, HB11.out⟩
  · rw [errv_pos h0]
    rintro x w2 ⟨rfl, hb2⟩
    have HB2 := Lib.hid (Lat.trans HB1.out hb2)
    clear h0 hb2 HK0 HB0 HK1 h
    go_wp2_with fail
    go_ret
    exact ⟨rfl, HB2.out⟩
end Go.Proofs.Ytbccpcpocbefgaa
