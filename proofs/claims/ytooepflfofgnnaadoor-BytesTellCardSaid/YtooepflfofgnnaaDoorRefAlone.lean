/- The contracts of dropref2.Alone and Told. -/
import Derived.Test.YtooepflfofgnnaaDoorRefPic
import Derived.Test.YtooepflfofgnnaaDoorAloneSame
namespace Go.Proofs.YtooepflfofgnnaaDoor
open Go.ChangeShapes Go.WideShapes Go.ChangeAt Go.RowKit

theorem refClamp (n : Int) (w : World) : Calls Tryd.prog 108 #[.int .i64 n, .int .i64 255] w fun e w' => e = .returned (.int .i64 (clamp n)) ∧ w = w' := refWithin n 255 w (by omega)
set_option maxHeartbeats 4000000 in
set_option maxRecDepth 100000 in
theorem refTold (wd hg s : Int) (a : Option Addr) (n cap : Nat) (rs : List Int) (w : World) (h : IntsAt w a n cap rs) :
    Calls Tryd.prog 88 #[.int .i64 wd, .int .i64 hg, .int .i64 s, .slice a n cap] w fun e w' => ∃ d g b m c, e = .returned (.tuple #[picV d g b m c, .int .i64 (dcE wd hg s rs)]) ∧
      (dcE wd hg s rs = 0 → d = wd ∧ g = hg ∧ m = n) ∧ (dcE wd hg s rs ≠ 0 → d = 0 ∧ g = 0 ∧ m = 0) ∧ IntsAt w' b m c (tolR wd hg s rs) ∧ Fresh w b m ∧ Lat w w' := by
  obtain ⟨W0, hW0⟩ : ∃ W, W = w.alloc (.cells #[.int .i64 0, .int .i64 0, .slice none 0 0] 132) := ⟨_, rfl⟩
  have hat : IntsAt W0 a n cap rs := by rw [hW0]; exact h.keep (Lat.alloc _ _)
  have hl0 : Lat w W0 := by rw [hW0]; exact Lat.alloc _ _
  have hc : Cells3 W0 w.heap.size 0 (.int .i64 0) (.int .i64 0) (.slice none 0 0) := by rw [hW0]; exact cells3_new rfl rfl rfl rfl
  have hf : ∀ k, W0.frozen? ⟨w.heap.size, k, none⟩ = false := fun k => by rw [hW0]; simp
  have hlr := h.len
  have hrc := refRests a n cap rs (wd * hg) W0 hat
  obtain ⟨E, hE⟩ : ∃ E, E = dcE wd hg s rs := ⟨_, rfl⟩
  obtain ⟨R, hR⟩ : ∃ R, R = tolR wd hg s rs := ⟨_, rfl⟩
  rw [← hE, ← hR]
  have HE := Lib.hid hE
  have HR := Lib.hid hR
  have HAT := Lib.hid hat
  have HL0 := Lib.hid hl0
  have HC := Lib.hid hc
  have HF := Lib.hid hf
  have HLR := Lib.hid hlr
  have hd : (decide (wd < 1) = true ∧ E = 1) ∨ (decide (wd < 1) = false ∧ decide (6 < wd) = true ∧ E = 1) ∨ (decide (wd < 1) = false ∧ decide (6 < wd) = false ∧ decide (hg < 1) = true ∧ E = 1) ∨ (decide (wd < 1) = false ∧ decide (6 < wd) = false ∧ decide (hg < 1) = false ∧ decide (6 < hg) = true ∧ E = 1) ∨
      (decide (wd < 1) = false ∧ decide (6 < wd) = false ∧ decide (hg < 1) = false ∧ decide (6 < hg) = false ∧ decide (s < 1) = true ∧ E = 1) ∨ (decide (wd < 1) = false ∧ decide (6 < wd) = false ∧ decide (hg < 1) = false ∧ decide (6 < hg) = false ∧ decide (s < 1) = false ∧ decide (64 < s) = true ∧ E = 1) ∨
      (decide (wd < 1) = false ∧ decide (6 < wd) = false ∧ decide (hg < 1) = false ∧ decide (6 < hg) = false ∧ decide (s < 1) = false ∧ decide (64 < s) = false ∧ (1 ≤ wd ∧ wd ≤ 6 ∧ 1 ≤ hg ∧ hg ≤ 6 ∧ 1 ≤ s ∧ s ≤ 64)) := by
    have hb : (sideB wd = false ∨ sideB hg = false ∨ stepB s = false) → E = 1 := fun q => by rw [hE]; unfold dcE; rw [if_pos q]
    by_cases p1 : wd < 1
    · exact .inl ⟨decide_eq_true p1, hb (.inl (by simp [sideB]; omega))⟩
    by_cases p2 : 6 < wd
    · exact .inr (.inl ⟨decide_eq_false p1, decide_eq_true p2, hb (.inl (by simp [sideB]; omega))⟩)
    by_cases p3 : hg < 1
    · exact .inr (.inr (.inl ⟨decide_eq_false p1, decide_eq_false p2, decide_eq_true p3, hb (.inr (.inl (by simp [sideB]; omega)))⟩))
    by_cases p4 : 6 < hg
    · exact .inr (.inr (.inr (.inl ⟨decide_eq_false p1, decide_eq_false p2, decide_eq_false p3, decide_eq_true p4, hb (.inr (.inl (by simp [sideB]; omega)))⟩)))
    by_cases p5 : s < 1
    · exact .inr (.inr (.inr (.inr (.inl ⟨decide_eq_false p1, decide_eq_false p2, decide_eq_false p3, decide_eq_false p4, decide_eq_true p5, hb (.inr (.inr (by simp [stepB]; omega)))⟩))))
    by_cases p6 : 64 < s
    · exact .inr (.inr (.inr (.inr (.inr (.inl ⟨decide_eq_false p1, decide_eq_false p2, decide_eq_false p3, decide_eq_false p4, decide_eq_false p5, decide_eq_true p6, hb (.inr (.inr (by simp [stepB]; omega)))⟩)))))
    · exact .inr (.inr (.inr (.inr (.inr (.inr ⟨decide_eq_false p1, decide_eq_false p2, decide_eq_false p3, decide_eq_false p4, decide_eq_false p5, decide_eq_false p6, by omega, by omega, by omega, by omega, by omega, by omega⟩)))))
  have Q := Lib.hid (three_set hc.c0 hc.c1 hc.c2 (.int .i64 0) (.int .i64 0) (.slice none 0 0))
  have HL3 := Lib.hid (lat_three hl0 (Nat.le_refl _) (.int .i64 0) (.int .i64 0) (.slice none 0 0))
  have hbadR : E ≠ 0 → R = [] := fun q => by rw [hR]; unfold tolR; rw [← hE, if_neg q]
  have HBR := Lib.hid hbadR
  clear h hat hl0 hc hf hlr hE hR hbadR
  rcases hd with ⟨d1, e1⟩ | ⟨d1, d2, e1⟩ | ⟨d1, d2, d3, e1⟩ | ⟨d1, d2, d3, d4, e1⟩ | ⟨d1, d2, d3, d4, d5, e1⟩ | ⟨d1, d2, d3, d4, d5, d6, e1⟩ | ⟨d1, d2, d3, d4, d5, d6, w1, w6, g1, g6, s1, s64⟩
  iterate 6
    · subst e1
      obtain rfl : R = [] := HBR.out (by omega)
      clear hrc HBR HE HR
      go_enter Tryd.func88, Tryd.ntmps88
      go_upto_region 1 with fail
      rw [← hW0]
      clear hW0
      have c0 := HC.out.c0
      have c1 := HC.out.c1
      have c2 := HC.out.c2
      have f0 := HF.out 0
      have f1 := HF.out 1
      have f2 := HF.out 2
      go_wp2
      exact bodyPost_ret (v := .tuple #[picV 0 0 none 0 0, .int .i64 1]) (by simp [results, Tryd.results88, go_sem, Q.out.1, Q.out.2.1, Q.out.2.2]) rfl ⟨0, 0, none, 0, 0, rfl, fun h => absurd h (by omega), fun _ => ⟨rfl, rfl, rfl⟩, IntsAt.nil _, fun _ _ _ _ _ hn => absurd rfl hn, HL3.out⟩
  have m1 : wd * hg ≤ 6 * 6 := Int.mul_le_mul w6 g6 (by omega) (by omega)
  have m0 : 0 ≤ wd * hg := Int.mul_nonneg (by omega) (by omega)
  have e0 : E = rstE rs (wd * hg) := by rw [HE.out]; unfold dcE; rw [if_neg (by simp [sideB, stepB]; omega)]
  rw [← e0] at hrc
  by_cases he : E = 0
  case neg =>
    obtain rfl : R = [] := HBR.out he
    have de : ((E : Int) != 0) = true := by rw [bne_iff_ne]; omega
    have HE0 := Lib.hid he
    have HRC := Lib.hid hrc
    clear hrc HBR HE HR he e0
    go_enter Tryd.func88, Tryd.ntmps88
    go_upto_region 1 with fail
    rw [← hW0]
    clear hW0
    have c0 := HC.out.c0
    have c1 := HC.out.c1
    have c2 := HC.out.c2
    have f0 := HF.out 0
    have f1 := HF.out 1
    have f2 := HF.out 2
    go_wp2_with fail
    refine HRC.out.mono ?_
    rintro e w' ⟨rfl, rfl⟩
    go_wp2
    exact bodyPost_ret (v := .tuple #[picV 0 0 none 0 0, .int .i64 E]) (by simp [results, Tryd.results88, go_sem, Q.out.1, Q.out.2.1, Q.out.2.2]) rfl ⟨0, 0, none, 0, 0, rfl, fun h => absurd h HE0.out, fun _ => ⟨rfl, rfl, rfl⟩, IntsAt.nil _, fun _ _ _ _ _ hn => absurd rfl hn, HL3.out⟩
  subst he
  have hre := rstE_zero e0.symm
  obtain ⟨hlen, hrs⟩ := hre
  obtain ⟨wn, rfl⟩ := Int.eq_ofNat_of_zero_le (show 0 ≤ wd by omega)
  have hn36 : n ≤ 36 := by have := HLR.out; omega
  have hRt : R = tel rs wn s n := by rw [HR.out]; unfold tolR; rw [← HE.out, if_pos rfl, HLR.out, Int.toNat_natCast]
  subst hRt
  have HRC := Lib.hid hrc
  have HRS := Lib.hid hrs
  clear hrc HBR HE HR e0 hlen hrs Q HL3
  go_enter Tryd.func88, Tryd.ntmps88
  go_upto_region 1 with fail
  rw [← hW0]
  clear hW0
  go_wp2_with fail
  refine HRC.out.mono ?_
  rintro e w' ⟨rfl, rfl⟩
  go_wp2_with fail
  go_loopw [11, 12] (fun told i wr => ∃ k : Nat, k ≤ n ∧ i = .int .i64 k ∧ Hid (OwnInts wr W0.heap.size told (tel rs wn s k) ∧ Lat W0 wr)) (fun _ i _ => n - (intOf i).toNat)
  case atStart => exact ⟨0, Nat.zero_le _, rfl, Own.nil _ _ _, Lat.refl _⟩
  case round =>
    obtain ⟨k, hk, rfl, hrel⟩ := hrel
    obtain ⟨o1, hb⟩ := hrel.out
    by_cases hlt : k < n
    · obtain ⟨ta, tc, rfl, ht⟩ := OwnInts.sliceN o1 (wf_pix (tel_pix rs wn s k)) (tel_len rs wn s k)
      obtain ⟨b1, p1', rfl, hc1⟩ := (HAT.out.keep hb).row.at_ (by omega)
      have c1 := hc1 k hlt
      have hrk := HRS.out _ (mem_getD rs k (by rw [HAT.out.len]; exact hlt))
      have hg := gss_bd (tel_pix rs wn s k) wn
      obtain ⟨R, hR⟩ : ∃ z, z = rs.getD k 0 := ⟨_, rfl⟩
      obtain ⟨G, hG⟩ : ∃ g, g = gss (tel rs wn s k) wn := ⟨_, rfl⟩
      rw [← hR] at c1 hrk
      rw [← hG] at hg
      have hm := mul_bd R s hrk.1 hrk.2 s1 s64
      obtain ⟨T, hT⟩ : ∃ t, t = clamp (G + R * s) := ⟨_, rfl⟩
      have hst2 : tel rs wn s (k + 1) = tel rs wn s k ++ [T] := by rw [tel, ← hG, ← hR, ← hT]
      have hlen2 : (tel rs wn s k).length < 1000000000000 := by rw [tel_len]; omega
      have HT := Lib.hid hT
      have HG := Lib.hid hG
      have HO1 := Lib.hid o1
      have HB := Lib.hid hb
      have HTA := Lib.hid ht
      have HS2 := Lib.hid hst2
      have HL2 := Lib.hid hlen2
      clear hT hR hG o1 hb ht hst2 hlen2 hrel hc1
      go_wp2_with fail
      refine (refGuess ta k tc (tel rs wn s k) wn _ HTA.out (by omega) (by omega)).mono ?_
      rw [← HG.out]
      rintro e w' ⟨rfl, rfl⟩
      go_wp2_with fail
      refine (refClamp (G + R * s) _).mono ?_
      rw [← HT.out]
      rintro e w' ⟨rfl, rfl⟩
      go_wp2_with (at_builtin; refine app_int wr W0 _ rfl _ _ rfl _ _ _ rfl HO1.out rfl HL2.out rfl HB.out ?_)
      intro told' w3 hown3 hb3 hstep3
      have HOW3 := Lib.hid hown3
      have HB3 := Lib.hid hb3
      clear hown3 hb3 hstep3
      go_wp2
      go_roundw
      case rel => exact ⟨k + 1, by omega, by go_num, by rw [HS2.out]; exact HOW3.out, HB3.out⟩
      case measure => simp [intOf]; omega
    · obtain rfl : k = n := by omega
      have hlt := Own.lt o1
      obtain ⟨ta, tc, rfl, ht⟩ := OwnInts.sliceN o1 (wf_pix (tel_pix rs wn s k)) (tel_len rs wn s k)
      have c0 := hb.cell_at HC.out.c0
      have c1 := hb.cell_at HC.out.c1
      have c2 := hb.cell_at HC.out.c2
      have hw0 : w.heap.size < W0.heap.size := World.block_lt_of_cell? _ _ HC.out.c0
      have f0 := hb.free_at hw0 (HF.out 0)
      have f1 := hb.free_at hw0 (HF.out 1)
      have f2 := hb.free_at hw0 (HF.out 2)
      have Q := Lib.hid (three_set c0 c1 c2 (.int .i64 wn) (.int .i64 hg) (.slice ta k tc))
      have HT3 := Lib.hid (ints_three (g := w.heap.size) ht (own_ne o1 hw0) (.int .i64 wn) (.int .i64 hg) (.slice ta k tc))
      have HFR := Lib.hid (Fresh.of o1 HL0.out.size)
      have HLAT := Lib.hid (lat_three (Lat.trans HL0.out hb) (Nat.le_refl _) (.int .i64 wn) (.int .i64 hg) (.slice ta k tc))
      clear ht hrel o1 hb hlt
      go_wp2
      exact bodyPost_ret (v := .tuple #[picV wn hg ta k tc, .int .i64 0]) (by simp [results, Tryd.results88, go_sem, Q.out.1, Q.out.2.1, Q.out.2.2]) rfl ⟨wn, hg, ta, k, tc, rfl, fun _ => ⟨rfl, rfl, rfl⟩, fun h => absurd rfl h, HT3.out, HFR.out, HLAT.out⟩
end Go.Proofs.YtooepflfofgnnaaDoor
