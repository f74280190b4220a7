/- The contracts of alone.Code, Encode, Decode. -/
import Derived.Test.YtnnjijdpenifjaaDoorAlone
import Derived.Test.YtnnjijdpenifjaaDoorAppG
import Derived.Deep.DeepCutAuto
import Derived.Deep.CutBlock
namespace Go.Proofs.YtnnjijdpenifjaaDoor
open Go.ChangeShapes Go.WideShapes Go.ChangeAt Go.RowKit

theorem wf_small {zs : List Int} (h : ∀ z ∈ zs, -255 ≤ z ∧ z ≤ 255) : ∀ z ∈ zs, -9223372036854775808 ≤ z ∧ z ≤ 9223372036854775807 := fun z hz => by have := h z hz; omega
theorem wf_pix {zs : List Int} (h : ∀ z ∈ zs, 0 ≤ z ∧ z ≤ 255) : ∀ z ∈ zs, -9223372036854775808 ≤ z ∧ z ≤ 9223372036854775807 := fun z hz => by have := h z hz; omega

set_option maxHeartbeats 1000000 in
set_option maxRecDepth 100000 in
theorem code_anyF (wd hg : Int) (a : Option Addr) (n cap : Nat) (zs : List Int) (s : Int) (w : World) (h : IntsAt w a n cap zs) (hok : PicOk wd hg zs) (hs : 1 ≤ s) (hs2 : s ≤ 64) :
    Calls Tryd.prog 57 #[picV wd hg a n cap, .int .i64 s] w fun e w' => ∃ b c, e = .returned (.slice b n c) ∧ IntsAt w' b n c (cod zs wd.toNat s n).1 ∧ Fresh w b n ∧ Lat w w' := by
  obtain ⟨wn, rfl⟩ := Int.eq_ofNat_of_zero_le (show 0 ≤ wd by have := hok.w1; omega)
  have w1 := hok.w1
  have w6 := hok.w6
  have hl36 := hok.len_le
  have hl := h.len
  have hpix := hok.pix
  rw [Int.toNat_natCast]
  have hn36 : n ≤ 36 := by omega
  have HP := Lib.hid hpix
  obtain ⟨W0, hW0⟩ : ∃ W, W = w.alloc (.cells #[.int .i64 wn, .int .i64 hg, .slice a n cap] 24) := ⟨_, rfl⟩
  have hat : IntsAt W0 a n cap zs := by rw [hW0]; exact h.keep (Lat.alloc _ _)
  have hl0 : Lat w W0 := by rw [hW0]; exact Lat.alloc _ _
  have k0 : W0.cell? ⟨w.heap.size, 0, none⟩ = some (.int .i64 wn) := by rw [hW0]; simp
  have k2 : W0.cell? ⟨w.heap.size, 2, none⟩ = some (.slice a n cap) := by rw [hW0]; simp
  have HAT := Lib.hid hat
  have HL0 := Lib.hid hl0
  have K0 := Lib.hid k0
  clear h hok hl hl36 hpix hat hl0 k0
  go_enter Tryd.func57, Tryd.ntmps57
  go_upto_region 1 with fail
  rw [← hW0]
  clear hW0
  go_wp2_with fail
  go_loopw [5, 6, 14] (fun told out i wr => ∃ k : Nat, k ≤ n ∧ i = .int .i64 k ∧ Hid (OwnInts wr W0.heap.size told (cod zs wn s k).2 ∧ OwnInts wr W0.heap.size out (cod zs wn s k).1 ∧ Apart told out ∧ Lat W0 wr)) (fun _ _ i _ => n - (intOf i).toNat)
  case atStart => exact ⟨0, Nat.zero_le _, rfl, Own.nil _ _ _, Own.nil _ _ _, Apart.nil _, Lat.refl _⟩
  case round =>
    obtain ⟨k, hk, rfl, hrel⟩ := hrel
    obtain ⟨o1, o2, hap, hb⟩ := hrel.out
    by_cases hlt : k < n
    · obtain ⟨ta, tc, rfl, ht⟩ := OwnInts.sliceN o1 (wf_pix (cod_pix zs wn s k)) (cod_len zs wn s k).2
      obtain ⟨b1, p1, rfl, hc1⟩ := (HAT.out.keep hb).row.at_ (by omega)
      have c1 := hc1 k hlt
      have c0 := hb.cell_at K0.out
      have hz := getD_pix HP.out k
      have hg := gss_bd (cod_pix zs wn s k) wn
      obtain ⟨z, hzd⟩ : ∃ z, z = zs.getD k 0 := ⟨_, rfl⟩
      obtain ⟨G, hG⟩ : ∃ g, g = gss (cod zs wn s k).2 wn := ⟨_, rfl⟩
      rw [← hzd] at c1 hz
      rw [← hG] at hg
      have hr := near_bd (z - G) s hs 255 (by omega) (by omega)
      obtain ⟨R, hR⟩ : ∃ r, r = near (z - G) s := ⟨_, rfl⟩
      rw [← hR] at hr
      have hm := mul_bd R s hr.1 hr.2 hs hs2
      obtain ⟨T, hT⟩ : ∃ t, t = clamp (G + R * s) := ⟨_, rfl⟩
      have hst1 : (cod zs wn s (k + 1)).1 = (cod zs wn s k).1 ++ [R] := by rw [cod, ← hG, ← hzd, ← hR]
      have hst2 : (cod zs wn s (k + 1)).2 = (cod zs wn s k).2 ++ [T] := by rw [cod, ← hG, ← hzd, ← hR, ← hT]
      have hlen1 : (cod zs wn s k).1.length < 1000000000000 := by rw [(cod_len zs wn s k).1]; omega
      have hlen2 : (cod zs wn s k).2.length < 1000000000000 := by rw [(cod_len zs wn s k).2]; omega
      have HT := Lib.hid hT
      have HR := Lib.hid hR
      have HG := Lib.hid hG
      have HO1 := Lib.hid o1
      have HO2 := Lib.hid o2
      have HAP := Lib.hid hap
      have HB := Lib.hid hb
      have HTA := Lib.hid ht
      have HS1 := Lib.hid hst1
      have HS2 := Lib.hid hst2
      have HL1 := Lib.hid hlen1
      have HL2 := Lib.hid hlen2
      clear hT hR hG o1 o2 hap hb ht hst1 hst2 hlen1 hlen2 hzd hrel hc1
      go_wp2_with fail
      refine (guess_any ta k tc (cod zs wn s k).2 wn _ HTA.out (by omega) (by omega)).mono ?_
      rw [← HG.out]
      rintro e w' ⟨rfl, rfl⟩
      go_wp2_with fail
      refine (near_any (z - G) s _ (by omega) (by omega) hs hs2).mono ?_
      rw [← HR.out]
      rintro e w' ⟨rfl, rfl⟩
      go_wp2_with (at_builtin; refine app_int wr W0 _ rfl _ _ rfl _ _ _ rfl HO2.out rfl HL1.out rfl HB.out ?_)
      intro out' w2 hown2 hb2 hstep
      have hoth := AppStep.other hstep HO1.out (Apart.symm HAP.out)
      have HOT := Lib.hid hoth.1
      have HAP2 := Lib.hid hoth.2
      have HOW := Lib.hid hown2
      have HB2 := Lib.hid hb2
      clear hoth hown2 hb2 hstep
      go_wp2_with fail
      refine (clamp_any (G + R * s) _).mono ?_
      rw [← HT.out]
      rintro e w' ⟨rfl, rfl⟩
      go_wp2_with (at_builtin; refine app_int w2 W0 _ rfl _ _ rfl _ _ _ rfl HOT.out rfl HL2.out rfl HB2.out ?_)
      intro told' w3 hown3 hb3 hstep3
      have hoth3 := AppStep.other hstep3 HOW.out (Apart.symm HAP2.out)
      have HOT3 := Lib.hid hoth3.1
      have HAP3 := Lib.hid hoth3.2
      have HOW3 := Lib.hid hown3
      have HB3 := Lib.hid hb3
      clear hoth3 hown3 hb3 hstep3
      go_wp2
      go_roundw
      case rel => exact ⟨k + 1, by omega, by go_num, by rw [HS2.out]; exact HOW3.out, by rw [HS1.out]; exact HOT3.out, HAP3.out, HB3.out⟩
      case measure => simp [intOf]; omega
    · obtain rfl : k = n := by omega
      obtain ⟨ta, tc, rfl, ht⟩ := OwnInts.sliceN o2 (wf_small (cod_bd zs wn s hs HP.out k)) (cod_len zs wn s k).1
      have HFR := Lib.hid (Fresh.of o2 HL0.out.size)
      have HTA := Lib.hid ht
      have HB := Lib.hid hb
      clear ht hrel o1 o2 hap hb
      go_wp2
      go_ret
      exact ⟨ta, tc, rfl, HTA.out, HFR.out, Lat.trans HL0.out HB.out⟩
theorem code_any (wd hg : Int) (a : Option Addr) (n cap : Nat) (zs : List Int) (s : Int) (w : World) (h : IntsAt w a n cap zs) (hok : PicOk wd hg zs) (hs : 1 ≤ s) (hs2 : s ≤ 64) :
    Calls Tryd.prog 57 #[picV wd hg a n cap, .int .i64 s] w fun e w' => ∃ b c, e = .returned (.slice b n c) ∧ IntsAt w' b n c (cod zs wd.toNat s n).1 ∧ Lat w w' := by
  exact (code_anyF wd hg a n cap zs s w h hok hs hs2).mono fun _ _ ⟨b, c, h1, h2, _, h3⟩ => ⟨b, c, h1, h2, h3⟩
end Go.Proofs.YtnnjijdpenifjaaDoor
