/- The walk of GuardTells: it returns true, whatever it is asked. -/
import Derived.Test.YtpaoiebngbfbpaaDoorGuardAny
import Derived.Test.YtpaoiebngbfbpaaDoorSame
import Derived.Test.YtpaoiebngbfbpaaDoorSameStrs
namespace Go.Proofs.YtpaoiebngbfbpaaDoor
open Go.ChangeShapes Go.WideShapes Go.ChangeAt Go.RowKit

set_option maxHeartbeats 4000000 in
set_option maxRecDepth 100000 in
theorem walk_guardTells (a : Option Addr) (n cap : Nat) (ls : List ByteArray) (e : Int) (b : Option Addr) (k bcap : Nat) (ms : List ByteArray) (d : Option Addr) (q dcap : Nat) (lk : List Bool) (w : World) (hgn : Hnd w) (h : StrsAt w a n cap ls) (_ : (Lit.int .i64 e).wf = true) (h2 : StrsAt w b k bcap ms) (h3 : BoolsAt w d q dcap lk) :
    Calls Tryd.prog 3 #[.slice a n cap, .int .i64 e, .slice b k bcap, .slice d q dcap] w fun x w' => x = .returned (.bool true) ∧ Lat w w' := by
  have hlen := h.len
  have hAE : addE ls e = if chk ls ≠ 0 then chk ls else if e < 1 ∨ 16 < e then 1 else if 16 < ls.length + grps ls.length e.toNat then 4 else 0 := rfl
  have hAL : addL ls e = if addE ls e = 0 then addS ls e.toNat else [] := rfl
  obtain ⟨AE, hAEd⟩ : ∃ x, x = addE ls e := ⟨_, rfl⟩
  obtain ⟨AL, hALd⟩ : ∃ x, x = addL ls e := ⟨_, rfl⟩
  obtain ⟨HE, hHEd⟩ : ∃ x, x = healE ms lk e := ⟨_, rfl⟩
  obtain ⟨HLs, hHLd⟩ : ∃ x, x = healL ms lk e := ⟨_, rfl⟩
  have k1 := fun W (hW : Lat w W) => add_any a n cap ls e W (h.keep hW)
  have k2 := fun W (hW : Lat w W) => refHeal_all b k bcap ms d q dcap lk e W (h2.keep hW) (h3.keep hW)
  have k3 := fun W (hW : Lat w W) => Heal_all b k bcap ms d q dcap lk e W (h2.keep hW) (h3.keep hW)
  rw [← hAEd] at hAE hAL
  rw [← hALd] at hAL
  simp only [← hAEd, ← hALd, ← hHEd, ← hHLd] at k1 k2 k3
  have H := Lib.hid h; have HG := Lib.hid hgn; have K1 := Lib.hid k1; have K2 := Lib.hid k2; have K3 := Lib.hid k3
  obtain ⟨C, hC⟩ : ∃ C, C = chk ls := ⟨_, rfl⟩
  have kb := fun W (hW : Lat w W) => refBlocks a n cap ls W (h.keep hW)
  simp only [← hC] at kb
  rw [← hC] at hAE
  have KB := Lib.hid kb
  have HCK := Lib.hid hC
  clear h h2 h3 hgn k1 k2 k3 kb hAEd hALd hHEd hHLd hC
  go_enter Tryd.func3, Tryd.ntmps3
  go_wp2_with fail
  refine (KB.out w (Lat.refl w)).mono ?_
  rintro x w1 ⟨rfl, hb1⟩
  have HB1 := Lib.hid hb1
  clear hb1
  by_cases c1 : C ≠ 0
  · have hE : AE = C := by rw [hAE, if_pos c1]
    subst hE
    rw [if_neg c1] at hAL
    have HNL : Hid (StrsAt w1 none 0 0 AL) := by rw [hAL]; exact StrsAt.nil _
    have d0 : ((AE : Int) == 0) = false := beq_eq_false_iff_ne.2 (by omega)
    clear hAE hAL
    go_wp2_with fail
    refine (K1.out w1 HB1.out).mono ?_
    rintro x w3 ⟨⟨xa, xk, xc, rfl, hx⟩, hb3⟩
    obtain rfl : xk = 0 := by rw [← hx.len, ← HNL.out.len]
    have HX := Lib.hid hx; have HW3 := Lib.hid (StrsAt.keep HNL.out hb3); have HB3 := Lib.hid (Lat.trans HB1.out hb3)
    clear hx hb3
    go_wp2_with fail
    refine (sameErr_any AE _ (HG.out.keep HB3.out)).mono ?_
    rintro x w4 ⟨rfl, hb4⟩
    have HX4 := Lib.hid (HX.out.keep hb4); have HW4 := Lib.hid (HW3.out.keep hb4); have HB4 := Lib.hid (Lat.trans HB3.out hb4)
    clear hb4
    go_wp2_with fail
    refine (sameStrs_yes xa 0 xc AL none 0 _ HX4.out HW4.out).mono ?_
    rintro x w5 ⟨rfl, hb5⟩
    have HB5 := Lib.hid (Lat.trans HB4.out hb5)
    clear hb5
    go_wp2_with fail
    refine (K2.out _ HB5.out).mono ?_
    rintro x w6 ⟨⟨ra, rk, rc, rfl, hr⟩, hb6⟩
    have HR := Lib.hid hr; have HB6 := Lib.hid (Lat.trans HB5.out hb6)
    clear hr hb6
    go_wp2_with fail
    refine (K3.out _ HB6.out).mono ?_
    rintro x w7 ⟨⟨ha, hk, hc, rfl, hh⟩, hb7⟩
    obtain rfl : hk = rk := by rw [← hh.len, ← HR.out.len]
    have HH := Lib.hid hh; have HR7 := Lib.hid (HR.out.keep hb7); have HB7 := Lib.hid (Lat.trans HB6.out hb7)
    clear hh hb7
    go_wp2_with fail
    refine (sameErr_any HE _ (HG.out.keep HB7.out)).mono ?_
    rintro x w8 ⟨rfl, hb8⟩
    have HH8 := Lib.hid (HH.out.keep hb8); have HR8 := Lib.hid (HR7.out.keep hb8); have HB8 := Lib.hid (Lat.trans HB7.out hb8)
    clear hb8
    go_wp2_with fail
    refine (sameStrs_yes ha hk hc HLs ra rc _ HH8.out HR8.out).mono ?_
    rintro x w9 ⟨rfl, hb9⟩
    have HB9 := Lib.hid (Lat.trans HB8.out hb9)
    clear hb9
    go_wp2_with fail
    go_ret
    exact ⟨rfl, HB9.out⟩
  obtain rfl : C = 0 := by omega
  rw [if_neg (by omega)] at hAE
  by_cases c2 : e < 1 ∨ 16 < e
  · rw [if_pos c2] at hAE
    subst hAE
    rw [if_neg (by omega)] at hAL
    have HNL : Hid (StrsAt w1 none 0 0 AL) := by rw [hAL]; exact StrsAt.nil _
    clear hAL c1
    rcases c2 with c2 | c2
    · have d1 : decide (e < 1) = true := decide_eq_true c2
      go_wp2_with fail
      refine (K1.out w1 HB1.out).mono ?_
      rintro x w3 ⟨⟨xa, xk, xc, rfl, hx⟩, hb3⟩
      obtain rfl : xk = 0 := by rw [← hx.len, ← HNL.out.len]
      have HX := Lib.hid hx; have HW3 := Lib.hid (StrsAt.keep HNL.out hb3); have HB3 := Lib.hid (Lat.trans HB1.out hb3)
      clear hx hb3
      go_wp2_with fail
      refine (sameErr_any 1 _ (HG.out.keep HB3.out)).mono ?_
      rintro x w4 ⟨rfl, hb4⟩
      have HX4 := Lib.hid (HX.out.keep hb4); have HW4 := Lib.hid (HW3.out.keep hb4); have HB4 := Lib.hid (Lat.trans HB3.out hb4)
      clear hb4
      go_wp2_with fail
      refine (sameStrs_yes xa 0 xc AL none 0 _ HX4.out HW4.out).mono ?_
      rintro x w5 ⟨rfl, hb5⟩
      have HB5 := Lib.hid (Lat.trans HB4.out hb5)
      clear hb5
      go_wp2_with fail
      refine (K2.out _ HB5.out).mono ?_
      rintro x w6 ⟨⟨ra, rk, rc, rfl, hr⟩, hb6⟩
      have HR := Lib.hid hr; have HB6 := Lib.hid (Lat.trans HB5.out hb6)
      clear hr hb6
      go_wp2_with fail
      refine (K3.out _ HB6.out).mono ?_
      rintro x w7 ⟨⟨ha, hk, hc, rfl, hh⟩, hb7⟩
      obtain rfl : hk = rk := by rw [← hh.len, ← HR.out.len]
      have HH := Lib.hid hh; have HR7 := Lib.hid (HR.out.keep hb7); have HB7 := Lib.hid (Lat.trans HB6.out hb7)
      clear hh hb7
      go_wp2_with fail
      refine (sameErr_any HE _ (HG.out.keep HB7.out)).mono ?_
      rintro x w8 ⟨rfl, hb8⟩
      have HH8 := Lib.hid (HH.out.keep hb8); have HR8 := Lib.hid (HR7.out.keep hb8); have HB8 := Lib.hid (Lat.trans HB7.out hb8)
      clear hb8
      go_wp2_with fail
      refine (sameStrs_yes ha hk hc HLs ra rc _ HH8.out HR8.out).mono ?_
      rintro x w9 ⟨rfl, hb9⟩
      have HB9 := Lib.hid (Lat.trans HB8.out hb9)
      clear hb9
      go_wp2_with fail
      go_ret
      exact ⟨rfl, HB9.out⟩
    · have d1 : decide (e < 1) = false := decide_eq_false (by omega)
      have d2 : decide (16 < e) = true := decide_eq_true c2
      go_wp2_with fail
      refine (K1.out w1 HB1.out).mono ?_
      rintro x w3 ⟨⟨xa, xk, xc, rfl, hx⟩, hb3⟩
      obtain rfl : xk = 0 := by rw [← hx.len, ← HNL.out.len]
      have HX := Lib.hid hx; have HW3 := Lib.hid (StrsAt.keep HNL.out hb3); have HB3 := Lib.hid (Lat.trans HB1.out hb3)
      clear hx hb3
      go_wp2_with fail
      refine (sameErr_any 1 _ (HG.out.keep HB3.out)).mono ?_
      rintro x w4 ⟨rfl, hb4⟩
      have HX4 := Lib.hid (HX.out.keep hb4); have HW4 := Lib.hid (HW3.out.keep hb4); have HB4 := Lib.hid (Lat.trans HB3.out hb4)
      clear hb4
      go_wp2_with fail
      refine (sameStrs_yes xa 0 xc AL none 0 _ HX4.out HW4.out).mono ?_
      rintro x w5 ⟨rfl, hb5⟩
      have HB5 := Lib.hid (Lat.trans HB4.out hb5)
      clear hb5
      go_wp2_with fail
      refine (K2.out _ HB5.out).mono ?_
      rintro x w6 ⟨⟨ra, rk, rc, rfl, hr⟩, hb6⟩
      have HR := Lib.hid hr; have HB6 := Lib.hid (Lat.trans HB5.out hb6)
      clear hr hb6
      go_wp2_with fail
      refine (K3.out _ HB6.out).mono ?_
      rintro x w7 ⟨⟨ha, hk, hc, rfl, hh⟩, hb7⟩
      obtain rfl : hk = rk := by rw [← hh.len, ← HR.out.len]
      have HH := Lib.hid hh; have HR7 := Lib.hid (HR.out.keep hb7); have HB7 := Lib.hid (Lat.trans HB6.out hb7)
      clear hh hb7
      go_wp2_with fail
      refine (sameErr_any HE _ (HG.out.keep HB7.out)).mono ?_
      rintro x w8 ⟨rfl, hb8⟩
      have HH8 := Lib.hid (HH.out.keep hb8); have HR8 := Lib.hid (HR7.out.keep hb8); have HB8 := Lib.hid (Lat.trans HB7.out hb8)
      clear hb8
      go_wp2_with fail
      refine (sameStrs_yes ha hk hc HLs ra rc _ HH8.out HR8.out).mono ?_
      rintro x w9 ⟨rfl, hb9⟩
      have HB9 := Lib.hid (Lat.trans HB8.out hb9)
      clear hb9
      go_wp2_with fail
      go_ret
      exact ⟨rfl, HB9.out⟩
  rw [if_neg c2] at hAE
  obtain ⟨f, rfl⟩ : ∃ f : Nat, e = f := ⟨e.toNat, by omega⟩
  rw [Int.toNat_natCast] at hAE hAL
  have d1 : decide ((f : Int) < 1) = false := decide_eq_false (by omega)
  have d2 : decide ((16 : Int) < (f : Int)) = false := decide_eq_false (by omega)
  have hck := chk_ok HCK.out.symm
  have hn16 : n ≤ 16 := by have := hck.most; omega
  have hgr := fun W => refGroups n f W (by omega) (by omega) (by omega)
  have hgm := (grps_mul n f (by omega)).2
  have hgk : grps n f ≤ grps n f * f := Nat.le_mul_of_pos_right _ (by omega)
  rw [hlen] at hAE
  have hra := fun W (hW : Lat w W) => refAdd a n cap ls f W (H.out.keep hW) HCK.out.symm (by omega) (by omega)
  have hls := fun s hs => addS_sizes hck f s hs
  have h8 := hck.eight
  obtain ⟨G, hG⟩ : ∃ G, G = grps n f := ⟨_, rfl⟩
  rw [← hG] at hAE hgr hgm hgk
  have hG2 : G ≤ 1000 := by omega
  have HGR := Lib.hid hgr; have HRA := Lib.hid hra; have HLS := Lib.hid hls; have H8 := Lib.hid h8
  clear hgr hgm hgk hck hG hra hls h8 c1 c2 hlen
  by_cases c3 : 16 < n + G
  · rw [if_pos c3] at hAE
    subst hAE
    rw [if_neg (by omega)] at hAL
    have HNL : Hid (StrsAt w1 none 0 0 AL) := by rw [hAL]; exact StrsAt.nil _
    have d3 : decide ((16 : Int) < (n : Int) + (G : Int)) = true := decide_eq_true (by omega)
    clear hAL
    go_wp2_with fail
    refine (HGR.out _).mono ?_
    rintro x w2 ⟨rfl, rfl⟩
    go_wp2_with fail
    refine (K1.out w1 HB1.out).mono ?_
    rintro x w3 ⟨⟨xa, xk, xc, rfl, hx⟩, hb3⟩
    obtain rfl : xk = 0 := by rw [← hx.len, ← HNL.out.len]
    have HX := Lib.hid hx; have HW3 := Lib.hid (StrsAt.keep HNL.out hb3); have HB3 := Lib.hid (Lat.trans HB1.out hb3)
    clear hx hb3
    go_wp2_with fail
    refine (sameErr_any 4 _ (HG.out.keep HB3.out)).mono ?_
    rintro x w4 ⟨rfl, hb4⟩
    have HX4 := Lib.hid (HX.out.keep hb4); have HW4 := Lib.hid (HW3.out.keep hb4); have HB4 := Lib.hid (Lat.trans HB3.out hb4)
    clear hb4
    go_wp2_with fail
    refine (sameStrs_yes xa 0 xc AL none 0 _ HX4.out HW4.out).mono ?_
    rintro x w5 ⟨rfl, hb5⟩
    have HB5 := Lib.hid (Lat.trans HB4.out hb5)
    clear hb5
    go_wp2_with fail
    refine (K2.out _ HB5.out).mono ?_
    rintro x w6 ⟨⟨ra, rk, rc, rfl, hr⟩, hb6⟩
    have HR := Lib.hid hr; have HB6 := Lib.hid (Lat.trans HB5.out hb6)
    clear hr hb6
    go_wp2_with fail
    refine (K3.out _ HB6.out).mono ?_
    rintro x w7 ⟨⟨ha, hk, hc, rfl, hh⟩, hb7⟩
    obtain rfl : hk = rk := by rw [← hh.len, ← HR.out.len]
    have HH := Lib.hid hh; have HR7 := Lib.hid (HR.out.keep hb7); have HB7 := Lib.hid (Lat.trans HB6.out hb7)
    clear hh hb7
    go_wp2_with fail
    refine (sameErr_any HE _ (HG.out.keep HB7.out)).mono ?_
    rintro x w8 ⟨rfl, hb8⟩
    have HH8 := Lib.hid (HH.out.keep hb8); have HR8 := Lib.hid (HR7.out.keep hb8); have HB8 := Lib.hid (Lat.trans HB7.out hb8)
    clear hb8
    go_wp2_with fail
    refine (sameStrs_yes ha hk hc HLs ra rc _ HH8.out HR8.out).mono ?_
    rintro x w9 ⟨rfl, hb9⟩
    have HB9 := Lib.hid (Lat.trans HB8.out hb9)
    clear hb9
    go_wp2_with fail
    go_ret
    exact ⟨rfl, HB9.out⟩
  · rw [if_neg c3] at hAE
    subst hAE
    rw [if_pos rfl] at hAL
    have d3 : decide ((16 : Int) < (n : Int) + (G : Int)) = false := decide_eq_false (by omega)
    have HAL := Lib.hid hAL
    clear hAL
    go_wp2_with fail
    refine (HGR.out _).mono ?_
    rintro x w2 ⟨rfl, rfl⟩
    go_wp2_with fail
    refine (HRA.out _ HB1.out).mono ?_
    rintro x w2 ⟨v2, rfl, hov, hb2⟩
    obtain ⟨wa, wc, rfl, hat⟩ := OwnStrs.slice hov (fun s hs => by rw [HLS.out s hs]; have := H8.out; unfold maxLen; omega)
    obtain ⟨wk, hwk⟩ : ∃ x, x = (addS ls f).length := ⟨_, rfl⟩
    rw [← hwk, ← HAL.out] at hat
    rw [← hwk]
    have HNL := Lib.hid hat; have HB2 := Lib.hid (Lat.trans HB1.out hb2)
    clear hov hb2 hat hwk
    go_wp2_with fail
    refine (K1.out w2 HB2.out).mono ?_
    rintro x w3 ⟨⟨xa, xk, xc, rfl, hx⟩, hb3⟩
    obtain rfl : xk = wk := by rw [← hx.len, ← HNL.out.len]
    have HX := Lib.hid hx; have HW3 := Lib.hid (StrsAt.keep HNL.out hb3); have HB3 := Lib.hid (Lat.trans HB2.out hb3)
    clear hx hb3
    go_wp2_with fail
    refine (sameErr_any 0 _ (HG.out.keep HB3.out)).mono ?_
    rintro x w4 ⟨rfl, hb4⟩
    have HX4 := Lib.hid (HX.out.keep hb4); have HW4 := Lib.hid (HW3.out.keep hb4); have HB4 := Lib.hid (Lat.trans HB3.out hb4)
    clear hb4
    go_wp2_with fail
    refine (sameStrs_yes xa xk xc AL wa wc _ HX4.out HW4.out).mono ?_
    rintro x w5 ⟨rfl, hb5⟩
    have HB5 := Lib.hid (Lat.trans HB4.out hb5)
    clear hb5
    go_wp2_with fail
    refine (K2.out _ HB5.out).mono ?_
    rintro x w6 ⟨⟨ra, rk, rc, rfl, hr⟩, hb6⟩
    have HR := Lib.hid hr; have HB6 := Lib.hid (Lat.trans HB5.out hb6)
    clear hr hb6
    go_wp2_with fail
    refine (K3.out _ HB6.out).mono ?_
    rintro x w7 ⟨⟨ha, hk, hc, rfl, hh⟩, hb7⟩
    obtain rfl : hk = rk := by rw [← hh.len, ← HR.out.len]
    have HH := Lib.hid hh; have HR7 := Lib.hid (HR.out.keep hb7); have HB7 := Lib.hid (Lat.trans HB6.out hb7)
    clear hh hb7
    go_wp2_with fail
    refine (sameErr_any HE _ (HG.out.keep HB7.out)).mono ?_
    rintro x w8 ⟨rfl, hb8⟩
    have HH8 := Lib.hid (HH.out.keep hb8); have HR8 := Lib.hid (HR7.out.keep hb8); have HB8 := Lib.hid (Lat.trans HB7.out hb8)
    clear hb8
    go_wp2_with fail
    refine (sameStrs_yes ha hk hc HLs ra rc _ HH8.out HR8.out).mono ?_
    rintro x w9 ⟨rfl, hb9⟩
    have HB9 := Lib.hid (Lat.trans HB8.out hb9)
    clear hb9
    go_wp2_with fail
    go_ret
    exact ⟨rfl, HB9.out⟩
end Go.Proofs.YtpaoiebngbfbpaaDoor
