/- The contracts of picture.Unlike; dropsame.Ints, dropsame.Picture, whatever they answer. -/
import Derived.Test.YtnnjijdpenifjaaDoorPic2
namespace Go.Proofs.YtnnjijdpenifjaaDoor
open Go.ChangeShapes Go.WideShapes Go.ChangeAt Go.RowKit

set_option maxHeartbeats 1000000 in
theorem unlike_bad (wd hg : Int) (a : Option Addr) (n cap : Nat) (zs : List Int) (wd2 hg2 : Int) (b : Option Addr) (m cap2 : Nat) (ys : List Int) (w : World) (h : IntsAt w a n cap zs) (h2 : IntsAt w b m cap2 ys) (he : alkE wd hg zs wd2 hg2 ys ≠ 0) :
    Calls Tryd.prog 29 #[picV wd hg a n cap, picV wd2 hg2 b m cap2] w fun e w' => e = .returned (.tuple #[.int .i64 0, eno (alkE wd hg zs wd2 hg2 ys)]) ∧ Lat w w' := by
  have hL := Lat.trans (Lat.alloc w (.cells #[.int .i64 wd, .int .i64 hg, .slice a n cap] 24)) (Lat.alloc _ (.cells #[.int .i64 wd2, .int .i64 hg2, .slice b m cap2] 24))
  have hc := alike_any wd hg a n cap zs wd2 hg2 b m cap2 ys _ (h.keep hL) (h2.keep hL)
  rw [errv_pos he] at hc
  have HC := Lib.hid hc
  have HL := Lib.hid hL
  clear hc hL h h2 he
  go_enter Tryd.func29, Tryd.ntmps29
  go_wp2_with fail
  refine HC.out.mono ?_
  rintro e w1 ⟨rfl, hb1⟩
  go_wp2
  go_ret2
  exact ⟨rfl, Lat.trans HL.out hb1⟩

set_option maxHeartbeats 1000000 in
theorem unlike_ok (wd hg : Int) (a : Option Addr) (n cap : Nat) (zs : List Int) (wd2 hg2 : Int) (b : Option Addr) (m cap2 : Nat) (ys : List Int) (w : World) (h : IntsAt w a n cap zs) (h2 : IntsAt w b m cap2 ys) (he : alkE wd hg zs wd2 hg2 ys = 0) :
    Calls Tryd.prog 29 #[picV wd hg a n cap, picV wd2 hg2 b m cap2] w fun e w' => e = .returned (.tuple #[.int .i64 (unl zs ys n), .nilIface]) ∧ Lat w w' := by
  have hL := Lat.trans (Lat.alloc w (.cells #[.int .i64 wd, .int .i64 hg, .slice a n cap] 24)) (Lat.alloc _ (.cells #[.int .i64 wd2, .int .i64 hg2, .slice b m cap2] 24))
  have hc := alike_any wd hg a n cap zs wd2 hg2 b m cap2 ys _ (h.keep hL) (h2.keep hL)
  rw [errv_zero he] at hc
  obtain ⟨e1, e2, rfl, rfl⟩ := alkE_zero.1 he
  have o1 := chkPic_ok e1
  have o2 := chkPic_ok e2
  have hmn : m = n := by have := o1.len; have := o2.len; have := h.len; have := h2.len; omega
  have hn36 : n ≤ 36 := by have := o1.len_le; have := h.len; omega
  subst hmn
  have p1 := o1.pix
  have p2 := o2.pix
  have HC := Lib.hid hc
  have HL := Lib.hid hL
  have H := Lib.hid h
  have H2 := Lib.hid h2
  have P1 := Lib.hid p1
  have P2 := Lib.hid p2
  clear hc hL h h2 he o1 o2 e1 e2 p1 p2
  go_enter Tryd.func29, Tryd.ntmps29
  go_wp2_with fail
  refine HC.out.mono ?_
  rintro e w1 ⟨rfl, hb1⟩
  have k0 : w1.cell? ⟨w.heap.size, 2, none⟩ = some (.slice a m cap) := hb1.cell_at (by simp)
  have k1 : w1.cell? ⟨w.heap.size + 1, 2, none⟩ = some (.slice b m cap2) := hb1.cell_at (by simp)
  have hb := Lat.trans HL.out hb1
  have K1 := Lib.hid k1
  have HB := Lib.hid hb
  clear hb1 hb k1
  go_wp2_with fail
  go_loopw [7, 19] (fun v i wr => ∃ k : Nat, k ≤ m ∧ i = .int .i64 k ∧ v = .int .i64 (unl zs ys k) ∧ Hid (Lat w1 wr)) (fun _ i _ => m - (intOf i).toNat)
  case atStart => exact ⟨0, Nat.zero_le _, rfl, rfl, Lat.refl _⟩
  case round =>
    obtain ⟨k, hk, rfl, rfl, hrel⟩ := hrel
    by_cases hlt : k < m
    · have hz := getD_pix P1.out k
      have hy := getD_pix P2.out k
      have hu := unl_bd P1.out P2.out k
      obtain ⟨b1, o1, rfl, hc1⟩ := (H.out.keep (Lat.trans HB.out hrel.out)).row.at_ (by omega)
      obtain ⟨b2, o2, rfl, hc2⟩ := (H2.out.keep (Lat.trans HB.out hrel.out)).row.at_ (by omega)
      have c1 := hc1 k hlt
      have c2 := hc2 k hlt
      have c3 := hrel.out.cell_at K1.out
      have hst : unl zs ys (k + 1) = max (unl zs ys k) (apt (zs.getD k 0) (ys.getD k 0)) := rfl
      obtain ⟨z, hzd⟩ : ∃ z, z = zs.getD k 0 := ⟨_, rfl⟩
      obtain ⟨y, hyd⟩ : ∃ z, z = ys.getD k 0 := ⟨_, rfl⟩
      obtain ⟨U, hU⟩ : ∃ z, z = unl zs ys k := ⟨_, rfl⟩
      rw [← hzd] at c1 hz hst
      rw [← hyd] at c2 hy hst
      rw [← hU] at hu hst
      rw [← hU]
      have HST := Lib.hid hst
      have ha : 0 ≤ apt z y ∧ apt z y ≤ 255 := by unfold apt; omega
      obtain ⟨D, hD⟩ : ∃ d, d = apt z y := ⟨_, rfl⟩
      rw [← hD] at ha
      have HD := Lib.hid hD
      clear hc1 hc2 hzd hyd hst hU hD
      go_wp2_with (go_at_call 71; refine (apart_any z y _ (by omega) (by omega) (by omega) (by omega)).mono ?_; rw [← HD.out]; rintro e w' ⟨rfl, rfl⟩)
      all_goals
        go_roundw
        case rel => exact ⟨k + 1, by omega, by go_num, by rw [HST.out, ← HD.out]; congr 1; omega, hrel.out⟩
        case measure => simp [intOf]; omega
    · obtain rfl : k = m := by omega
      go_wp2
      go_ret2
      exact ⟨rfl, Lat.trans HB.out hrel.out⟩

def sameI (zs ys : List Int) : Bool := decide (zs = ys)
theorem sameI_len {zs ys : List Int} (h : zs.length ≠ ys.length) : sameI zs ys = false := decide_eq_false fun e => h (by rw [e])
theorem sameI_at {zs ys : List Int} {k : Nat} (h : zs.getD k 0 ≠ ys.getD k 0) : sameI zs ys = false := decide_eq_false fun e => h (by rw [e])
set_option maxHeartbeats 400000 in
theorem sameInts_any (a : Option Addr) (n cap : Nat) (zs : List Int) (b : Option Addr) (m cap2 : Nat) (ys : List Int) (w : World) (h : IntsAt w a n cap zs) (h2 : IntsAt w b m cap2 ys) :
    Calls Tryd.prog 18 #[.slice a n cap, .slice b m cap2] w fun e w' => e = .returned (.bool (sameI zs ys)) ∧ Lat w w' := by
  have hcap2 := h.row.cap
  have hle2 := h.row.le
  have hl := h.len
  have hl2 := h2.len
  unfold maxLen at hcap2
  have H1 := Lib.hid h
  have H2 := Lib.hid h2
  by_cases hnm : n = m
  case neg =>
    have dn : ((n : Int) != (m : Int)) = true := by rw [bne_iff_ne]; omega
    have hf := sameI_len (zs := zs) (ys := ys) (by omega)
    rw [hf]
    clear h h2 hl hl2 hf hnm
    go_enter Tryd.func18, Tryd.ntmps18
    go_wp2
    go_ret
    exact ⟨rfl, Lat.refl _⟩
  subst hnm
  have dn : ((n : Int) != (n : Int)) = false := by simp
  obtain ⟨Y, hY⟩ : ∃ Y, Y = sameI zs ys := ⟨_, rfl⟩
  rw [← hY]
  have HY := Lib.hid hY
  have HL := Lib.hid hl
  have HL2 := Lib.hid hl2
  clear h h2 hY hl hl2
  go_enter Tryd.func18, Tryd.ntmps18
  go_wp2
  go_loopw [5] (fun i wr => ∃ k : Nat, k ≤ n ∧ i = .int .i64 k ∧ Hid (Lat w wr ∧ ∀ j, j < k → zs.getD j 0 = ys.getD j 0)) (fun i _ => n - (intOf i).toNat)
  case atStart => exact ⟨0, Nat.zero_le _, rfl, Lat.refl _, fun j hj => absurd hj (Nat.not_lt_zero _)⟩
  case round =>
    obtain ⟨k, hk, rfl, hrel⟩ := hrel
    by_cases hlt : k < n
    · obtain ⟨b1, o1, rfl, hc1⟩ := H1.out.row.at_ (by omega)
      obtain ⟨b2, o2, rfl, hc2⟩ := H2.out.row.at_ (by omega)
      have c1 := hrel.out.1.cell_at (hc1 k hlt)
      have c2 := hrel.out.1.cell_at (hc2 k hlt)
      obtain ⟨z, hz⟩ : ∃ z, z = zs.getD k 0 := ⟨_, rfl⟩
      obtain ⟨y, hy⟩ : ∃ z, z = ys.getD k 0 := ⟨_, rfl⟩
      rw [← hz] at c1
      rw [← hy] at c2
      have HZ := Lib.hid hz
      have HW := Lib.hid hy
      clear hc1 hc2 hz hy
      by_cases he : z = y
      · have d1 : (z != y) = false := by simp [he]
        have HE := Lib.hid he
        clear he
        go_wp2
        go_quiet (fail)
        go_wp2
        go_roundw
        case rel => exact ⟨k + 1, by omega, by go_num, Lat.trans hrel.out.1 (Lat.drewN _ _), fun j hj => by
          by_cases e : j = k
          · subst e; rw [← HZ.out, ← HW.out]; exact HE.out
          · exact hrel.out.2 j (by omega)⟩
        case measure => simp [intOf]; omega
      · have d1 : (z != y) = true := by rw [bne_iff_ne]; exact he
        have hf : Y = false := by rw [HY.out]; exact sameI_at (k := k) (by rw [← HZ.out, ← HW.out]; exact he)
        have HF := Lib.hid hf
        clear he hf
        go_wp2
        go_quiet (fail)
        go_wp2
        go_ret
        exact ⟨by rw [HF.out]; rfl, Lat.trans hrel.out.1 (Lat.drewN _ _)⟩
    · obtain rfl : k = n := by omega
      have hf : Y = true := by rw [HY.out]; exact decide_eq_true (getD_ext (by rw [HL.out, HL2.out]) fun j hj => hrel.out.2 j (by rw [← HL.out]; exact hj))
      have HF := Lib.hid hf
      clear hf
      go_wp2
      go_ret
      exact ⟨by rw [HF.out]; rfl, hrel.out.1⟩

def sameP (wd hg : Int) (zs : List Int) (wd2 hg2 : Int) (ys : List Int) : Bool := decide (wd = wd2 ∧ hg = hg2 ∧ zs = ys)
set_option maxHeartbeats 400000 in
theorem samePic_any (wd hg : Int) (a : Option Addr) (n cap : Nat) (zs : List Int) (wd2 hg2 : Int) (b : Option Addr) (m cap2 : Nat) (ys : List Int) (w : World) (h : IntsAt w a n cap zs) (h2 : IntsAt w b m cap2 ys) :
    Calls Tryd.prog 21 #[picV wd hg a n cap, picV wd2 hg2 b m cap2] w fun e w' => e = .returned (.bool (sameP wd hg zs wd2 hg2 ys)) ∧ Lat w w' := by
  have hL := Lat.trans (Lat.alloc w (.cells #[.int .i64 wd, .int .i64 hg, .slice a n cap] 24)) (Lat.alloc _ (.cells #[.int .i64 wd2, .int .i64 hg2, .slice b m cap2] 24))
  have HL := Lib.hid hL
  have hd : ((wd == wd2) = false ∧ sameP wd hg zs wd2 hg2 ys = false) ∨ ((wd == wd2) = true ∧ (hg == hg2) = false ∧ sameP wd hg zs wd2 hg2 ys = false) ∨ ((wd == wd2) = true ∧ (hg == hg2) = true ∧ sameP wd hg zs wd2 hg2 ys = sameI zs ys) := by
    by_cases p1 : wd = wd2
    · by_cases p2 : hg = hg2
      · exact .inr (.inr ⟨by simp [p1], by simp [p2], by simp [sameP, sameI, p1, p2]⟩)
      · exact .inr (.inl ⟨by simp [p1], by simp [p2], by simp [sameP, p2]⟩)
    · exact .inl ⟨by simp [p1], by simp [sameP, p1]⟩
  rcases hd with ⟨d1, d2⟩ | ⟨d1, d2, d3⟩ | ⟨d1, d2, d3⟩
  · rw [d2]
    clear d2 h h2 hL
    go_enter Tryd.func21, Tryd.ntmps21
    go_wp2
    go_ret
    exact ⟨rfl, HL.out⟩
  · rw [d3]
    clear d3 h h2 hL
    go_enter Tryd.func21, Tryd.ntmps21
    go_wp2
    go_ret
    exact ⟨rfl, HL.out⟩
  · rw [d3]
    have hc := sameInts_any a n cap zs b m cap2 ys _ (h.keep hL) (h2.keep hL)
    have HC := Lib.hid hc
    clear d3 h h2 hL hc
    go_enter Tryd.func21, Tryd.ntmps21
    go_wp2_with fail
    refine HC.out.mono ?_
    rintro e w1 ⟨rfl, hb1⟩
    go_wp2
    go_ret
    exact ⟨rfl, Lat.trans HL.out hb1⟩
end Go.Proofs.YtnnjijdpenifjaaDoor
