/- The contracts of alone.Encode, Decode. -/
import Derived.Test.YtooepflfofgnnaaDoorAloneCode
namespace Go.Proofs.YtooepflfofgnnaaDoor
open Go.ChangeShapes Go.WideShapes Go.ChangeAt Go.RowKit

def encE (wd hg : Int) (zs : List Int) (s : Int) : Nat := if chkPic wd hg zs ≠ 0 then chkPic wd hg zs else if stepB s = false then 1 else 0
theorem encE_zero {wd hg : Int} {zs : List Int} {s : Int} (h : encE wd hg zs s = 0) : PicOk wd hg zs ∧ 1 ≤ s ∧ s ≤ 64 := by
  unfold encE at h
  split at h
  · omega
  · rename_i h1
    split at h
    · omega
    · rename_i h2
      have a1 : stepB s = true := by cases hq : stepB s <;> simp_all
      simp only [stepB, decide_eq_true_eq] at a1
      exact ⟨chkPic_ok (by omega), a1.1, a1.2⟩
/-- Three cells written. -/
theorem three_set {w : World} {g : Nat} {a b c : Value} (c0 : w.cell? ⟨g, 0, none⟩ = some a) (c1 : w.cell? ⟨g, 1, none⟩ = some b) (c2 : w.cell? ⟨g, 2, none⟩ = some c) (x y z : Value) :
    (((w.setCell ⟨g, 0, none⟩ x).setCell ⟨g, 1, none⟩ y).setCell ⟨g, 2, none⟩ z).cell? ⟨g, 0, none⟩ = some x ∧ (((w.setCell ⟨g, 0, none⟩ x).setCell ⟨g, 1, none⟩ y).setCell ⟨g, 2, none⟩ z).cell? ⟨g, 1, none⟩ = some y ∧
      (((w.setCell ⟨g, 0, none⟩ x).setCell ⟨g, 1, none⟩ y).setCell ⟨g, 2, none⟩ z).cell? ⟨g, 2, none⟩ = some z := by
  have n01 : (⟨g, 0, none⟩ : Addr) ≠ ⟨g, 1, none⟩ := by simp
  have n02 : (⟨g, 0, none⟩ : Addr) ≠ ⟨g, 2, none⟩ := by simp
  have n12 : (⟨g, 1, none⟩ : Addr) ≠ ⟨g, 2, none⟩ := by simp
  refine ⟨?_, ?_, ?_⟩
  · rw [World.cell?_setCell_other _ _ _ _ (by simp), World.cell?_setCell_other _ _ _ _ (by simp)]; exact World.cell?_setCell_same _ _ _ c0
  · rw [World.cell?_setCell_other _ _ _ _ (by simp)]; exact World.cell?_setCell_same _ _ _ ((World.cell?_setCell_other _ _ _ _ (by simp)).trans c1)
  · exact World.cell?_setCell_same _ _ _ ((World.cell?_setCell_other _ _ _ _ (by simp)).trans ((World.cell?_setCell_other _ _ _ _ (by simp)).trans c2))
theorem lat_three {w w1 : World} {g : Nat} (hb : Lat w w1) (hg : w.heap.size ≤ g) (x y z : Value) : Lat w (((w1.setCell ⟨g, 0, none⟩ x).setCell ⟨g, 1, none⟩ y).setCell ⟨g, 2, none⟩ z) :=
  Below.setCell (Below.setCell (Below.setCell hb hg x) hg y) hg z
/-- A slice that lies elsewhere reads on. -/
theorem ints_three {w : World} {g : Nat} {a : Option Addr} {n cap : Nat} {L : List Int} (h : IntsAt w a n cap L) (hne : ∀ b o, a = some ⟨b, o, none⟩ → n ≠ 0 → b ≠ g) (x y z : Value) : IntsAt (((w.setCell ⟨g, 0, none⟩ x).setCell ⟨g, 1, none⟩ y).setCell ⟨g, 2, none⟩ z) a n cap L := by
  refine ⟨h.len, ⟨h.row.le, h.row.cap, fun hn => ?_⟩, h.wf⟩
  obtain ⟨b, o, ha, hc⟩ := h.row.at_ hn
  refine ⟨b, o, ha, fun j hj => ?_⟩
  have hb := hne b o ha hn
  have nn : ∀ k, (⟨b, o + j, none⟩ : Addr) ≠ ⟨g, k, none⟩ := fun k e => hb (by injection e)
  rw [World.cell?_setCell_other _ _ _ _ (fun e => nn 2 e.symm), World.cell?_setCell_other _ _ _ _ (fun e => nn 1 e.symm), World.cell?_setCell_other _ _ _ _ (fun e => nn 0 e.symm)]
  exact hc j hj
/-- The block of a picture that a call lays for its result. -/
theorem pw_cells {w w1 : World} (hb1 : Lat (w.alloc (.cells #[.int .i64 0, .int .i64 0, .slice none 0 0] 132)) w1) :
    (w1.cell? ⟨w.heap.size, 0, none⟩ = some (.int .i64 0) ∧ w1.cell? ⟨w.heap.size, 1, none⟩ = some (.int .i64 0) ∧ w1.cell? ⟨w.heap.size, 2, none⟩ = some (.slice none 0 0)) ∧
      w1.frozen? ⟨w.heap.size, 0, none⟩ = false ∧ w1.frozen? ⟨w.heap.size, 1, none⟩ = false ∧ w1.frozen? ⟨w.heap.size, 2, none⟩ = false :=
  ⟨⟨hb1.cell_at (by simp), hb1.cell_at (by simp), hb1.cell_at (by simp)⟩, hb1.free_at (by simp) (by simp), hb1.free_at (by simp) (by simp), hb1.free_at (by simp) (by simp)⟩

def dcE (wd hg s : Int) (rs : List Int) : Nat := if sideB wd = false ∨ sideB hg = false ∨ stepB s = false then 1 else rstE rs (wd * hg)
theorem dcE_zero {wd hg s : Int} {rs : List Int} (h : dcE wd hg s rs = 0) : 1 ≤ wd ∧ wd ≤ 6 ∧ 1 ≤ hg ∧ hg ≤ 6 ∧ 1 ≤ s ∧ s ≤ 64 ∧ (rs.length : Int) = wd * hg ∧ ∀ z ∈ rs, -255 ≤ z ∧ z ≤ 255 := by
  unfold dcE at h
  split at h
  · omega
  · rename_i h1
    have a1 : sideB wd = true := by cases hq : sideB wd <;> simp_all
    have a2 : sideB hg = true := by cases hq : sideB hg <;> simp_all
    have a3 : stepB s = true := by cases hq : stepB s <;> simp_all
    simp only [sideB, stepB, decide_eq_true_eq] at a1 a2 a3
    have := rstE_zero h
    exact ⟨a1.1, a1.2, a2.1, a2.2, a3.1, a3.2, this.1, this.2⟩
theorem dcE_of {wd hg s : Int} {rs : List Int} (h1 : 1 ≤ wd) (h2 : wd ≤ 6) (h3 : 1 ≤ hg) (h4 : hg ≤ 6) (h5 : 1 ≤ s) (h6 : s ≤ 64) (h7 : (rs.length : Int) = wd * hg) (h8 : ∀ z ∈ rs, -255 ≤ z ∧ z ≤ 255) : dcE wd hg s rs = 0 := by
  unfold dcE
  have a1 : sideB wd = true := decide_eq_true ⟨h1, h2⟩
  have a2 : sideB hg = true := decide_eq_true ⟨h3, h4⟩
  have a3 : stepB s = true := decide_eq_true ⟨h5, h6⟩
  rw [if_neg (by simp [a1, a2, a3])]
  exact rstE_of h7 h8

set_option maxHeartbeats 1000000 in
theorem decode_okF (wd hg s : Int) (a : Option Addr) (n cap : Nat) (rs : List Int) (w : World) (h : IntsAt w a n cap rs) (he : dcE wd hg s rs = 0) :
    Calls Tryd.prog 112 #[.int .i64 wd, .int .i64 hg, .int .i64 s, .slice a n cap] w fun e w' => ∃ b c, e = .returned (.tuple #[picV wd hg b n c, .nilIface]) ∧ IntsAt w' b n c (tel rs wd.toNat s n) ∧ Fresh w b n ∧ Lat w w' := by
  obtain ⟨w1, w6, g1, g6, s1, s64, hlen, hrs⟩ := dcE_zero he
  obtain ⟨wn, rfl⟩ := Int.eq_ofNat_of_zero_le (show 0 ≤ wd by omega)
  rw [Int.toNat_natCast]
  have p1 : (wn : Int) * hg ≤ 6 * 6 := Int.mul_le_mul w6 g6 (by omega) (by omega)
  have p0 : 0 ≤ (wn : Int) * hg := Int.mul_nonneg (by omega) (by omega)
  have hl := h.len
  have hn36 : n ≤ 36 := by omega
  have a1 : sideB wn = true := decide_eq_true ⟨w1, w6⟩
  have a2 : sideB hg = true := decide_eq_true ⟨g1, g6⟩
  have a3 : stepB s = true := decide_eq_true ⟨s1, s64⟩
  obtain ⟨W0, hW0⟩ : ∃ W, W = w.alloc (.cells #[.int .i64 0, .int .i64 0, .slice none 0 0] 132) := ⟨_, rfl⟩
  have hat : IntsAt W0 a n cap rs := by rw [hW0]; exact h.keep (Lat.alloc _ _)
  have hl0 : Lat w W0 := by rw [hW0]; exact Lat.alloc _ _
  have hsz0 : w.heap.size < W0.heap.size := by rw [hW0]; simp
  have hpw : ∀ w1, Lat W0 w1 → _ := fun w1 hb => pw_cells (w := w) (w1 := w1) (by rw [← hW0]; exact hb)
  have hrc := rests_any a n cap rs ((wn : Int) * hg) W0 hat
  rw [errv_zero (rstE_of hlen hrs)] at hrc
  have HRC := Lib.hid hrc
  have HPW := Lib.hid hpw
  have HAT := Lib.hid hat
  have HL0 := Lib.hid hl0
  have HRS := Lib.hid hrs
  clear h he hat hl0 hrc hlen hrs hl hpw
  go_enter Tryd.func112, Tryd.ntmps112
  go_upto_region 1 with fail
  rw [← hW0]
  clear hW0
  go_wp2_with (first | (go_at_call 91; refine (side_any _ _).mono ?_; rintro e w' ⟨rfl, rfl⟩) | (go_at_call 92; refine (step_any _ _).mono ?_; rintro e w' ⟨rfl, rfl⟩))
  refine HRC.out.mono ?_
  rintro e w' ⟨rfl, rfl⟩
  go_wp2_with fail
  go_loopw [11, 40] (fun told i wr => ∃ k : Nat, k ≤ n ∧ i = .int .i64 k ∧ Hid (OwnInts wr W0.heap.size told (tel rs wn s k) ∧ Lat W0 wr)) (fun _ i _ => n - (intOf i).toNat)
  case atStart => exact ⟨0, Nat.zero_le _, rfl, Own.nil _ _ _, Lat.refl _⟩
  case round =>
    obtain ⟨k, hk, rfl, hrel⟩ := hrel
    obtain ⟨o1, hb⟩ := hrel.out
    by_cases hlt : k < n
    · obtain ⟨ta, tc, rfl, ht⟩ := OwnInts.sliceN o1 (wf_pix (tel_pix rs wn s k)) (tel_len rs wn s k)
      obtain ⟨b1, p1', rfl, hc1⟩ := (HAT.out.keep hb).row.at_ (by omega)
      have c1 := hc1 k hlt
      have hrk := HRS.out _ (mem_getD rs k (by rw [HAT.out.len]; exact hlt))
      have hg := gss_bd (tel_pix rs wn s k) wn
      obtain ⟨R, hR⟩ : ∃ z, z = rs.getD k 0 := ⟨_, rfl⟩
      obtain ⟨G, hG⟩ : ∃ g, g = gss (tel rs wn s k) wn := ⟨_, rfl⟩
      rw [← hR] at c1 hrk
      rw [← hG] at hg
      have hm := mul_bd R s hrk.1 hrk.2 s1 s64
      obtain ⟨T, hT⟩ : ∃ t, t = clamp (G + R * s) := ⟨_, rfl⟩
      have hst2 : tel rs wn s (k + 1) = tel rs wn s k ++ [T] := by rw [tel, ← hG, ← hR, ← hT]
      have hlen2 : (tel rs wn s k).length < 1000000000000 := by rw [tel_len]; omega
      have HT := Lib.hid hT
      have HG := Lib.hid hG
      have HO1 := Lib.hid o1
      have HB := Lib.hid hb
      have HTA := Lib.hid ht
      have HS2 := Lib.hid hst2
      have HL2 := Lib.hid hlen2
      clear hT hR hG o1 hb ht hst2 hlen2 hrel hc1
      go_wp2_with fail
      refine (guess_any ta k tc (tel rs wn s k) wn _ HTA.out (by omega) (by omega)).mono ?_
      rw [← HG.out]
      rintro e w' ⟨rfl, rfl⟩
      go_wp2_with fail
      refine (clamp_any (G + R * s) _).mono ?_
      rw [← HT.out]
      rintro e w' ⟨rfl, rfl⟩
      go_wp2_with (at_builtin; refine app_int wr W0 _ rfl _ _ rfl _ _ _ rfl HO1.out rfl HL2.out rfl HB.out ?_)
      intro told' w3 hown3 hb3 hstep3
      have HOW3 := Lib.hid hown3
      have HB3 := Lib.hid hb3
      clear hown3 hb3 hstep3
      go_wp2
      go_roundw
      case rel => exact ⟨k + 1, by omega, by go_num, by rw [HS2.out]; exact HOW3.out, HB3.out⟩
      case measure => simp [intOf]; omega
    · obtain rfl : k = n := by omega
      have hlt := Own.lt o1
      obtain ⟨ta, tc, rfl, ht⟩ := OwnInts.sliceN o1 (wf_pix (tel_pix rs wn s k)) (tel_len rs wn s k)
      have HFR := Lib.hid (Fresh.of o1 HL0.out.size)
      have hq := HPW.out wr hb
      obtain ⟨⟨c0, c1, c2⟩, f0, f1, f2⟩ := hq
      have q := three_set c0 c1 c2 (.int .i64 wn) (.int .i64 hg) (.slice ta k tc)
      have ht3 := ints_three (g := w.heap.size) ht (fun b o e hn => by
        subst e
        obtain ⟨b', o', e', hc'⟩ := ht.row.at_ hn
        rcases o1.2 with ⟨e1, _⟩ | ⟨g, c, cur, e1, hg, _⟩
        · cases e1
        · injection e1 with e1 _ _
          injection e1 with e1
          injection e1 with e1 _ _
          omega) (.int .i64 wn) (.int .i64 hg) (.slice ta k tc)
      have hlat := lat_three (Lat.trans HL0.out hb) (Nat.le_refl _) (.int .i64 wn) (.int .i64 hg) (.slice ta k tc)
      have HT3 := Lib.hid ht3
      have HLAT := Lib.hid hlat
      have Q := Lib.hid q
      clear ht hrel o1 hb ht3 hlat q hlt
      go_wp2
      exact bodyPost_ret (v := .tuple #[picV wn hg ta k tc, .nilIface]) (by simp [results, Tryd.results112, go_sem, Q.out.1, Q.out.2.1, Q.out.2.2]) rfl ⟨ta, tc, rfl, HT3.out, HFR.out, HLAT.out⟩
theorem decode_ok (wd hg s : Int) (a : Option Addr) (n cap : Nat) (rs : List Int) (w : World) (h : IntsAt w a n cap rs) (he : dcE wd hg s rs = 0) :
    Calls Tryd.prog 112 #[.int .i64 wd, .int .i64 hg, .int .i64 s, .slice a n cap] w fun e w' => ∃ b c, e = .returned (.tuple #[picV wd hg b n c, .nilIface]) ∧ IntsAt w' b n c (tel rs wd.toNat s n) ∧ Lat w w' := by
  exact (decode_okF wd hg s a n cap rs w h he).mono fun _ _ ⟨b, c, h1, h2, _, h3⟩ => ⟨b, c, h1, h2, h3⟩
end Go.Proofs.YtooepflfofgnnaaDoor
