/- The contracts of the document's own words on pictures: dropref2.Picture, Two, Apart, within, Shift, Round, Guess, Alone, Rests, Told. -/
import Derived.Test.YtnnjijdpenifjaaDoorShiftC
import Derived.Test.YtnnjijdpenifjaaDoorAcc
namespace Go.Proofs.YtnnjijdpenifjaaDoor
open Go.ChangeShapes Go.WideShapes Go.ChangeAt Go.RowKit

theorem refWithin (n m : Int) (w : World) (hm : 0 ≤ m) :
    Calls Tryd.prog 55 #[.int .i64 n, .int .i64 m] w fun e w' => e = .returned (.int .i64 (max 0 (min m n))) ∧ w = w' := by
  by_cases h1 : n < 0
  · have d1 : decide (n < 0) = true := decide_eq_true h1
    have e1 : max 0 (min m n) = 0 := by omega
    rw [e1]
    clear h1 e1
    go_enter Tryd.func55, Tryd.ntmps55
    go_wp2
    go_ret
    exact ⟨rfl, rfl⟩
  have d1 : decide (n < 0) = false := decide_eq_false h1
  by_cases h2 : m < n
  · have d2 : decide (m < n) = true := decide_eq_true h2
    have e1 : max 0 (min m n) = m := by omega
    rw [e1]
    clear h1 h2 e1
    go_enter Tryd.func55, Tryd.ntmps55
    go_wp2
    go_ret
    exact ⟨rfl, rfl⟩
  have d2 : decide (m < n) = false := decide_eq_false h2
  have e1 : max 0 (min m n) = n := by omega
  rw [e1]
  clear h1 h2 e1
  go_enter Tryd.func55, Tryd.ntmps55
  go_wp2
  go_ret
  exact ⟨rfl, rfl⟩
theorem refApart (a b : Int) (w : World) (h1 : -100000 ≤ a) (h2 : a ≤ 100000) (h3 : -100000 ≤ b) (h4 : b ≤ 100000) :
    Calls Tryd.prog 28 #[.int .i64 a, .int .i64 b] w fun e w' => e = .returned (.int .i64 (apt a b)) ∧ w = w' := by
  go_enter Tryd.func28, Tryd.ntmps28
  go_wp2
  all_goals
    go_ret
    exact ⟨int_ret (by unfold apt; omega), rfl⟩
theorem refGuess (a : Option Addr) (n cap : Nat) (L : List Int) (wd : Nat) (w : World) (h : IntsAt w a n cap L) (hw : 1 ≤ wd) (hw6 : wd ≤ 6) :
    Calls Tryd.prog 54 #[.slice a n cap, .int .i64 wd] w fun e w' => e = .returned (.int .i64 (gss L wd)) ∧ w = w' := by
  have hl := h.len
  have hcap := h.row.cap
  have hle := h.row.le
  unfold maxLen at hcap
  obtain ⟨V, hV⟩ : ∃ V, V = gss L wd := ⟨_, rfl⟩
  rw [← hV]
  have HV := Lib.hid hV
  have HL := Lib.hid hl
  have H := Lib.hid h
  clear hV hl h
  have hz : ((wd : Int) == 0) = false := by rw [beq_eq_false_iff_ne]; omega
  by_cases h0 : n = 0
  · have d0 : ((n : Int) == 0) = true := by rw [beq_iff_eq]; omega
    have e1 : V = 128 := by rw [HV.out, gss_zero wd L (by rw [HL.out]; exact h0)]
    rw [e1]
    clear e1 h0
    go_enter Tryd.func54, Tryd.ntmps54
    go_wp2
    go_ret
    exact ⟨rfl, rfl⟩
  have d0 : ((n : Int) == 0) = false := by rw [beq_eq_false_iff_ne]; omega
  obtain ⟨b, o, rfl, hc⟩ := H.out.row.at_ h0
  obtain ⟨r, hr⟩ : ∃ r, r = n % wd := ⟨_, rfl⟩
  have er : (n : Int) % (wd : Int) = (r : Int) := by rw [hr]; simp
  by_cases h1 : n % wd = 0
  · have hge : wd ≤ n := by
      rcases Nat.lt_or_ge n wd with h | h
      · rw [Nat.mod_eq_of_lt h] at h1; omega
      · exact h
    have d1 : ((r : Int) == 0) = true := by rw [beq_iff_eq]; omega
    have c1 := hc (n - wd) (by omega)
    have e1 : V = L.getD (n - wd) 0 := by rw [HV.out, gss_row wd L (by rw [HL.out]; exact h0) (by rw [HL.out]; exact h1), HL.out]
    rw [← e1] at c1
    have e2 : (n : Int) - (wd : Int) = ((n - wd : Nat) : Int) := by omega
    have i1 : ((n - wd : Nat) : Int) < (n : Int) := by omega
    have i3 : n - wd < n := by omega
    have i2 : (0 : Int) ≤ ((n - wd : Nat) : Int) := by omega
    obtain ⟨q, hq⟩ : ∃ q, q = n - wd := ⟨_, rfl⟩
    rw [← hq] at c1 e2 i1 i2 i3
    clear hc e1 h1 hq hr
    go_enter Tryd.func54, Tryd.ntmps54
    go_wp2
    go_ret
    exact ⟨rfl, rfl⟩
  · have d1 : ((r : Int) == 0) = false := by rw [beq_eq_false_iff_ne]; omega
    have c1 := hc (n - 1) (by omega)
    have e1 : V = L.getD (n - 1) 0 := by rw [HV.out, gss_else wd L (by rw [HL.out]; exact h0) (by rw [HL.out]; exact h1), HL.out]
    rw [← e1] at c1
    have e2 : (n : Int) - 1 = ((n - 1 : Nat) : Int) := by omega
    have i1 : ((n - 1 : Nat) : Int) < (n : Int) := by omega
    have i3 : n - 1 < n := by omega
    have i2 : (0 : Int) ≤ ((n - 1 : Nat) : Int) := by omega
    obtain ⟨q, hq⟩ : ∃ q, q = n - 1 := ⟨_, rfl⟩
    rw [← hq] at c1 e2 i1 i2 i3
    clear hc e1 h1 hq hr
    go_enter Tryd.func54, Tryd.ntmps54
    go_wp2
    go_ret
    exact ⟨rfl, rfl⟩

/-- A list asked from the front: the first that is not as it should be. -/
theorem any_at {p : Int → Bool} {L : List Int} {k : Nat} (hk : k < L.length) (h : p (L.getD k 0) = true) : L.any p = true := List.any_eq_true.2 ⟨_, mem_getD L k hk, h⟩
theorem any_none {p : Int → Bool} {L : List Int} (h : ∀ j, j < L.length → p (L.getD j 0) = false) : L.any p = false := by
  rw [List.any_eq_false]
  intro x hx
  obtain ⟨j, hj, e⟩ := List.getElem_of_mem hx
  have := h j hj
  rw [List.getD_eq_getElem?_getD, List.getElem?_eq_getElem hj, Option.getD_some, e] at this
  rw [this]; simp
theorem refRests (a : Option Addr) (n cap : Nat) (L : List Int) (many : Int) (w : World) (h : IntsAt w a n cap L) :
    Calls Tryd.prog 59 #[.slice a n cap, .int .i64 many] w fun e w' => e = .returned (.int .i64 (rstE L many)) ∧ w = w' := by
  have hl := h.len
  have hcap2 := h.row.cap
  have hle2 := h.row.le
  unfold maxLen at hcap2
  have H := Lib.hid h
  obtain ⟨C, hC⟩ : ∃ C, C = rstE L many := ⟨_, rfl⟩
  rw [← hC]
  have HC := Lib.hid hC
  have HL := Lib.hid hl
  clear h hC hl
  by_cases hm : (n : Int) = many
  case neg =>
    have d1 : ((n : Int) != many) = true := by rw [bne_iff_ne]; exact hm
    have e1 : C = 3 := by rw [HC.out]; unfold rstE; rw [if_pos (by rw [HL.out]; exact hm)]
    rw [e1]
    clear e1 hm
    go_enter Tryd.func59, Tryd.ntmps59
    go_wp2
    go_ret
    exact ⟨rfl, rfl⟩
  have d1 : ((n : Int) != many) = false := by rw [bne_eq_false_iff_eq]; exact hm
  have e0 : C = if L.any (fun z => !restB z) = true then 1 else 0 := by rw [HC.out]; unfold rstE; rw [if_neg (by rw [HL.out]; exact fun h => h hm)]
  have E0 := Lib.hid e0
  clear hm e0
  go_enter Tryd.func59, Tryd.ntmps59
  go_wp2_with fail
  go_loop [5] (fun i => ∃ k : Nat, k ≤ n ∧ i = .int .i64 k ∧ Hid (∀ j, j < k → (!restB (L.getD j 0)) = false)) (fun i => n - (intOf i).toNat)
  case atStart => exact ⟨0, Nat.zero_le _, rfl, fun j hj => absurd hj (Nat.not_lt_zero _)⟩
  case round =>
    obtain ⟨k, hk, rfl, hrel⟩ := hrel
    by_cases hlt : k < n
    · obtain ⟨b, o, rfl, hc⟩ := H.out.row.at_ (by omega)
      have c1 := hc k hlt
      obtain ⟨z, hz⟩ : ∃ z, z = L.getD k 0 := ⟨_, rfl⟩
      rw [← hz] at c1
      have hd : (decide (z < -255) = true ∧ C = 1) ∨ (decide (z < -255) = false ∧ decide (255 < z) = true ∧ C = 1) ∨ (decide (z < -255) = false ∧ decide (255 < z) = false ∧ (!restB z) = false) := by
        by_cases h1 : z < -255
        · refine .inl ⟨decide_eq_true h1, ?_⟩
          rw [E0.out, if_pos (any_at (k := k) (by rw [HL.out]; exact hlt) (by rw [← hz]; simp [restB]; omega))]
        · by_cases h2 : 255 < z
          · refine .inr (.inl ⟨decide_eq_false h1, decide_eq_true h2, ?_⟩)
            rw [E0.out, if_pos (any_at (k := k) (by rw [HL.out]; exact hlt) (by rw [← hz]; simp [restB]; omega))]
          · exact .inr (.inr ⟨decide_eq_false h1, decide_eq_false h2, by simp [restB]; omega⟩)
      have HZ := Lib.hid hz
      clear hc hz
      rcases hd with ⟨q1, q2⟩ | ⟨q1, q2, q3⟩ | ⟨q1, q2, q3⟩
      · have Q := Lib.hid q2
        clear q2
        go_wp2
        go_ret
        exact ⟨by rw [Q.out]; rfl, rfl⟩
      · have Q := Lib.hid q3
        clear q3
        go_wp2
        go_ret
        exact ⟨by rw [Q.out]; rfl, rfl⟩
      · have Q := Lib.hid q3
        clear q3
        go_wp2
        go_round
        case rel => exact ⟨k + 1, by omega, by go_num, fun j hj => by
          by_cases e : j = k
          · subst e; rw [← HZ.out]; exact Q.out
          · exact hrel.out j (by omega)⟩
        case measure => simp [intOf]; omega
    · obtain rfl : k = n := by omega
      have e1 : C = 0 := by rw [E0.out, any_none (fun j hj => hrel.out j (by rw [← HL.out]; exact hj))]; rfl
      have E1 := Lib.hid e1
      clear e1
      go_wp2
      go_ret
      exact ⟨by rw [E1.out]; rfl, rfl⟩

set_option maxHeartbeats 1000000 in
theorem refPic (wd hg : Int) (a : Option Addr) (n cap : Nat) (zs : List Int) (w : World) (h : IntsAt w a n cap zs) :
    Calls Tryd.prog 14 #[picV wd hg a n cap] w fun e w' => e = .returned (.int .i64 (chkPic wd hg zs)) ∧ Lat w w' := by
  obtain ⟨W0, hW0⟩ : ∃ W, W = w.alloc (.cells #[.int .i64 wd, .int .i64 hg, .slice a n cap] 24) := ⟨_, rfl⟩
  have hl0 : Lat w W0 := by rw [hW0]; exact Lat.alloc _ _
  have k0 : W0.cell? ⟨w.heap.size, 0, none⟩ = some (.int .i64 wd) := by rw [hW0]; simp
  have k1 : W0.cell? ⟨w.heap.size, 1, none⟩ = some (.int .i64 hg) := by rw [hW0]; simp
  have k2 : W0.cell? ⟨w.heap.size, 2, none⟩ = some (.slice a n cap) := by rw [hW0]; simp
  have H := Lib.hid (h.keep hl0)
  have HL0 := Lib.hid hl0
  obtain ⟨C, hC⟩ : ∃ C, C = chkPic wd hg zs := ⟨_, rfl⟩
  rw [← hC]
  have hl := h.len
  have HC := Lib.hid hC
  have HL := Lib.hid hl
  have hcap2 := h.row.cap
  have hle2 := h.row.le
  unfold maxLen at hcap2
  have hd : (decide (wd < 1) = true ∧ C = 1) ∨ (decide (wd < 1) = false ∧ decide (6 < wd) = true ∧ C = 1) ∨ (decide (wd < 1) = false ∧ decide (6 < wd) = false ∧ decide (hg < 1) = true ∧ C = 1) ∨ (decide (wd < 1) = false ∧ decide (6 < wd) = false ∧ decide (hg < 1) = false ∧ decide (6 < hg) = true ∧ C = 1) ∨
      (decide (wd < 1) = false ∧ decide (6 < wd) = false ∧ decide (hg < 1) = false ∧ decide (6 < hg) = false ∧ 1 ≤ wd ∧ wd ≤ 6 ∧ 1 ≤ hg ∧ hg ≤ 6) := by
    have hb : (sideB wd = false ∨ sideB hg = false) → C = 1 := fun q => by rw [hC]; unfold chkPic; rw [if_pos q]
    by_cases p1 : wd < 1
    · exact .inl ⟨decide_eq_true p1, hb (.inl (by simp [sideB]; omega))⟩
    by_cases p2 : 6 < wd
    · exact .inr (.inl ⟨decide_eq_false p1, decide_eq_true p2, hb (.inl (by simp [sideB]; omega))⟩)
    by_cases p3 : hg < 1
    · exact .inr (.inr (.inl ⟨decide_eq_false p1, decide_eq_false p2, decide_eq_true p3, hb (.inr (by simp [sideB]; omega))⟩))
    by_cases p4 : 6 < hg
    · exact .inr (.inr (.inr (.inl ⟨decide_eq_false p1, decide_eq_false p2, decide_eq_false p3, decide_eq_true p4, hb (.inr (by simp [sideB]; omega))⟩)))
    · exact .inr (.inr (.inr (.inr ⟨decide_eq_false p1, decide_eq_false p2, decide_eq_false p3, decide_eq_false p4, by omega, by omega, by omega, by omega⟩)))
  clear h hC hl hl0
  rcases hd with ⟨q1, q2⟩ | ⟨q1, q2, q3⟩ | ⟨q1, q2, q3, q4⟩ | ⟨q1, q2, q3, q4, q5⟩ | ⟨q1, q2, q3, q4, b1, b2, b3, b4⟩
  · subst q2
    go_enter Tryd.func14, Tryd.ntmps14
    go_upto_region 1 with fail
    rw [← hW0]
    clear hW0
    go_wp2
    go_ret
    exact ⟨rfl, HL0.out⟩
  · subst q3
    go_enter Tryd.func14, Tryd.ntmps14
    go_upto_region 1 with fail
    rw [← hW0]
    clear hW0
    go_wp2
    go_ret
    exact ⟨rfl, HL0.out⟩
  · subst q4
    go_enter Tryd.func14, Tryd.ntmps14
    go_upto_region 1 with fail
    rw [← hW0]
    clear hW0
    go_wp2
    go_ret
    exact ⟨rfl, HL0.out⟩
  · subst q5
    go_enter Tryd.func14, Tryd.ntmps14
    go_upto_region 1 with fail
    rw [← hW0]
    clear hW0
    go_wp2
    go_ret
    exact ⟨rfl, HL0.out⟩
  obtain ⟨M, hM⟩ : ∃ M, M = wd * hg := ⟨_, rfl⟩
  have m1 : wd * hg ≤ 6 * 6 := Int.mul_le_mul b2 b4 (by omega) (by omega)
  have m0 : 0 ≤ wd * hg := Int.mul_nonneg (by omega) (by omega)
  rw [← hM] at m0 m1
  have eM : wd * hg = M := hM.symm
  by_cases hn : (n : Int) = M
  case neg =>
    have d1 : ((n : Int) != M) = true := by rw [bne_iff_ne]; exact hn
    have e1 : C = 3 := by rw [HC.out]; unfold chkPic; rw [if_neg (by simp [sideB]; omega), if_pos (by rw [HL.out, eM]; exact hn)]
    subst e1
    clear hn hM
    go_enter Tryd.func14, Tryd.ntmps14
    go_upto_region 1 with fail
    rw [← hW0]
    clear hW0
    go_wp2
    go_ret
    exact ⟨rfl, HL0.out⟩
  have d1 : ((n : Int) != M) = false := by rw [bne_eq_false_iff_eq]; exact hn
  have e0 : C = if zs.any (fun z => !pixB z) = true then 1 else 0 := by rw [HC.out]; unfold chkPic; rw [if_neg (by simp [sideB]; omega), if_neg (by rw [HL.out, eM]; exact fun h => h hn)]
  have E0 := Lib.hid e0
  clear hn hM e0
  go_enter Tryd.func14, Tryd.ntmps14
  go_upto_region 1 with fail
  rw [← hW0]
  clear hW0
  go_wp2_with fail
  go_loop [3] (fun i => ∃ k : Nat, k ≤ n ∧ i = .int .i64 k ∧ Hid (∀ j, j < k → (!pixB (zs.getD j 0)) = false)) (fun i => n - (intOf i).toNat)
  case atStart => exact ⟨0, Nat.zero_le _, rfl, fun j hj => absurd hj (Nat.not_lt_zero _)⟩
  case round =>
    obtain ⟨k, hk, rfl, hrel⟩ := hrel
    by_cases hlt : k < n
    · obtain ⟨b, o, rfl, hc⟩ := H.out.row.at_ (by omega)
      have c1 := hc k hlt
      obtain ⟨z, hz⟩ : ∃ z, z = zs.getD k 0 := ⟨_, rfl⟩
      rw [← hz] at c1
      have hd : (decide (z < 0) = true ∧ C = 1) ∨ (decide (z < 0) = false ∧ decide (255 < z) = true ∧ C = 1) ∨ (decide (z < 0) = false ∧ decide (255 < z) = false ∧ (!pixB z) = false) := by
        by_cases h1 : z < 0
        · refine .inl ⟨decide_eq_true h1, ?_⟩
          rw [E0.out, if_pos (any_at (k := k) (by rw [HL.out]; exact hlt) (by rw [← hz]; simp [pixB]; omega))]
        · by_cases h2 : 255 < z
          · refine .inr (.inl ⟨decide_eq_false h1, decide_eq_true h2, ?_⟩)
            rw [E0.out, if_pos (any_at (k := k) (by rw [HL.out]; exact hlt) (by rw [← hz]; simp [pixB]; omega))]
          · exact .inr (.inr ⟨decide_eq_false h1, decide_eq_false h2, by simp [pixB]; omega⟩)
      have HZ := Lib.hid hz
      clear hc hz
      rcases hd with ⟨q1, q2⟩ | ⟨q1, q2, q3⟩ | ⟨q1, q2, q3⟩
      · have Q := Lib.hid q2
        clear q2
        go_wp2
        go_ret
        exact ⟨by rw [Q.out]; rfl, HL0.out⟩
      · have Q := Lib.hid q3
        clear q3
        go_wp2
        go_ret
        exact ⟨by rw [Q.out]; rfl, HL0.out⟩
      · have Q := Lib.hid q3
        clear q3
        go_wp2
        go_round
        case rel => exact ⟨k + 1, by omega, by go_num, fun j hj => by
          by_cases e : j = k
          · subst e; rw [← HZ.out]; exact Q.out
          · exact hrel.out j (by omega)⟩
        case measure => simp [intOf]; omega
    · obtain rfl : k = n := by omega
      have e1 : C = 0 := by rw [E0.out, any_none (fun j hj => hrel.out j (by rw [← HL.out]; exact hj))]; rfl
      have E1 := Lib.hid e1
      clear e1
      go_wp2
      go_ret
      exact ⟨by rw [E1.out]; rfl, HL0.out⟩

def beq0 (n : Nat) : Bool := (n : Int) == 0
set_option maxHeartbeats 1000000 in
theorem refTwo (wd hg : Int) (a : Option Addr) (n cap : Nat) (zs : List Int) (wd2 hg2 : Int) (b : Option Addr) (m cap2 : Nat) (ys : List Int) (w : World) (h : IntsAt w a n cap zs) (h2 : IntsAt w b m cap2 ys) :
    Calls Tryd.prog 27 #[picV wd hg a n cap, picV wd2 hg2 b m cap2] w fun e w' => e = .returned (.int .i64 (alkE wd hg zs wd2 hg2 ys)) ∧ Lat w w' := by
  obtain ⟨W0, hW0⟩ : ∃ W, W = (w.alloc (.cells #[.int .i64 wd, .int .i64 hg, .slice a n cap] 24)).alloc (.cells #[.int .i64 wd2, .int .i64 hg2, .slice b m cap2] 24) := ⟨_, rfl⟩
  have hl0 : Lat w W0 := by rw [hW0]; exact Lat.trans (Lat.alloc _ _) (Lat.alloc _ _)
  have hp : Cells3 W0 w.heap.size 0 (.int .i64 wd) (.int .i64 hg) (.slice a n cap) := by rw [hW0]; exact (cells3_new rfl rfl rfl rfl).keep (Lat.alloc _ _)
  have hq : Cells3 W0 (w.heap.size + 1) 0 (.int .i64 wd2) (.int .i64 hg2) (.slice b m cap2) := by rw [hW0]; exact cells3_new (by simp) rfl rfl rfl
  have c1 := refPic wd hg a n cap zs W0 (h.keep hl0)
  obtain ⟨C1, hC1⟩ : ∃ C, C = chkPic wd hg zs := ⟨_, rfl⟩
  obtain ⟨C2, hC2⟩ : ∃ C, C = chkPic wd2 hg2 ys := ⟨_, rfl⟩
  obtain ⟨E, hE⟩ : ∃ C, C = alkE wd hg zs wd2 hg2 ys := ⟨_, rfl⟩
  rw [← hE]
  rw [← hC1] at c1
  unfold alkE at hE
  rw [← hC1, ← hC2] at hE
  have H2 := Lib.hid (h2.keep hl0)
  have HL0 := Lib.hid hl0
  have HP := Lib.hid hp
  have HQ := Lib.hid hq
  have HC := Lib.hid c1
  have HC2 := Lib.hid hC2
  clear c1 h h2 hl0 hp hq hC1 hC2
  by_cases z1 : C1 = 0
  case neg =>
    rw [if_pos z1] at hE
    subst hE
    have d1 : ((E : Int) == 0) = false := by rw [beq_eq_false_iff_ne]; omega
    clear z1
    go_enter Tryd.func27, Tryd.ntmps27
    go_upto_region 1 with fail
    rw [← hW0]
    clear hW0
    have p0 := HP.out.c0
    have p1 := HP.out.c1
    have p2 := HP.out.c2
    go_wp2_with fail
    refine HC.out.mono ?_
    rintro e w1 ⟨rfl, hb1⟩
    go_wp2
    go_ret
    exact ⟨rfl, Lat.trans HL0.out hb1⟩
  rw [if_neg (fun q => q z1)] at hE
  subst z1
  by_cases z2 : C2 = 0
  case neg =>
    rw [if_pos z2] at hE
    subst hE
    have d1 : ((E : Int) == 0) = false := by rw [beq_eq_false_iff_ne]; omega
    clear z2
    go_enter Tryd.func27, Tryd.ntmps27
    go_upto_region 1 with fail
    rw [← hW0]
    clear hW0
    have p0 := HP.out.c0
    have p1 := HP.out.c1
    have p2 := HP.out.c2
    go_wp2_with fail
    refine HC.out.mono ?_
    rintro e w1 ⟨rfl, hb1⟩
    have q0 := hb1.cell_at HQ.out.c0
    have q1 := hb1.cell_at HQ.out.c1
    have q2 := hb1.cell_at HQ.out.c2
    clear p0 p1 p2
    go_wp2_with fail
    refine (refPic wd2 hg2 b m cap2 ys w1 (H2.out.keep hb1)).mono ?_
    rw [← HC2.out]
    rintro e w2 ⟨rfl, hb2⟩
    go_wp2
    go_ret
    exact ⟨rfl, Lat.trans HL0.out (Lat.trans hb1 hb2)⟩
  rw [if_neg (fun q => q z2)] at hE
  subst z2
  have hd : ((wd != wd2) = true ∧ E = 3) ∨ ((wd != wd2) = false ∧ (hg != hg2) = true ∧ E = 3) ∨ ((wd != wd2) = false ∧ (hg != hg2) = false ∧ E = 0) := by
    by_cases p1 : wd = wd2
    · by_cases p2 : hg = hg2
      · exact .inr (.inr ⟨by simp [p1], by simp [p2], by rw [hE, if_neg (by simp [p1, p2])]⟩)
      · exact .inr (.inl ⟨by simp [p1], by simp [p2], by rw [hE, if_pos (.inr p2)]⟩)
    · exact .inl ⟨by simp [p1], by rw [hE, if_pos (.inl p1)]⟩
  clear hE
  rcases hd with ⟨d1, d2⟩ | ⟨d1, d2, d3⟩ | ⟨d1, d2, d3⟩
  all_goals
    subst E
    go_enter Tryd.func27, Tryd.ntmps27
    go_upto_region 1 with fail
    rw [← hW0]
    clear hW0
    have p0 := HP.out.c0
    have p1 := HP.out.c1
    have p2 := HP.out.c2
    go_wp2_with fail
    refine HC.out.mono ?_
    rintro e w1 ⟨rfl, hb1⟩
    have q0 := hb1.cell_at HQ.out.c0
    have q1 := hb1.cell_at HQ.out.c1
    have q2 := hb1.cell_at HQ.out.c2
    have HB1 := Lib.hid hb1
    clear p0 p1 p2 hb1
    go_wp2_with fail
    refine (refPic wd2 hg2 b m cap2 ys w1 (H2.out.keep HB1.out)).mono ?_
    rw [← HC2.out]
    rintro e w2 ⟨rfl, hb2⟩
    have r0 := (Lat.trans HB1.out hb2).cell_at HP.out.c0
    have r1 := (Lat.trans HB1.out hb2).cell_at HP.out.c1
    have s0 := (Lat.trans HB1.out hb2).cell_at HQ.out.c0
    have s1 := (Lat.trans HB1.out hb2).cell_at HQ.out.c1
    have HB := Lib.hid (Lat.trans HL0.out (Lat.trans HB1.out hb2))
    clear hb2 q0 q1 q2
    go_wp2
    go_ret
    exact ⟨rfl, HB.out⟩

theorem nearN_up (n s k : Int) (hs : 1 ≤ s) : (k + 1) * s ≤ n + s / 2 ↔ k < nearN n s := by
  unfold nearN
  rw [← Int.le_ediv_iff_mul_le (by omega)]
  omega
theorem refRound_pos (n s : Int) (w : World) (h0 : 0 ≤ n) (h1 : n ≤ 100000) (hs : 1 ≤ s) (hs2 : s ≤ 64) :
    Calls Tryd.prog 22 #[.int .i64 n, .int .i64 s] w fun e w' => e = .returned (.int .i64 (near n s)) ∧ w = w' := by
  have e1 : near n s = nearN n s := by unfold near; rw [if_neg (by omega)]
  have hb := nearN_le n s h0 hs 100000 h1
  have hb0 := (nearN_bd n s h0 hs).1
  rw [e1]
  obtain ⟨V, hV⟩ : ∃ V, V = nearN n s := ⟨_, rfl⟩
  rw [← hV] at hb hb0 ⊢
  obtain ⟨N, rfl⟩ := Int.eq_ofNat_of_zero_le hb0
  have HV := Lib.hid hV
  have d0 : decide (n < 0) = false := decide_eq_false (by omega)
  clear e1 hV
  go_enter Tryd.func22, Tryd.ntmps22
  go_wp2_with fail
  go_loop [5] (fun i => ∃ k : Nat, k ≤ N ∧ i = .int .i64 k) (fun i => N - (intOf i).toNat)
  case atStart => exact ⟨0, Nat.zero_le _, rfl⟩
  case round =>
    obtain ⟨k, hk, rfl⟩ := hrel
    have hup := nearN_up n s k hs
    rw [← HV.out] at hup
    have hmb : ((k : Int) + 1) * s ≤ 100001 * 64 := Int.mul_le_mul (by omega) hs2 (by omega) (by omega)
    have hm0 : 0 ≤ ((k : Int) + 1) * s := Int.mul_nonneg (by omega) (by omega)
    obtain ⟨P, hP⟩ : ∃ P, P = ((k : Int) + 1) * s := ⟨_, rfl⟩
    rw [← hP] at hup hmb hm0
    have eP : ((k : Int) + 1) * s = P := hP.symm
    by_cases hlt : k < N
    · have d1 : decide (P ≤ n + s / 2) = true := decide_eq_true (hup.2 (by omega))
      clear hup hP
      go_wp2
      go_round
      case rel => exact ⟨k + 1, by omega, by go_num⟩
      case measure => simp [intOf]; omega
    · obtain rfl : k = N := by omega
      have d1 : decide (P ≤ n + s / 2) = false := decide_eq_false (fun q => by have := hup.1 q; omega)
      clear hup hP
      go_wp2
      go_ret
      exact ⟨rfl, rfl⟩
theorem refRound (n s : Int) (w : World) (h0 : -100000 ≤ n) (h1 : n ≤ 100000) (hs : 1 ≤ s) (hs2 : s ≤ 64) :
    Calls Tryd.prog 22 #[.int .i64 n, .int .i64 s] w fun e w' => e = .returned (.int .i64 (near n s)) ∧ w = w' := by
  by_cases hn : n < 0
  · have hc := refRound_pos (-n) s w (by omega) (by omega) hs hs2
    have e1 : near n s = - near (-n) s := by unfold near; rw [if_pos hn, if_neg (by omega)]
    have hb := near_bd (-n) s hs 100000 (by omega) (by omega)
    obtain ⟨V, hV⟩ : ∃ V, V = near (-n) s := ⟨_, rfl⟩
    rw [e1]
    rw [← hV] at hc hb ⊢
    have HC := Lib.hid hc
    have d0 : decide (n < 0) = true := decide_eq_true hn
    clear hc e1 hV hn
    go_enter Tryd.func22, Tryd.ntmps22
    go_wp2_with fail
    refine HC.out.mono ?_
    rintro e w' ⟨rfl, rfl⟩
    go_wp2
    go_ret
    exact ⟨rfl, rfl⟩
  · exact refRound_pos n s w (by omega) h1 hs hs2
end Go.Proofs.YtnnjijdpenifjaaDoor
