/- The contracts of the document's own words on pictures: dropref2.Picture, Two, Apart, within, Shift, Round, Guess, Alone, Rests, Told. -/
import Derived.Test.YtooepflfofgnnaaDoorShiftC
import Derived.Test.YtooepflfofgnnaaDoorAcc
namespace Go.Proofs.YtooepflfofgnnaaDoor
open Go.ChangeShapes Go.WideShapes Go.ChangeAt Go.RowKit

theorem refWithin (n m : Int) (w : World) (hm : 0 ≤ m) :
    Calls Tryd.prog 108 #[.int .i64 n, .int .i64 m] w fun e w' => e = .returned (.int .i64 (max 0 (min m n))) ∧ w = w' := by
  by_cases h1 : n < 0
  · have d1 : decide (n < 0) = true := decide_eq_true h1
    have e1 : max 0 (min m n) = 0 := by omega
    rw [e1]
    clear h1 e1
    go_enter Tryd.func108, Tryd.ntmps108
    go_wp2
    go_ret
    exact ⟨rfl, rfl⟩
  have d1 : decide (n < 0) = false := decide_eq_false h1
  by_cases h2 : m < n
  · have d2 : decide (m < n) = true := decide_eq_true h2
    have e1 : max 0 (min m n) = m := by omega
    rw [e1]
    clear h1 h2 e1
    go_enter Tryd.func108, Tryd.ntmps108
    go_wp2
    go_ret
    exact ⟨rfl, rfl⟩
  have d2 : decide (m < n) = false := decide_eq_false h2
  have e1 : max 0 (min m n) = n := by omega
  rw [e1]
  clear h1 h2 e1
  go_enter Tryd.func108, Tryd.ntmps108
  go_wp2
  go_ret
  exact ⟨rfl, rfl⟩
theorem refGuess (a : Option Addr) (n cap : Nat) (L : List Int) (wd : Nat) (w : World) (h : IntsAt w a n cap L) (hw : 1 ≤ wd) (hw6 : wd ≤ 6) :
    Calls Tryd.prog 107 #[.slice a n cap, .int .i64 wd] w fun e w' => e = .returned (.int .i64 (gss L wd)) ∧ w = w' := by
  have hl := h.len
  have hcap := h.row.cap
  have hle := h.row.le
  unfold maxLen at hcap
  obtain ⟨V, hV⟩ : ∃ V, V = gss L wd := ⟨_, rfl⟩
  rw [← hV]
  have HV := Lib.hid hV
  have HL := Lib.hid hl
  have H := Lib.hid h
  clear hV hl h
  have hz : ((wd : Int) == 0) = false := by rw [beq_eq_false_iff_ne]; omega
  by_cases h0 : n = 0
  · have d0 : ((n : Int) == 0) = true := by rw [beq_iff_eq]; omega
    have e1 : V = 128 := by rw [HV.out, gss_zero wd L (by rw [HL.out]; exact h0)]
    rw [e1]
    clear e1 h0
    go_enter Tryd.func107, Tryd.ntmps107
    go_wp2
    go_ret
    exact ⟨rfl, rfl⟩
  have d0 : ((n : Int) == 0) = false := by rw [beq_eq_false_iff_ne]; omega
  obtain ⟨b, o, rfl, hc⟩ := H.out.row.at_ h0
  obtain ⟨r, hr⟩ : ∃ r, r = n % wd := ⟨_, rfl⟩
  have er : (n : Int) % (wd : Int) = (r : Int) := by rw [hr]; simp
  by_cases h1 : n % wd = 0
  · have hge : wd ≤ n := by
      rcases Nat.lt_or_ge n wd with h | h
      · rw [Nat.mod_eq_of_lt h] at h1; omega
      · exact h
    have d1 : ((r : Int) == 0) = true := by rw [beq_iff_eq]; omega
    have c1 := hc (n - wd) (by omega)
    have e1 : V = L.getD (n - wd) 0 := by rw [HV.out, gss_row wd L (by rw [HL.out]; exact h0) (by rw [HL.out]; exact h1), HL.out]
    rw [← e1] at c1
    have e2 : (n : Int) - (wd : Int) = ((n - wd : Nat) : Int) := by omega
    have i1 : ((n - wd : Nat) : Int) < (n : Int) := by omega
    have i3 : n - wd < n := by omega
    have i2 : (0 : Int) ≤ ((n - wd : Nat) : Int) := by omega
    obtain ⟨q, hq⟩ : ∃ q, q = n - wd := ⟨_, rfl⟩
    rw [← hq] at c1 e2 i1 i2 i3
    clear hc e1 h1 hq hr
    go_enter Tryd.func107, Tryd.ntmps107
    go_wp2
    go_ret
    exact ⟨rfl, rfl⟩
  · have d1 : ((r : Int) == 0) = false := by rw [beq_eq_false_iff_ne]; omega
    have c1 := hc (n - 1) (by omega)
    have e1 : V = L.getD (n - 1) 0 := by rw [HV.out, gss_else wd L (by rw [HL.out]; exact h0) (by rw [HL.out]; exact h1), HL.out]
    rw [← e1] at c1
    have e2 : (n : Int) - 1 = ((n - 1 : Nat) : Int) := by omega
    have i1 : ((n - 1 : Nat) : Int) < (n : Int) := by omega
    have i3 : n - 1 < n := by omega
    have i2 : (0 : Int) ≤ ((n - 1 : Nat) : Int) := by omega
    obtain ⟨q, hq⟩ : ∃ q, q = n - 1 := ⟨_, rfl⟩
    rw [← hq] at c1 e2 i1 i2 i3
    clear hc e1 h1 hq hr
    go_enter Tryd.func107, Tryd.ntmps107
    go_wp2
    go_ret
    exact ⟨rfl, rfl⟩

/-- A list asked from the front: the first that is not as it should be. -/
theorem any_at {p : Int → Bool} {L : List Int} {k : Nat} (hk : k < L.length) (h : p (L.getD k 0) = true) : L.any p = true := List.any_eq_true.2 ⟨_, mem_getD L k hk, h⟩
theorem any_none {p : Int → Bool} {L : List Int} (h : ∀ j, j < L.length → p (L.getD j 0) = false) : L.any p = false := by
  rw [List.any_eq_false]
  intro x hx
  obtain ⟨j, hj, e⟩ := List.getElem_of_mem hx
  have := h j hj
  rw [List.getD_eq_getElem?_getD, List.getElem?_eq_getElem hj, Option.getD_some, e] at this
  rw [this]; simp
theorem refRests (a : Option Addr) (n cap : Nat) (L : List Int) (many : Int) (w : World) (h : IntsAt w a n cap L) :
    Calls Tryd.prog 106 #[.slice a n cap, .int .i64 many] w fun e w' => e = .returned (.int .i64 (rstE L many)) ∧ w = w' := by
  have hl := h.len
  have hcap2 := h.row.cap
  have hle2 := h.row.le
  unfold maxLen at hcap2
  have H := Lib.hid h
  obtain ⟨C, hC⟩ : ∃ C, C = rstE L many := ⟨_, rfl⟩
  rw [← hC]
  have HC := Lib.hid hC
  have HL := Lib.hid hl
  clear h hC hl
  by_cases hm : (n : Int) = many
  case neg =>
    have d1 : ((n : Int) != many) = true := by rw [bne_iff_ne]; exact hm
    have e1 : C = 3 := by rw [HC.out]; unfold rstE; rw [if_pos (by rw [HL.out]; exact hm)]
    rw [e1]
    clear e1 hm
    go_enter Tryd.func106, Tryd.ntmps106
    go_wp2
    go_ret
    exact ⟨rfl, rfl⟩
  have d1 : ((n : Int) != many) = false := by rw [bne_eq_false_iff_eq]; exact hm
  have e0 : C = if L.any (fun z => !restB z) = true then 1 else 0 := by rw [HC.out]; unfold rstE; rw [if_neg (by rw [HL.out]; exact fun h => h hm)]
  have E0 := Lib.hid e0
  clear hm e0
  go_enter Tryd.func106, Tryd.ntmps106
  go_wp2_with fail
  go_loop [5] (fun i => ∃ k : Nat, k ≤ n ∧ i = .int .i64 k ∧ Hid (∀ j, j < k → (!restB (L.getD j 0)) = false)) (fun i => n - (intOf i).toNat)
  case atStart => exact ⟨0, Nat.zero_le _, rfl, fun j hj => absurd hj (Nat.not_lt_zero _)⟩
  case round =>
    obtain ⟨k, hk, rfl, hrel⟩ := hrel
    by_cases hlt : k < n
    · obtain ⟨b, o, rfl, hc⟩ := H.out.row.at_ (by omega)
      have c1 := hc k hlt
      obtain ⟨z, hz⟩ : ∃ z, z = L.getD k 0 := ⟨_, rfl⟩
      rw [← hz] at c1
      have hd : (decide (z < -255) = true ∧ C = 1) ∨ (decide (z < -255) = false ∧ decide (255 < z) = true ∧ C = 1) ∨ (decide (z < -255) = false ∧ decide (255 < z) = false ∧ (!restB z) = false) := by
        by_cases h1 : z < -255
        · refine .inl ⟨decide_eq_true h1, ?_⟩
          rw [E0.out, if_pos (any_at (k := k) (by rw [HL.out]; exact hlt) (by rw [← hz]; simp [restB]; omega))]
        · by_cases h2 : 255 < z
          · refine .inr (.inl ⟨decide_eq_false h1, decide_eq_true h2, ?_⟩)
            rw [E0.out, if_pos (any_at (k := k) (by rw [HL.out]; exact hlt) (by rw [← hz]; simp [restB]; omega))]
          · exact .inr (.inr ⟨decide_eq_false h1, decide_eq_false h2, by simp [restB]; omega⟩)
      have HZ := Lib.hid hz
      clear hc hz
      rcases hd with ⟨q1, q2⟩ | ⟨q1, q2, q3⟩ | ⟨q1, q2, q3⟩
      · have Q := Lib.hid q2
        clear q2
        go_wp2
        go_ret
        exact ⟨by rw [Q.out]; rfl, rfl⟩
      · have Q := Lib.hid q3
        clear q3
        go_wp2
        go_ret
        exact ⟨by rw [Q.out]; rfl, rfl⟩
      · have Q := Lib.hid q3
        clear q3
        go_wp2
        go_round
        case rel => exact ⟨k + 1, by omega, by go_num, fun j hj => by
          by_cases e : j = k
          · subst e; rw [← HZ.out]; exact Q.out
          · exact hrel.out j (by omega)⟩
        case measure => simp [intOf]; omega
    · obtain rfl : k = n := by omega
      have e1 : C = 0 := by rw [E0.out, any_none (fun j hj => hrel.out j (by rw [← HL.out]; exact hj))]; rfl
      have E1 := Lib.hid e1
      clear e1
      go_wp2
      go_ret
      exact ⟨by rw [E1.out]; rfl, rfl⟩

set_option maxHeartbeats 1000000 in
theorem refPic (wd hg : Int) (a : Option Addr) (n cap : Nat) (zs : List Int) (w : World) (h : IntsAt w a n cap zs) :
    Calls Tryd.prog 109 #[picV wd hg a n cap] w fun e w' => e = .returned (.int .i64 (chkPic wd hg zs)) ∧ Lat w w' := by
  obtain ⟨W0, hW0⟩ : ∃ W, W = w.alloc (.cells #[.int .i64 wd, .int .i64 hg, .slice a n cap] 132) := ⟨_, rfl⟩
  have hl0 : Lat w W0 := by rw [hW0]; exact Lat.alloc _ _
  have k0 : W0.cell? ⟨w.heap.size, 0, none⟩ = some (.int .i64 wd) := by rw [hW0]; simp
  have k1 : W0.cell? ⟨w.heap.size, 1, none⟩ = some (.int .i64 hg) := by rw [hW0]; simp
  have k2 : W0.cell? ⟨w.heap.size, 2, none⟩ = some (.slice a n cap) := by rw [hW0]; simp
  have H := Lib.hid (h.keep hl0)
  have HL0 := Lib.hid hl0
  obtain ⟨C, hC⟩ : ∃ C, C = chkPic wd hg zs := ⟨_, rfl⟩
  rw [← hC]
  have hl := h.len
  have HC := Lib.hid hC
  have HL := Lib.hid hl
  have hcap2 := h.row.cap
  have hle2 := h.row.le
  unfold maxLen at hcap2
  have hd : (decide (wd < 1) = true ∧ C = 1) ∨ (decide (wd < 1) = false ∧ decide (6 < wd) = true ∧ C = 1) ∨ (decide (wd < 1) = false ∧ decide (6 < wd) = false ∧ decide (hg < 1) = true ∧ C = 1) ∨ (decide (wd < 1) = false ∧ decide (6 < wd) = false ∧ decide (hg < 1) = false ∧ decide (6 < hg) = true ∧ C = 1) ∨
      (decide (wd < 1) = false ∧ decide (6 < wd) = false ∧ decide (hg < 1) = false ∧ decide (6 < hg) = false ∧ 1 ≤ wd ∧ wd ≤ 6 ∧ 1 ≤ hg ∧ hg ≤ 6) := by
    have hb : (sideB wd = false ∨ sideB hg = false) → C = 1 := fun q => by rw [hC]; unfold chkPic; rw [if_pos q]
    by_cases p1 : wd < 1
    · exact .inl ⟨decide_eq_true p1, hb (.inl (by simp [sideB]; omega))⟩
    by_cases p2 : 6 < wd
    · exact .inr (.inl ⟨decide_eq_false p1, decide_eq_true p2, hb (.inl (by simp [sideB]; omega))⟩)
    by_cases p3 : hg < 1
    · exact .inr (.inr (.inl ⟨decide_eq_false p1, decide_eq_false p2, decide_eq_true p3, hb (.inr (by simp [sideB]; omega))⟩))
    by_cases p4 : 6 < hg
    · exact .inr (.inr (.inr (.inl ⟨decide_eq_false p1, decide_eq_false p2, decide_eq_false p3, decide_eq_true p4, hb (.inr (by simp [sideB]; omega))⟩)))
    · exact .inr (.inr (.inr (.inr ⟨decide_eq_false p1, decide_eq_false p2, decide_eq_false p3, decide_eq_false p4, by omega, by omega, by omega, by omega⟩)))
  clear h hC hl hl0
  rcases hd with ⟨q1, q2⟩ | ⟨q1, q2, q3⟩ | ⟨q1, q2, q3, q4⟩ | ⟨q1, q2, q3, q4, q5⟩ | ⟨q1, q2, q3, q4, b1, b2, b3, b4⟩
  · subst q2
    go_enter Tryd.func109, Tryd.ntmps109
    go_upto_region 1 with fail
    rw [← hW0]
    clear hW0
    go_wp2
    go_ret
    exact ⟨rfl, HL0.out⟩
  · subst q3
    go_enter Tryd.func109, Tryd.ntmps109
    go_upto_region 1 with fail
    rw [← hW0]
    clear hW0
    go_wp2
    go_ret
    exact ⟨rfl, HL0.out⟩
  · subst q4
    go_enter Tryd.func109, Tryd.ntmps109
    go_upto_region 1 with fail
    rw [← hW0]
    clear hW0
    go_wp2
    go_ret
    exact ⟨rfl, HL0.out⟩
  · subst q5
    go_enter Tryd.func109, Tryd.ntmps109
    go_upto_region 1 with fail
    rw [← hW0]
    clear hW0
    go_wp2
    go_ret
    exact ⟨rfl, HL0.out⟩
  obtain ⟨M, hM⟩ : ∃ M, M = wd * hg := ⟨_, rfl⟩
  have m1 : wd * hg ≤ 6 * 6 := Int.mul_le_mul b2 b4 (by omega) (by omega)
  have m0 : 0 ≤ wd * hg := Int.mul_nonneg (by omega) (by omega)
  rw [← hM] at m0 m1
  have eM : wd * hg = M := hM.symm
  by_cases hn : (n : Int) = M
  case neg =>
    have d1 : ((n : Int) != M) = true := by rw [bne_iff_ne]; exact hn
    have e1 : C = 3 := by rw [HC.out]; unfold chkPic; rw [if_neg (by simp [sideB]; omega), if_pos (by rw [HL.out, eM]; exact hn)]
    subst e1
    clear hn hM
    go_enter Tryd.func109, Tryd.ntmps109
    go_upto_region 1 with fail
    rw [← hW0]
    clear hW0
    go_wp2
    go_ret
    exact ⟨rfl, HL0.out⟩
  have d1 : ((n : Int) != M) = false := by rw [bne_eq_false_iff_eq]; exact hn
  have e0 : C = if zs.any (fun z => !pixB z) = true then 1 else 0 := by rw [HC.out]; unfold chkPic; rw [if_neg (by simp [sideB]; omega), if_neg (by rw [HL.out, eM]; exact fun h => h hn)]
  have E0 := Lib.hid e0
  clear hn hM e0
  go_enter Tryd.func109, Tryd.ntmps109
  go_upto_region 1 with fail
  rw [← hW0]
  clear hW0
  go_wp2_with fail
  go_loop [3] (fun i => ∃ k : Nat, k ≤ n ∧ i = .int .i64 k ∧ Hid (∀ j, j < k → (!pixB (zs.getD j 0)) = false)) (fun i => n - (intOf i).toNat)
  case atStart => exact ⟨0, Nat.zero_le _, rfl, fun j hj => absurd hj (Nat.not_lt_zero _)⟩
  case round =>
    obtain ⟨k, hk, rfl, hrel⟩ := hrel
    by_cases hlt : k < n
    · obtain ⟨b, o, rfl, hc⟩ := H.out.row.at_ (by omega)
      have c1 := hc k hlt
      obtain ⟨z, hz⟩ : ∃ z, z = zs.getD k 0 := ⟨_, rfl⟩
      rw [← hz] at c1
      have hd : (decide (z < 0) = true ∧ C = 1) ∨ (decide (z < 0) = false ∧ decide (255 < z) = true ∧ C = 1) ∨ (decide (z < 0) = false ∧ decide (255 < z) = false ∧ (!pixB z) = false) := by
        by_cases h1 : z < 0
        · refine .inl ⟨decide_eq_true h1, ?_⟩
          rw [E0.out, if_pos (any_at (k := k) (by rw [HL.out]; exact hlt) (by rw [← hz]; simp [pixB]; omega))]
        · by_cases h2 : 255 < z
          · refine .inr (.inl ⟨decide_eq_false h1, decide_eq_true h2, ?_⟩)
            rw [E0.out, if_pos (any_at (k := k) (by rw [HL.out]; exact hlt) (by rw [← hz]; simp [pixB]; omega))]
          · exact .inr (.inr ⟨decide_eq_false h1, decide_eq_false h2, by simp [pixB]; omega⟩)
      have HZ := Lib.hid hz
      clear hc hz
      rcases hd with ⟨q1, q2⟩ | ⟨q1, q2, q3⟩ | ⟨q1, q2, q3⟩
      · have Q := Lib.hid q2
        clear q2
        go_wp2
        go_ret
        exact ⟨by rw [Q.out]; rfl, HL0.out⟩
      · have Q := Lib.hid q3
        clear q3
        go_wp2
        go_ret
        exact ⟨by rw [Q.out]; rfl, HL0.out⟩
      · have Q := Lib.hid q3
        clear q3
        go_wp2
        go_round
        case rel => exact ⟨k + 1, by omega, by go_num, fun j hj => by
          by_cases e : j = k
          · subst e; rw [← HZ.out]; exact Q.out
          · exact hrel.out j (by omega)⟩
        case measure => simp [intOf]; omega
    · obtain rfl : k = n := by omega
      have e1 : C = 0 := by rw [E0.out, any_none (fun j hj => hrel.out j (by rw [← HL.out]; exact hj))]; rfl
      have E1 := Lib.hid e1
      clear e1
      go_wp2
      go_ret
      exact ⟨by rw [E1.out]; rfl, HL0.out⟩

def beq0 (n : Nat) : Bool := (n : Int) == 0
theorem nearN_up (n s k : Int) (hs : 1 ≤ s) : (k + 1) * s ≤ n + s / 2 ↔ k < nearN n s := by
  unfold nearN
  rw [← Int.le_ediv_iff_mul_le (by omega)]
  omega
end Go.Proofs.YtooepflfofgnnaaDoor
