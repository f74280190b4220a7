/- The contract of rice.Get, one answer whatever is asked. -/
import Derived.Test.YtnnjijdpenifjaaDoorRdr
import Derived.Test.YtnnjijdpenifjaaDoorRiceC
namespace Go.Proofs.YtnnjijdpenifjaaDoor
open Go.ChangeShapes Go.WideShapes Go.ChangeAt Go.RowKit

def bitB (n : Int) : Bool := decide (n = 0 ∨ n = 1)
def bitsB (zs : List Int) : Bool := !zs.any fun z => !bitB z
theorem bitsB_yes {zs : List Int} (h : bitsB zs = true) : ∀ z ∈ zs, z = 0 ∨ z = 1 := by
  intro z hz
  simp only [bitsB, Bool.not_eq_true', List.any_eq_false] at h
  have := h z hz
  cases hq : bitB z with
  | true => exact of_decide_eq_true hq
  | false => exact absurd (by simp [hq]) this
theorem bitsB_of {zs : List Int} (h : ∀ z ∈ zs, z = 0 ∨ z = 1) : bitsB zs = true := by
  simp only [bitsB, Bool.not_eq_true', List.any_eq_false]
  intro z hz
  have hq : bitB z = true := decide_eq_true (h z hz)
  rw [hq]; simp
theorem getTest (zs : List Int) : TestI 78 (fun z => !bitB z) zs := by
  intro z _ w
  by_cases h0 : z = 0
  · subst h0
    go_enter Tryd.func78, Tryd.ntmps78
    go_wp2
    go_ret
    exact ⟨rfl, rfl⟩
  by_cases h1 : z = 1
  · subst h1
    go_enter Tryd.func78, Tryd.ntmps78
    go_wp2
    go_ret
    exact ⟨rfl, rfl⟩
  have d0 : (z != 0) = true := bne_iff_ne.2 h0
  have d1 : (z != 1) = true := bne_iff_ne.2 h1
  have hb : bitB z = false := decide_eq_false (fun h => by omega)
  show Calls _ _ _ w fun e w' => e = .returned (.bool (!bitB z)) ∧ w = w'
  rw [hb]
  clear h0 h1 hb
  go_enter Tryd.func78, Tryd.ntmps78
  go_wp2
  go_ret
  exact ⟨rfl, rfl⟩
theorem newReader (a : Option Addr) (n cap : Nat) (zs : List Int) (w : World) (h : IntsAt w a n cap zs) :
    Calls Tryd.prog 79 #[.slice a n cap] w fun e w' => ∃ g, e = .returned (.pointer (some ⟨g, 0, none⟩)) ∧ w.heap.size ≤ g ∧ Rd w' g a n cap 0 zs ∧ Lat w w' := by
  have hf := h.far (g := w.heap.size) (Nat.le_refl _)
  have H := Lib.hid h
  have HF := Lib.hid hf
  clear h hf
  go_enter Tryd.func79, Tryd.ntmps79
  go_wp2
  go_ret
  exact ⟨w.heap.size, rfl, Nat.le_refl _, ⟨by simp, by simp, by simp, H.out.keep (Lat.alloc _ _), HF.out, Nat.zero_le _⟩, Lat.alloc _ _⟩

/-- the numbers of just these bits -/
def gotN (low many : Nat) (zs : List Int) : Option (List Int) := match numbs low many zs with
  | some (vs, []) => some vs
  | _ => none
def getE (low many : Int) (zs : List Int) : Nat :=
  if lowB low = false ∨ many < 0 ∨ 2000 < many then 1 else if 2000 < zs.length then 4 else if bitsB zs = false then 1 else if gotN low.toNat many.toNat zs = none then 2 else 0
def getR (low many : Int) (zs : List Int) : List Int := if getE low many zs = 0 then (gotN low.toNat many.toNat zs).getD [] else []
theorem getR_bad {low many : Int} {zs : List Int} (h : getE low many zs ≠ 0) : getR low many zs = [] := by unfold getR; rw [if_neg h]
theorem gotN_none {low many : Nat} {zs vs : List Int} {ok : Bool} {q : Nat} (h : NumsPost low many zs 0 vs ok q) (hq : ok = true → zs.drop q ≠ []) : gotN low many zs = none := by
  unfold NumsPost at h
  unfold gotN
  rw [List.drop_zero] at h
  cases hn : numbs low many zs with
  | none => rfl
  | some x =>
    obtain ⟨us, r⟩ := x
    rw [hn] at h
    have := hq h.1
    rw [h.2.2] at this
    cases r with
    | nil => exact absurd rfl this
    | cons b t => rfl
theorem gotN_some {low many : Nat} {zs vs : List Int} {q : Nat} (h : NumsPost low many zs 0 vs true q) (hq : zs.drop q = []) : gotN low many zs = some vs := by
  unfold NumsPost at h
  unfold gotN
  rw [List.drop_zero] at h
  cases hn : numbs low many zs with
  | none => rw [hn] at h; exact absurd h.1 (by simp)
  | some x =>
    obtain ⟨us, r⟩ := x
    rw [hn] at h
    rw [h.2.2] at hq
    rw [hq, h.2.1]
set_option maxHeartbeats 4000000 in
theorem get_tot (a : Option Addr) (n cap : Nat) (zs : List Int) (low many : Int) (w : World) (h : IntsAt w a n cap zs) :
    Calls Tryd.prog 41 #[.slice a n cap, .int .i64 low, .int .i64 many] w fun e w' => ∃ b m c, e = .returned (.tuple #[.slice b m c, errv (getE low many zs)]) ∧ IntsAt w' b m c (getR low many zs) ∧ Lat w w' := by
  have hlen := h.len
  have hcap := h.row.cap
  have hle := h.row.le
  unfold maxLen at hcap
  have hbad : ∀ E : Nat, E ≠ 0 → getE low many zs = E → getR low many zs = [] := fun E h0 he => getR_bad (by omega)
  by_cases h1 : lowB low = false ∨ many < 0 ∨ 2000 < many
  · have e1 : getE low many zs = 1 := by unfold getE; rw [if_pos h1]
    rw [hbad 1 (by omega) e1, e1, errv_pos (show (1 : Nat) ≠ 0 by omega)]
    have hd : lowB low = false ∨ (lowB low = true ∧ decide (many < 0) = true) ∨ (lowB low = true ∧ decide (many < 0) = false ∧ decide (2000 < many) = true) := by
      cases hl : lowB low with
      | false => exact .inl rfl
      | true =>
        by_cases hm : many < 0
        · exact .inr (.inl ⟨rfl, decide_eq_true hm⟩)
        · refine .inr (.inr ⟨rfl, decide_eq_false hm, decide_eq_true ?_⟩)
          rcases h1 with h1 | h1 | h1
          · rw [hl] at h1; cases h1
          · omega
          · exact h1
    clear h1 e1 hbad h hlen
    rcases hd with d1 | ⟨d1, d2⟩ | ⟨d1, d2, d3⟩
    all_goals
      have D1 := Lib.hid d1
      clear d1
      go_enter Tryd.func41, Tryd.ntmps41
      go_wp2_with fail
      refine (rlow_any low w).mono ?_
      rw [D1.out]
      rintro e w' ⟨rfl, rfl⟩
      go_wp2
      go_ret2
      exact ⟨none, 0, 0, rfl, IntsAt.nil _, Lat.refl _⟩
  have g1 : lowB low = true := by cases hq : lowB low <;> simp_all
  have g2 : 0 ≤ many ∧ many ≤ 2000 := by
    constructor
    · by_cases h : 0 ≤ many
      · exact h
      · exact absurd (.inr (.inl (by omega))) h1
    · by_cases h : many ≤ 2000
      · exact h
      · exact absurd (.inr (.inr (by omega))) h1
  obtain ⟨k, rfl⟩ := Int.eq_ofNat_of_zero_le g2.1
  have d2 : decide ((k : Int) < 0) = false := decide_eq_false (by omega)
  have d3 : decide (2000 < (k : Int)) = false := decide_eq_false (by omega)
  have G1 := Lib.hid g1
  by_cases h2 : 2000 < n
  · have e1 : getE low k zs = 4 := by unfold getE; rw [if_neg h1, if_pos (by omega)]
    rw [hbad 4 (by omega) e1, e1, errv_pos (show (4 : Nat) ≠ 0 by omega)]
    have d4 : decide (2000 < (n : Int)) = true := decide_eq_true (by omega)
    clear h1 e1 hbad h hlen g1 g2 h2
    go_enter Tryd.func41, Tryd.ntmps41
    go_wp2_with fail
    refine (rlow_any low w).mono ?_
    rw [G1.out]
    rintro e w' ⟨rfl, rfl⟩
    go_wp2
    go_ret2
    exact ⟨none, 0, 0, rfl, IntsAt.nil _, Lat.refl _⟩
  have d4 : decide (2000 < (n : Int)) = false := decide_eq_false (by omega)
  have hc := containsFuncI 78 (enters_of Tryd.func78 (by kernel_rfl) rfl) (fun z => !bitB z) a n cap zs w h (getTest zs)
  obtain ⟨Y, hY⟩ : ∃ Y, Y = zs.any fun z => !bitB z := ⟨_, rfl⟩
  have hb : bitsB zs = !Y := by rw [hY]; rfl
  rw [← hY] at hc
  cases Y with
  | true =>
    have e1 : getE low k zs = 1 := by unfold getE; rw [if_neg h1, if_neg (by omega), if_pos (by rw [hb]; rfl)]
    rw [hbad 1 (by omega) e1, e1, errv_pos (show (1 : Nat) ≠ 0 by omega)]
    have HC := Lib.hid hc
    clear h1 e1 hbad h hlen g1 g2 h2 hc hY hb
    go_enter Tryd.func41, Tryd.ntmps41
    go_wp2_with fail
    refine (rlow_any low w).mono ?_
    rw [G1.out]
    rintro e w' ⟨rfl, rfl⟩
    go_wp2_with fail
    refine HC.out.mono ?_
    rintro e w' ⟨rfl, rfl⟩
    go_wp2
    go_ret2
    exact ⟨none, 0, 0, rfl, IntsAt.nil _, Lat.refl _⟩
  | false =>
  have hbit := bitsB_yes hb
  have gl := g1
  simp only [lowB, decide_eq_true_eq] at gl
  obtain ⟨l, rfl⟩ := Int.eq_ofNat_of_zero_le gl.1
  have hE : getE l k zs = if gotN l k zs = none then 2 else 0 := by unfold getE; rw [if_neg h1, if_neg (by omega), if_neg (by rw [hb]; simp), Int.toNat_natCast, Int.toNat_natCast]
  have hR : getR l k zs = if getE l k zs = 0 then (gotN l k zs).getD [] else [] := by unfold getR; rw [Int.toNat_natCast, Int.toNat_natCast]
  have hgo : ∀ (W : World) (g : Nat), Rd W g a n cap 0 zs → _ := fun W g hr => rnumbers_any W g a n cap 0 l k zs hr hbit (by omega) (by omega) (by omega)
  have HN := Lib.hid (newReader a n cap zs w h)
  have HGO := Lib.hid hgo
  have HE := Lib.hid hE
  have HR := Lib.hid hR
  have HLe := Lib.hid hlen
  have HC := Lib.hid hc
  obtain ⟨EE, hEE⟩ : ∃ E, E = getE l k zs := ⟨_, rfl⟩
  obtain ⟨RR, hRR⟩ : ∃ E, E = getR l k zs := ⟨_, rfl⟩
  rw [← hEE, ← hRR]
  have HEE := Lib.hid hEE
  have HRR := Lib.hid hRR
  clear h1 hbad h hlen g1 g2 h2 hc hY hb hbit hE hR hgo hEE hRR
  go_enter Tryd.func41, Tryd.ntmps41
  go_wp2_with fail
  refine (rlow_any l w).mono ?_
  rw [G1.out]
  rintro e w' ⟨rfl, rfl⟩
  go_wp2_with fail
  refine HC.out.mono ?_
  rintro e w' ⟨rfl, rfl⟩
  go_wp2_with fail
  refine HN.out.mono ?_
  rintro e w1 ⟨g, rfl, hg, hrd, hb1⟩
  have HG := Lib.hid hg
  have HRD := Lib.hid hrd
  have HB1 := Lib.hid hb1
  clear hg hrd hb1
  go_wp2_with fail
  refine (HGO.out w1 g HRD.out).mono ?_
  rintro e w2 ⟨c, m, cc, vs, ok, q, rfl, hat, hr2, hbut, hpost⟩
  have hl2 := hbut.lat HB1.out HG.out
  have k1 := hr2.c1
  have hq := hr2.le
  have HAT := Lib.hid hat
  have HL2 := Lib.hid hl2
  clear hat hl2 hbut hr2
  cases ok with
  | false =>
    have h0 := gotN_none hpost.out (by simp)
    have e1 : EE = 2 := by rw [HEE.out, HE.out, if_pos h0]
    have e2 : RR = [] := by rw [HRR.out]; exact getR_bad (by rw [← HEE.out, e1]; omega)
    subst e1 e2
    clear h0
    go_wp2
    go_ret2
    exact ⟨none, 0, 0, rfl, IntsAt.nil _, HL2.out⟩
  | true =>
    by_cases hqn : q = n
    · have h0 := gotN_some hpost.out (List.drop_eq_nil_of_le (by rw [HLe.out, hqn]; exact Nat.le_refl _))
      have e1 : EE = 0 := by rw [HEE.out, HE.out, if_neg (by rw [h0]; simp)]
      have e2 : RR = vs := by rw [HRR.out, HR.out, ← HEE.out, if_pos e1, h0]; rfl
      subst e1 e2
      have d5 : ((q : Int) != (n : Int)) = false := by rw [bne_eq_false_iff_eq]; omega
      clear h0 hqn
      go_wp2
      go_ret2
      exact ⟨c, m, cc, rfl, HAT.out, HL2.out⟩
    · have h0 := gotN_none hpost.out (fun _ hd => by
        have := congrArg List.length hd
        rw [List.length_drop, HLe.out] at this
        simp at this
        omega)
      have e1 : EE = 2 := by rw [HEE.out, HE.out, if_pos h0]
      have e2 : RR = [] := by rw [HRR.out]; exact getR_bad (by rw [← HEE.out, e1]; omega)
      subst e1 e2
      have d5 : ((q : Int) != (n : Int)) = true := by rw [bne_iff_ne]; omega
      clear h0 hqn
      go_wp2
      go_ret2
      exact ⟨none, 0, 0, rfl, IntsAt.nil _, HL2.out⟩
end Go.Proofs.YtnnjijdpenifjaaDoor
