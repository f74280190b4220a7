/- The contracts of the document's Reader: Bit, Number, on bits that are 0 or 1. -/
import Derived.Test.YtnnjijdpenifjaaDoorRdr
import Derived.Deep.DeepCutAuto
import Derived.Deep.CutBlock
namespace Go.Proofs.YtnnjijdpenifjaaDoor
open Go.ChangeShapes Go.WideShapes Go.ChangeAt Go.RowKit

/-- The document's reader at block g. -/
structure RdR (w : World) (g : Nat) (a : Option Addr) (n cap p : Nat) (zs : List Int) (bad : Bool) : Prop where
  c0 : w.cell? ⟨g, 0, none⟩ = some (.slice a n cap)
  c1 : w.cell? ⟨g, 1, none⟩ = some (.int .i64 p)
  c2 : w.cell? ⟨g, 2, none⟩ = some (.bool bad)
  f1 : w.frozen? ⟨g, 1, none⟩ = false
  f2 : w.frozen? ⟨g, 2, none⟩ = false
  ints : IntsAt w a n cap zs
  far : n ≠ 0 → ∀ b o, a = some ⟨b, o, none⟩ → b ≠ g
  le : p ≤ n
theorem RdR.set {w : World} {g : Nat} {a : Option Addr} {n cap p : Nat} {zs : List Int} {bad : Bool} (h : RdR w g a n cap p zs bad) {q : Nat} {v : Int} (hq : q ≤ n) (hv : v = q) : RdR (w.setCell ⟨g, 1, none⟩ (.int .i64 v)) g a n cap q zs bad := by
  subst hv
  refine ⟨?_, World.cell?_setCell_same _ _ _ h.c1, ?_, by rw [World.frozen?_setCell]; exact h.f1, by rw [World.frozen?_setCell]; exact h.f2, h.ints.only (Only.set w ⟨g, 1, none⟩ _) h.far, h.far, hq⟩
  · rw [World.cell?_setCell_other _ _ _ _ (by simp)]; exact h.c0
  · rw [World.cell?_setCell_other _ _ _ _ (by simp)]; exact h.c2
theorem RdR.setBad {w : World} {g : Nat} {a : Option Addr} {n cap p : Nat} {zs : List Int} {bad : Bool} (h : RdR w g a n cap p zs bad) (b : Bool) : RdR (w.setCell ⟨g, 2, none⟩ (.bool b)) g a n cap p zs b := by
  refine ⟨?_, ?_, World.cell?_setCell_same _ _ _ h.c2, by rw [World.frozen?_setCell]; exact h.f1, by rw [World.frozen?_setCell]; exact h.f2, h.ints.only (Only.set w ⟨g, 2, none⟩ _) h.far, h.far, h.le⟩
  · rw [World.cell?_setCell_other _ _ _ _ (by simp)]; exact h.c0
  · rw [World.cell?_setCell_other _ _ _ _ (by simp)]; exact h.c1
theorem RdR.lt {w : World} {g : Nat} {a : Option Addr} {n cap p : Nat} {zs : List Int} {bad : Bool} (h : RdR w g a n cap p zs bad) : g < w.heap.size := World.block_lt_of_cell? _ _ h.c0
theorem RdR.keep {w w' : World} {g : Nat} {a : Option Addr} {n cap p : Nat} {zs : List Int} {bad : Bool} (h : RdR w g a n cap p zs bad) (hb : Lat w w') : RdR w' g a n cap p zs bad :=
  ⟨hb.cell_at h.c0, hb.cell_at h.c1, hb.cell_at h.c2, hb.free_at h.lt h.f1, hb.free_at h.lt h.f2, h.ints.keep hb, h.far, h.le⟩
theorem RdR.below {w w1 w2 : World} {g : Nat} {a : Option Addr} {n cap p q : Nat} {zs : List Int} {bad bad1 : Bool} (h0 : RdR w g a n cap p zs bad) (h1 : RdR w1 g a n cap q zs bad1) (ho : But g w w1) (hb : Below w.heap.size w1 w2) : RdR w2 g a n cap q zs bad1 := by
  have hl := h0.lt
  exact ⟨by rw [hb.cell hl]; exact h1.c0, by rw [hb.cell hl]; exact h1.c1, by rw [hb.cell hl]; exact h1.c2, by rw [hb.frozen hl]; exact h1.f1, by rw [hb.frozen hl]; exact h1.f2, h0.ints.but (ho.below hb) h0.far, h0.far, h1.le⟩

set_option maxHeartbeats 1000000 in
theorem sbit_yes (w : World) (g : Nat) (a : Option Addr) (n cap p : Nat) (zs : List Int) (bad : Bool) (h : RdR w g a n cap p zs bad) (hp : p < n) :
    Calls Tryd.prog 77 #[.pointer (some ⟨g, 0, none⟩)] w fun e w' => e = .returned (.int .i64 (zs.getD p 0)) ∧ RdR w' g a n cap (p + 1) zs bad ∧ Only g w w' := by
  have c0 := h.c0
  have c1 := h.c1
  have f1 := h.f1
  have hcap := h.ints.row.cap
  have hle := h.ints.row.le
  unfold maxLen at hcap
  have d1 : decide ((n : Int) ≤ (p : Int)) = false := decide_eq_false (by omega)
  obtain ⟨b1, o1, rfl, hc1⟩ := h.ints.row.at_ (by omega)
  have k1 := hc1 p hp
  have hf := h.far (by omega) b1 o1 rfl
  obtain ⟨z, hz⟩ : ∃ z, z = zs.getD p 0 := ⟨_, rfl⟩
  rw [← hz] at k1 ⊢
  have hf2 : ¬ g = b1 := fun e => hf e.symm
  have H := Lib.hid h
  clear h hc1 hz
  go_enter Tryd.func77, Tryd.ntmps77
  go_wp2_with fail
  go_quiet (fail)
  go_wp2_with fail
  have u1 : IntKind.i64.wrap ((p : Int) + 1 - 1) = p := by rw [Int.add_sub_cancel]; exact IntWalk.i64_in _ (by omega)
  have u2 : IntKind.i64.wrap (p : Int) = p := IntWalk.i64_in _ (by omega)
  have u3 : (0 : Int) ≤ p := by omega
  have u4 : (p : Int) < n := by omega
  go_quiet (fail)
  clear u1 u2 u3 u4
  go_wp2_with fail
  go_ret
  exact ⟨rfl, ((H.out.keep (Lat.drewN _ _)).set (by omega) (by omega)).keep (Lat.drewN _ _), ((Only.start _ _ _).trans (Only.set _ ⟨g, 1, none⟩ _)).drewN _⟩
set_option maxHeartbeats 1000000 in
theorem sbit_no (w : World) (g : Nat) (a : Option Addr) (n cap p : Nat) (zs : List Int) (bad : Bool) (h : RdR w g a n cap p zs bad) (hp : p = n) :
    Calls Tryd.prog 77 #[.pointer (some ⟨g, 0, none⟩)] w fun e w' => e = .returned (.int .i64 0) ∧ RdR w' g a n cap p zs true ∧ Only g w w' := by
  subst hp
  have c0 := h.c0
  have c1 := h.c1
  have c2 := h.c2
  have f2 := h.f2
  have d1 : decide ((p : Int) ≤ (p : Int)) = true := decide_eq_true (by omega)
  have H := Lib.hid h
  clear h
  go_enter Tryd.func77, Tryd.ntmps77
  go_wp2_with fail
  go_quiet (fail)
  go_wp2_with fail
  go_ret
  exact ⟨rfl, (H.out.keep (Lat.drewN _ _)).setBad true, (Only.start _ _ _).trans (Only.set _ ⟨g, 2, none⟩ _)⟩

theorem bitsN_from : ∀ (k a : Nat) (l : List Int), bitsN k a l = match bitsN k 0 l with
    | none => none
    | some (n, r) => some (a * 2 ^ k + n, r)
  | 0, a, l => by simp [bitsN]
  | k + 1, a, [] => by simp [bitsN]
  | k + 1, a, b :: t => by
    rw [bitsN, bitsN, bitsN_from k (2 * a + b.toNat) t, bitsN_from k (2 * 0 + b.toNat) t]
    cases bitsN k 0 t with
    | none => rfl
    | some y =>
      obtain ⟨n, r⟩ := y
      simp only [Option.some.injEq, Prod.mk.injEq, and_true]
      rw [Nat.pow_succ, Nat.mul_zero, Nat.zero_add, Nat.add_mul, Nat.mul_comm 2 a, Nat.mul_assoc, Nat.mul_comm 2 (2 ^ k), Nat.add_assoc]
/-- What the document's Number answers. -/
def RNumPost (low : Nat) (zs : List Int) (p : Nat) (bad : Bool) (x : Int) (q : Nat) (bad2 : Bool) : Prop := match numb low (zs.drop p) with
  | some (v, r) => bad2 = bad ∧ x = v ∧ zs.drop q = r
  | none => bad2 = true
/-- What the reader stands at, before and between the low bits. -/
def RAt (low : Nat) (zs : List Int) (p : Nat) (bad : Bool) (i m q : Nat) (bad2 : Bool) : Prop :=
  (∃ u l, unary (zs.drop p) = some (u, l) ∧ bad2 = bad ∧ bitsN low u l = bitsN (low - i) m (zs.drop q)) ∨ (bad2 = true ∧ numb low (zs.drop p) = none)
theorem RAt.end_ {low : Nat} {zs : List Int} {p q k : Nat} {bad : Bool} {i m : Nat} {q2 : Nat} (h : unary (zs.drop p) = bump k (unary (zs.drop q))) (hq : zs.length ≤ q) : RAt low zs p bad i m q2 true := by
  refine .inr ⟨rfl, ?_⟩
  unfold numb; rw [h, List.drop_eq_nil_of_le hq]; rfl
theorem RAt.begin_ {low : Nat} {zs : List Int} {p k : Nat} {bad : Bool} (h : unary (zs.drop p) = bump k (unary (zs.drop (p + k)))) (hz : zs.getD (p + k) 0 = 0) (hl : p + k < zs.length) : RAt low zs p bad 0 k (p + k + 1) bad := by
  refine .inl ⟨k, zs.drop (p + k + 1), ?_, rfl, rfl⟩
  rw [h, drop_cons zs _ hl, hz, unary, if_pos rfl]
  simp [bump]
theorem RAt.go {low : Nat} {zs : List Int} {p q : Nat} {bad bad2 : Bool} {i m c : Nat} (h : RAt low zs p bad i m q bad2) (hi : i < low) (hq : q < zs.length) (hc : zs.getD q 0 = (c : Int)) : RAt low zs p bad (i + 1) (2 * m + c) (q + 1) bad2 := by
  rcases h with ⟨u, l, h1, h2, h3⟩ | h
  · refine .inl ⟨u, l, h1, h2, ?_⟩
    rw [h3, drop_cons zs q hq, hc, show low - i = (low - (i + 1)) + 1 by omega, bitsN, Int.toNat_natCast]
  · exact .inr h
theorem RAt.stop {low : Nat} {zs : List Int} {p q : Nat} {bad bad2 : Bool} {i m i2 m2 q2 : Nat} (h : RAt low zs p bad i m q bad2) (hi : i < low) (hq : zs.length ≤ q) : RAt low zs p bad i2 m2 q2 true := by
  refine .inr ⟨rfl, ?_⟩
  rcases h with ⟨u, l, h1, h2, h3⟩ | h
  · rw [List.drop_eq_nil_of_le hq, show low - i = (low - (i + 1)) + 1 by omega, bitsN, bitsN_from] at h3
    unfold numb
    rw [h1]
    simp only
    cases hn : bitsN low 0 l with
    | none => rfl
    | some y => rw [hn] at h3; simp at h3
  · exact h.2
theorem RAt.big {low : Nat} {zs : List Int} {p q : Nat} {bad bad2 : Bool} {m : Nat} (h : RAt low zs p bad low m q bad2) (hm : 510 < m) (x : Int) : RNumPost low zs p bad x q true := by
  unfold RNumPost
  rcases h with ⟨u, l, h1, h2, h3⟩ | h
  · rw [Nat.sub_self, bitsN, bitsN_from] at h3
    unfold numb
    rw [h1]
    simp only
    cases hn : bitsN low 0 l with
    | none => trivial
    | some y =>
      obtain ⟨n, r⟩ := y
      rw [hn] at h3
      simp only [Option.some.injEq, Prod.mk.injEq] at h3
      simp only
      rw [h3.1, if_neg (by omega)]; trivial
  · rw [h.2]
theorem RAt.small {low : Nat} {zs : List Int} {p q : Nat} {bad bad2 : Bool} {m : Nat} (h : RAt low zs p bad low m q bad2) (hm : m ≤ 510) : RNumPost low zs p bad (unf (m : Int)) q bad2 := by
  unfold RNumPost
  rcases h with ⟨u, l, h1, h2, h3⟩ | h
  · rw [Nat.sub_self, bitsN, bitsN_from] at h3
    unfold numb
    rw [h1]
    simp only
    cases hn : bitsN low 0 l with
    | none => rw [hn] at h3; simp at h3
    | some y =>
      obtain ⟨n, r⟩ := y
      rw [hn] at h3
      simp only [Option.some.injEq, Prod.mk.injEq] at h3
      simp only
      rw [h3.1, if_pos hm]
      exact ⟨h2, rfl, h3.2.symm⟩
  · rw [h.2]; exact h.1

set_option maxHeartbeats 4000000 in
set_option maxRecDepth 100000 in
theorem snumber_any (w : World) (g : Nat) (a : Option Addr) (n cap p low : Nat) (zs : List Int) (bad : Bool) (h : RdR w g a n cap p zs bad) (hb : ∀ z ∈ zs, z = 0 ∨ z = 1) (hn : n ≤ 2000) (hl : low ≤ 7) :
    Calls Tryd.prog 40 #[.pointer (some ⟨g, 0, none⟩), .int .i64 low] w fun e w' => ∃ x q bad2, e = .returned (.int .i64 x) ∧ RdR w' g a n cap q zs bad2 ∧ Only g w w' ∧ Hid (RNumPost low zs p bad x q bad2) := by
  have H := Lib.hid h
  have HB := Lib.hid hb
  have HLe := Lib.hid h.ints.len
  clear h hb
  go_enter Tryd.func40, Tryd.ntmps40
  go_upto_block 0 with fail
  go_cut [5] (fun v wx => ∃ m q bad2, v = .int .i64 (m : Nat) ∧ m ≤ 2000 ∧ Hid (RdR wx g a n cap q zs bad2 ∧ Only g w wx ∧ RAt low zs p bad 0 m q bad2))
  case first =>
    go_wp2_with fail
    go_loopw [5] (fun v wr => ∃ q : Nat, p + q ≤ n ∧ v = .int .i64 q ∧ Hid (RdR wr g a n cap (p + q) zs bad ∧ Only g w wr ∧ unary (zs.drop p) = bump q (unary (zs.drop (p + q))))) (fun v _ => n - p - (intOf v).toNat)
    case atStart => exact ⟨0, by have := H.out.le; omega, rfl, H.out, Only.refl _ _, (bump_zero _).symm⟩
    case round =>
      obtain ⟨q, hq, rfl, hrel⟩ := hrel
      by_cases hp : p + q < n
      case neg =>
        have hp2 : p + q = n := by omega
        have hcall := sbit_no wr g a n cap (p + q) zs bad hrel.out.1 hp2
        have HC := Lib.hid hcall
        have HP := Lib.hid hp2
        clear hcall hp hp2
        go_wp2_with fail
        refine HC.out.mono ?_
        rintro e w1 ⟨rfl, hr1, ho1⟩
        have HR1 := Lib.hid hr1
        have HO1 := Lib.hid ho1
        clear hr1 ho1
        go_wp2_with fail
        go_meet
        case rel => exact ⟨q, p + q, true, rfl, by omega, HR1.out, hrel.out.2.1.trans HO1.out, RAt.end_ hrel.out.2.2 (by rw [HLe.out]; have := HP.out; omega)⟩
      have hcall := sbit_yes wr g a n cap (p + q) zs bad hrel.out.1 hp
      rcases HB.out _ (mem_getD zs (p + q) (by rw [HLe.out]; exact hp)) with hz | hz
      · rw [hz] at hcall
        have HC := Lib.hid hcall
        have HZ := Lib.hid hz
        clear hcall hz
        go_wp2_with fail
        refine HC.out.mono ?_
        rintro e w1 ⟨rfl, hr1, ho1⟩
        have HR1 := Lib.hid hr1
        have HO1 := Lib.hid ho1
        clear hr1 ho1
        go_wp2_with fail
        go_meet
        case rel => exact ⟨q, p + q + 1, bad, rfl, by omega, HR1.out, hrel.out.2.1.trans HO1.out, RAt.begin_ hrel.out.2.2 HZ.out (by rw [HLe.out]; exact hp)⟩
      · rw [hz] at hcall
        have hun := hrel.out.2.2
        rw [drop_cons zs (p + q) (by rw [HLe.out]; exact hp), hz, bump_one] at hun
        have HC := Lib.hid hcall
        have HUN := Lib.hid hun
        clear hcall hz hun
        go_wp2_with fail
        refine HC.out.mono ?_
        rintro e w1 ⟨rfl, hr1, ho1⟩
        have HO1 := Lib.hid (hrel.out.2.1.trans ho1)
        have HR1 := Lib.hid hr1
        clear hr1 ho1
        go_wp2_with fail
        go_roundw
        case rel => exact ⟨q + 1, by omega, by go_num, HR1.out, HO1.out, HUN.out⟩
        case measure => simp [intOf]; omega
  case rest =>
  obtain ⟨m0, q0, bad0, rfl, hm0, hcut⟩ := hcut
  generalize wc = w0 at *
  go_wp2_with fail
  go_loopw [5, 6] (fun v i wr => ∃ (i' m q : Nat) (bad2 : Bool), i' ≤ low ∧ i = .int .i64 i' ∧ v = .int .i64 m ∧ m ≤ 300000 ∧ Hid (RdR wr g a n cap q zs bad2 ∧ Only g w wr ∧ RAt low zs p bad i' m q bad2 ∧ m < 2001 * 2 ^ i')) (fun _ i _ => low - (intOf i).toNat)
  case atStart => exact ⟨0, m0, q0, bad0, Nat.zero_le _, rfl, rfl, by omega, hcut.out.1, hcut.out.2.1, hcut.out.2.2, by omega⟩
  case round =>
    obtain ⟨i, m, q, bad2, hi, rfl, rfl, hm, hrel⟩ := hrel
    by_cases hlt : i < low
    · have hpw : 2 ^ (i + 1) ≤ 2 ^ 7 := Nat.pow_le_pow_right (by omega) (by omega)
      have hps : 2 ^ (i + 1) = 2 * 2 ^ i := by rw [Nat.pow_succ]; omega
      have hmb := hrel.out.2.2.2
      by_cases hp : q < n
      · have hcall := sbit_yes wr g a n cap q zs bad2 hrel.out.1 hp
        have hz := HB.out _ (mem_getD zs q (by rw [HLe.out]; exact hp))
        obtain ⟨c, hc, hcb⟩ : ∃ c : Nat, c < 2 ∧ zs.getD q 0 = c := by rcases hz with h | h; exact ⟨0, by omega, by rw [h]; rfl⟩; exact ⟨1, by omega, by rw [h]; rfl⟩
        rw [hcb] at hcall
        have hat := RAt.go hrel.out.2.2.1 hlt (by rw [HLe.out]; exact hp) hcb
        have hm2 : 2 * m + c < 2001 * 2 ^ (i + 1) := by omega
        have hm3 : 2 * m + c ≤ 300000 := by omega
        have HC := Lib.hid hcall
        have HAT := Lib.hid hat
        have HM2 := Lib.hid hm2
        have HM3 := Lib.hid hm3
        clear hcall hz hcb hat hm2 hm3 hmb hps hpw
        go_wp2_with fail
        refine HC.out.mono ?_
        rintro e w1 ⟨rfl, hr1, ho1⟩
        have HR1 := Lib.hid hr1
        have HO1 := Lib.hid ho1
        clear hr1 ho1
        go_wp2_with fail
        go_roundw
        case rel => exact ⟨i + 1, 2 * m + c, q + 1, bad2, by omega, by go_num, by go_num, HM3.out, HR1.out, hrel.out.2.1.trans HO1.out, HAT.out, HM2.out⟩
        case measure => simp [intOf]; omega
      · have hp2 : q = n := by have := hrel.out.1.le; omega
        have hcall := sbit_no wr g a n cap q zs bad2 hrel.out.1 hp2
        have hat : RAt low zs p bad (i + 1) (2 * m) q true := RAt.stop hrel.out.2.2.1 hlt (by rw [HLe.out]; omega)
        have hm2 : 2 * m < 2001 * 2 ^ (i + 1) := by omega
        have hm3 : 2 * m ≤ 300000 := by omega
        have HC := Lib.hid hcall
        have HAT := Lib.hid hat
        have HM2 := Lib.hid hm2
        have HM3 := Lib.hid hm3
        clear hcall hat hm2 hm3 hmb hps hpw hp hp2
        go_wp2_with fail
        refine HC.out.mono ?_
        rintro e w1 ⟨rfl, hr1, ho1⟩
        have HR1 := Lib.hid hr1
        have HO1 := Lib.hid ho1
        clear hr1 ho1
        go_wp2_with fail
        go_roundw
        case rel => exact ⟨i + 1, 2 * m, q, true, by omega, by go_num, by go_num, HM3.out, HR1.out, hrel.out.2.1.trans HO1.out, HAT.out, HM2.out⟩
        case measure => simp [intOf]; omega
    · obtain rfl : i = low := by omega
      by_cases h5 : 510 < m
      · have d1 : decide (510 < (m : Int)) = true := decide_eq_true (by omega)
        have k2 := hrel.out.1.c2
        have f2 := hrel.out.1.f2
        have hfin := RAt.big hrel.out.2.2.1 h5 0
        have HF := Lib.hid hfin
        clear h5 hfin
        go_wp2_with fail
        go_ret
        exact ⟨0, q, true, rfl, hrel.out.1.setBad true, hrel.out.2.1.trans (Only.set _ ⟨g, 2, none⟩ _), HF.out⟩
      · have d1 : decide (510 < (m : Int)) = false := decide_eq_false (by omega)
        have hfin := RAt.small hrel.out.2.2.1 (by omega)
        have HF := Lib.hid hfin
        have hm5 : m ≤ 510 := by omega
        clear h5 hfin
        by_cases ho : (m : Int) % 2 = 1
        · have d2 : ((m : Int) % 2 == 1) = true := beq_iff_eq.2 ho
          have e1 : unf (m : Int) = -((m : Int) / 2) - 1 := by unfold unf; rw [if_pos ho]; omega
          have HE := Lib.hid e1
          clear ho e1
          go_wp2_with fail
          go_ret
          exact ⟨_, q, bad2, rfl, hrel.out.1, hrel.out.2.1, by rw [← HE.out]; exact HF.out⟩
        · have d2 : ((m : Int) % 2 == 1) = false := beq_eq_false_iff_ne.2 ho
          have e1 : unf (m : Int) = (m : Int) / 2 := by unfold unf; rw [if_neg ho]
          have HE := Lib.hid e1
          clear ho e1
          go_wp2_with fail
          go_ret
          exact ⟨_, q, bad2, rfl, hrel.out.1, hrel.out.2.1, by rw [← HE.out]; exact HF.out⟩
end Go.Proofs.YtnnjijdpenifjaaDoor
