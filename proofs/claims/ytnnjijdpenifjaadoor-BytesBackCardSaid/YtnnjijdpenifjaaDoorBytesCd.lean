/- The contract of bytes.coded: the coded picture that is next among bits. -/
import Derived.Test.YtnnjijdpenifjaaDoorBytPlain
import Derived.Test.YtnnjijdpenifjaaDoorRdr
import Derived.Test.YtnnjijdpenifjaaDoorFilmRow
import Derived.Deep.DeepCutAuto
import Derived.Deep.CutBlock
namespace Go.Proofs.YtnnjijdpenifjaaDoor
open Go.ChangeShapes Go.WideShapes Go.ChangeAt Go.RowKit

theorem But.only {g r : Nat} {w w1 w2 : World} (h : But g w w1) (ho : Only r w1 w2) (hr : w.heap.size ≤ r) : But g w w2 :=
  ⟨ho.os.trans h.os, ho.tape.trans h.tape, ho.output.trans h.output, Nat.le_trans h.size (Nat.le_of_eq ho.size.symm), fun k hk hg => (ho.block k (by omega)).trans (h.block k hk hg)⟩
theorem Rd.onlyNew {w0 w w' : World} {g r : Nat} {a : Option Addr} {n cap p0 p : Nat} {zs : List Int} (h : Rd w g a n cap p zs) (h0 : Rd w0 g a n cap p0 zs) (ho : Only r w w') (hr : w0.heap.size ≤ r) : Rd w' g a n cap p zs := by
  have hl := h0.lt
  have hne : g ≠ r := by omega
  exact ⟨by rw [ho.cell hne]; exact h.c0, by rw [ho.cell hne]; exact h.c1, by rw [ho.frozen hne]; exact h.f1, h.ints.only ho (h0.ints.far hr), h.far, h.le⟩
theorem rbit_any (w : World) (g : Nat) (a : Option Addr) (n cap p : Nat) (zs : List Int) (h : Rd w g a n cap p zs) (hb : ∀ z ∈ zs, z = 0 ∨ z = 1) :
    Calls Tryd.prog 96 #[.pointer (some ⟨g, 0, none⟩)] w fun e w' => ∃ (z : Nat) (ok : Bool) (q : Nat), (z = 0 ∨ z = 1) ∧ e = .returned (.tuple #[.int .i64 z, .bool ok]) ∧ Rd w' g a n cap q zs ∧ Only g w w' ∧
      Hid ((ok = true → zs.drop p = (z : Int) :: zs.drop q) ∧ (ok = false → z = 0 ∧ zs.drop p = [])) := by
  by_cases hp : p < n
  · refine (rbit_yes w g a n cap p zs h hp).mono ?_
    rintro e w' ⟨rfl, hr, ho⟩
    have hz := hb _ (mem_getD zs p (by rw [h.ints.len]; exact hp))
    have hd := drop_cons zs p (by rw [h.ints.len]; exact hp)
    rcases hz with e | e
    · rw [e] at hd ⊢; exact ⟨0, true, p + 1, .inl rfl, rfl, hr, ho, fun _ => hd, fun h => by cases h⟩
    · rw [e] at hd ⊢; exact ⟨1, true, p + 1, .inr rfl, rfl, hr, ho, fun _ => hd, fun h => by cases h⟩
  · have hp2 : p = n := by have := h.le; omega
    refine (rbit_no w g a n cap p zs h hp2).mono ?_
    rintro e w' ⟨rfl, hr, ho⟩
    exact ⟨0, false, p, .inl rfl, rfl, hr, ho, (fun h => by cases h), fun _ => ⟨rfl, List.drop_eq_nil_of_le (by rw [h.ints.len]; omega)⟩⟩

def fin (al : Bool) (x y : Int) (many : Nat) (l : List Int) : Option (Ct × List Int) := match numbs 2 many l with
  | none => none
  | some (vs, r) => some (⟨al, x, y, vs⟩, r)
def CPost (many : Nat) (zs : List Int) (p : Nat) (c : Ct) (ok : Bool) (q : Nat) : Prop := match rdC many (zs.drop p) with
  | some (d, r) => ok = true ∧ c = d ∧ zs.drop q = r
  | none => ok = false
theorem CPost.ok {many : Nat} {zs : List Int} {p q : Nat} {c : Ct} {o : Bool} (h : CPost many zs p c o q) : o = (rdC many (zs.drop p)).isSome := by
  unfold CPost at h
  cases hr : rdC many (zs.drop p) with
  | none => rw [hr] at h; exact h
  | some v => rw [hr] at h; exact h.1
theorem rdC_one {many : Nat} {l r : List Int} (h : l = ((1 : Nat) : Int) :: r) : rdC many l = fin true 0 0 many r := by subst h; rw [rdC, if_pos (show ((1 : Nat) : Int) = 1 from rfl)]; rfl
theorem rdC_nil {many : Nat} {l : List Int} (h : l = []) : rdC many l = none := by subst h; rfl
theorem rdC_zero {many : Nat} {zs l : List Int} {p q2 q3 : Nat} {x y : Int} {a b : Bool} (h : l = ((0 : Nat) : Int) :: zs.drop p) (h1 : BitsPost 2 zs p x a q2) (h2 : BitsPost 2 zs q2 y b q3) :
    (a = true ∧ b = true → rdC many l = fin false (x - 1) (y - 1) many (zs.drop q3)) ∧ (a = false ∨ b = false → rdC many l = none) := by
  subst h
  rw [rdC, if_neg (by decide)]
  unfold BitsPost at h1 h2
  cases hb : bitsN 2 0 (zs.drop p) with
  | none =>
    rw [hb] at h1
    obtain ⟨rfl, _⟩ := h1
    exact ⟨(fun h => by cases h.1), fun _ => rfl⟩
  | some v =>
    obtain ⟨v, r⟩ := v
    rw [hb] at h1
    obtain ⟨rfl, rfl, hr⟩ := h1
    simp only
    rw [← hr]
    cases hb2 : bitsN 2 0 (zs.drop q2) with
    | none =>
      rw [hb2] at h2
      obtain ⟨rfl, _⟩ := h2
      exact ⟨(fun h => by cases h.2), fun _ => rfl⟩
    | some v2 =>
      obtain ⟨v2, r2⟩ := v2
      rw [hb2] at h2
      obtain ⟨rfl, rfl, hr2⟩ := h2
      simp only
      rw [← hr2]
      exact ⟨fun _ => rfl, fun h => by rcases h with h | h <;> cases h⟩
theorem CPost.of {many : Nat} {zs : List Int} {p q q2 : Nat} {al is ok : Bool} {x y : Int} {vs : List Int} (h1 : is = true → rdC many (zs.drop p) = fin al x y many (zs.drop q)) (h2 : is = false → rdC many (zs.drop p) = none) (h : NumsPost 2 many zs q vs ok q2) :
    CPost many zs p ⟨al, x, y, vs⟩ (is && ok) q2 := by
  unfold CPost
  cases is with
  | false => rw [h2 rfl]; rfl
  | true =>
    rw [h1 rfl]
    unfold fin
    unfold NumsPost at h
    cases hn : numbs 2 many (zs.drop q) with
    | none => rw [hn] at h; rw [h.1]; rfl
    | some v => obtain ⟨v, r⟩ := v; rw [hn] at h; obtain ⟨rfl, rfl, hr⟩ := h; exact ⟨rfl, rfl, hr⟩

set_option maxHeartbeats 4000000 in
set_option maxRecDepth 100000 in
theorem coded_any (w : World) (g : Nat) (a : Option Addr) (n cap p many : Nat) (zs : List Int) (h : Rd w g a n cap p zs) (hb : ∀ z ∈ zs, z = 0 ∨ z = 1) (hn : n ≤ 2000) (hm : many ≤ 1000000) :
    Calls Tryd.prog 86 #[.pointer (some ⟨g, 0, none⟩), .int .i64 many] w fun e w' => ∃ (c : Ct) (b : Option Addr) (k cc : Nat) (q : Nat), e = .returned (.tuple #[codV c.al c.x c.y b k cc, .bool (rdC many (zs.drop p)).isSome]) ∧ IntsAt w' b k cc c.rs ∧ Fresh w b k ∧ Rd w' g a n cap q zs ∧ But g w w' ∧ Hid (CPost many zs p c (rdC many (zs.drop p)).isSome q) := by
  have H := Lib.hid h
  have HB := Lib.hid hb
  obtain ⟨W0, hW0⟩ : ∃ W, W = w.alloc (.cells #[.bool false, .int .i64 0, .int .i64 0, .slice none 0 0] 53) := ⟨_, rfl⟩
  obtain ⟨r, hr⟩ : ∃ r, r = w.heap.size := ⟨_, rfl⟩
  have hl0 : Lat w W0 := by rw [hW0]; exact Lat.alloc _ _
  have hc0 : Cells4 W0 r (.bool false) (.int .i64 0) (.int .i64 0) (.slice none 0 0) := by rw [hW0]; exact cells4_new hr rfl rfl rfl rfl
  have hf0 : ∀ k, W0.frozen? ⟨r, k, none⟩ = false := fun k => by rw [hW0, hr]; simp
  have hrs : W0.heap.size = r + 1 := by rw [hW0, hr]; simp
  have hgr : g < r := by rw [hr]; exact h.lt
  have hcall := rbit_any W0 g a n cap p zs (h.keep hl0) hb
  have HL0 := Lib.hid hl0
  have HC0 := Lib.hid hc0
  have HF0 := Lib.hid hf0
  have HRS := Lib.hid hrs
  have HGR := Lib.hid hgr
  have HCL := Lib.hid hcall
  have HR := Lib.hid hr
  clear h hb hl0 hc0 hf0 hrs hgr hcall hr
  go_enter Tryd.func86, Tryd.ntmps86
  go_upto_region 1 with fail
  rw [← hW0, ← HR.out]
  clear hW0
  go_wp2_with fail
  refine HCL.out.mono ?_
  rintro e w1 ⟨z, ok1, p1, hz, rfl, hr1, ho1, hp1⟩
  obtain ⟨AL, hAL⟩ : ∃ b : Bool, b = ((z : Int) == 1) := ⟨_, rfl⟩
  obtain ⟨W2, hW2⟩ : ∃ W, W = w1.alloc (.cells #[.bool AL, .int .i64 0, .int .i64 0, .slice none 0 0] 53) := ⟨_, rfl⟩
  obtain ⟨r2, hr2⟩ : ∃ r, r = w1.heap.size := ⟨_, rfl⟩
  have hr2r : r2 = r + 1 := by rw [hr2, ho1.size, HRS.out]
  have hl2 : Lat w1 W2 := by rw [hW2]; exact Lat.alloc _ _
  have hc2 : Cells4 W2 r2 (.bool AL) (.int .i64 0) (.int .i64 0) (.slice none 0 0) := by rw [hW2]; exact cells4_new hr2 rfl rfl rfl rfl
  have hf2 : ∀ k, W2.frozen? ⟨r2, k, none⟩ = false := fun k => by rw [hW2, hr2]; simp
  have hs2 : W2.heap.size = r2 + 1 := by rw [hW2, hr2]; simp
  have hrg : r ≠ g := by have := HGR.out; omega
  have hc1 : Cells4 w1 r (.bool false) (.int .i64 0) (.int .i64 0) (.slice none 0 0) := ⟨by rw [ho1.cell hrg]; exact HC0.out.c0, by rw [ho1.cell hrg]; exact HC0.out.c1, by rw [ho1.cell hrg]; exact HC0.out.c2, by rw [ho1.cell hrg]; exact HC0.out.c3⟩
  have hf1 : ∀ k, w1.frozen? ⟨r, k, none⟩ = false := fun k => by rw [ho1.frozen hrg]; exact HF0.out k
  have hlt1 : r < w1.heap.size := by rw [ho1.size, HRS.out]; omega
  have hf1' : ∀ k, W2.frozen? ⟨r, k, none⟩ = false := fun k => by rw [hl2.frozen hlt1]; exact hf1 k
  have HB2 := Lib.hid (((But.of_lat HL0.out).trans (ho1.but)).trans (But.of_lat hl2))
  have HR2 := Lib.hid (hr1.keep hl2)
  have HC2 := Lib.hid hc2
  have HF2 := Lib.hid hf2
  have HC1 := Lib.hid (hc1.keep hl2)
  have HF1 := Lib.hid hf1'
  have HS2 := Lib.hid hs2
  have HRR := Lib.hid hr2r
  have HP1 := Lib.hid hp1.out
  have HAL := Lib.hid hAL
  have x0 := hc2.c0
  clear hr1 ho1 hp1 hr2r hl2 hc2 hf2 hs2 hrg hc1 hf1 hlt1 hf1'
  go_upto_region 3 with fail
  rw [← hAL, ← hW2, ← hr2]
  clear hW2 hr2 hAL
  go_upto_if 25 with fail
  go_cut [7] (fun v wx => ∃ (is : Bool) (q : Nat) (x y : Int), v = .bool is ∧ Hid (Rd wx g a n cap q zs ∧ But g w wx ∧ Cells4 wx r2 (.bool AL) (.int .i64 x) (.int .i64 y) (.slice none 0 0) ∧ (∀ k, wx.frozen? ⟨r2, k, none⟩ = false) ∧ Cells4 wx r (.bool false) (.int .i64 0) (.int .i64 0) (.slice none 0 0) ∧ (∀ k, wx.frozen? ⟨r, k, none⟩ = false) ∧ r2 < wx.heap.size ∧ -9 ≤ x ∧ x ≤ 9 ∧ -9 ≤ y ∧ y ≤ 9 ∧
      (is = true → rdC many (zs.drop p) = fin AL x y many (zs.drop q)) ∧ (is = false → rdC many (zs.drop p) = none)))
  case first =>
    rcases hz with rfl | rfl
    · obtain rfl : AL = false := by rw [HAL.out]; rfl
      have hcall := rbits_any W2 g a n cap p1 2 zs HR2.out HB.out (by omega)
      have HCA := Lib.hid hcall
      clear hcall
      go_wp2_with fail
      refine HCA.out.mono ?_
      rintro e w3 ⟨x, oka, q2, rfl, hr3, ho3, hpa⟩
      have hcall := rbits_any w3 g a n cap q2 2 zs hr3 HB.out (by omega)
      have HCB := Lib.hid hcall
      have HO3 := Lib.hid ho3
      have HPA := Lib.hid hpa.out
      clear hcall hr3 ho3 hpa x0
      go_wp2_with fail
      refine HCB.out.mono ?_
      rintro e w4 ⟨y, okb, q3, rfl, hr4, ho4, hpb⟩
      have hrg : r2 ≠ g := by have := HGR.out; have := HRR.out; omega
      have hrg0 : r ≠ g := by have := HGR.out; omega
      have hon := HO3.out.trans ho4
      have hb4 := HB2.out.trans hon.but
      have hc4 : Cells4 w4 r2 (.bool false) (.int .i64 0) (.int .i64 0) (.slice none 0 0) := ⟨by rw [hon.cell hrg]; exact HC2.out.c0, by rw [hon.cell hrg]; exact HC2.out.c1, by rw [hon.cell hrg]; exact HC2.out.c2, by rw [hon.cell hrg]; exact HC2.out.c3⟩
      have hc5 : Cells4 w4 r (.bool false) (.int .i64 0) (.int .i64 0) (.slice none 0 0) := ⟨by rw [hon.cell hrg0]; exact HC1.out.c0, by rw [hon.cell hrg0]; exact HC1.out.c1, by rw [hon.cell hrg0]; exact HC1.out.c2, by rw [hon.cell hrg0]; exact HC1.out.c3⟩
      have hf4 : ∀ k, w4.frozen? ⟨r2, k, none⟩ = false := fun k => by rw [hon.frozen hrg]; exact HF2.out k
      have hf5 : ∀ k, w4.frozen? ⟨r, k, none⟩ = false := fun k => by rw [hon.frozen hrg0]; exact HF1.out k
      have hbx := BitsPost.val HPA.out HB.out
      have hby := BitsPost.val hpb.out HB.out
      obtain ⟨X, rfl, hX⟩ := hbx
      obtain ⟨Y, rfl, hY⟩ := hby
      have hX4 : X ≤ 3 := by omega
      have hY4 : Y ≤ 3 := by omega
      have ho5 : Only r2 w4 ((w4.setCell ⟨r2, 1, none⟩ (.int .i64 ((X : Int) - 1))).setCell ⟨r2, 2, none⟩ (.int .i64 ((Y : Int) - 1))) := (Only.set w4 ⟨r2, 1, none⟩ _).trans (Only.set _ ⟨r2, 2, none⟩ _)
      have hw : w.heap.size ≤ r2 := by have := HRR.out; have := HR.out; omega
      have hr5 := hr4.onlyNew H.out ho5 hw
      have hb5 := hb4.only ho5 hw
      have hrr : r ≠ r2 := by have := HRR.out; omega
      have hsz : w4.heap.size = r2 + 1 := by rw [hon.size]; exact HS2.out
      have hc6 : Cells4 ((w4.setCell ⟨r2, 1, none⟩ (.int .i64 ((X : Int) - 1))).setCell ⟨r2, 2, none⟩ (.int .i64 ((Y : Int) - 1))) r2 (.bool false) (.int .i64 ((X : Int) - 1)) (.int .i64 ((Y : Int) - 1)) (.slice none 0 0) := by
        refine ⟨?_, ?_, ?_, ?_⟩
        · rw [World.cell?_setCell_other _ _ _ _ (by simp), World.cell?_setCell_other _ _ _ _ (by simp)]; exact hc4.c0
        · rw [World.cell?_setCell_other _ _ _ _ (by simp)]; exact World.cell?_setCell_same _ _ _ hc4.c1
        · exact World.cell?_setCell_same _ _ _ (by rw [World.cell?_setCell_other _ _ _ _ (by simp)]; exact hc4.c2)
        · rw [World.cell?_setCell_other _ _ _ _ (by simp), World.cell?_setCell_other _ _ _ _ (by simp)]; exact hc4.c3
      have hc7 : Cells4 ((w4.setCell ⟨r2, 1, none⟩ (.int .i64 ((X : Int) - 1))).setCell ⟨r2, 2, none⟩ (.int .i64 ((Y : Int) - 1))) r (.bool false) (.int .i64 0) (.int .i64 0) (.slice none 0 0) :=
        ⟨by rw [ho5.cell hrr]; exact hc5.c0, by rw [ho5.cell hrr]; exact hc5.c1, by rw [ho5.cell hrr]; exact hc5.c2, by rw [ho5.cell hrr]; exact hc5.c3⟩
      have y1 := hc4.c1
      have y2 := hc4.c2
      have g1 := hf4 1
      have g2 := hf4 2
      have HR5 := Lib.hid hr5
      have HB5 := Lib.hid hb5
      have HC6 := Lib.hid hc6
      have HC7 := Lib.hid hc7
      have HF6 : Hid (∀ k, ((w4.setCell ⟨r2, 1, none⟩ (.int .i64 ((X : Int) - 1))).setCell ⟨r2, 2, none⟩ (.int .i64 ((Y : Int) - 1))).frozen? ⟨r2, k, none⟩ = false) := fun k => by simp only [World.frozen?_setCell]; exact hf4 k
      have HF7 : Hid (∀ k, ((w4.setCell ⟨r2, 1, none⟩ (.int .i64 ((X : Int) - 1))).setCell ⟨r2, 2, none⟩ (.int .i64 ((Y : Int) - 1))).frozen? ⟨r, k, none⟩ = false) := fun k => by simp only [World.frozen?_setCell]; exact hf5 k
      have HSZ : Hid (r2 < ((w4.setCell ⟨r2, 1, none⟩ (.int .i64 ((X : Int) - 1))).setCell ⟨r2, 2, none⟩ (.int .i64 ((Y : Int) - 1))).heap.size) := by rw [ho5.size, hsz]; exact Nat.lt_succ_self _
      obtain ⟨IS, hIS⟩ : ∃ b : Bool, b = (ok1 && oka && okb) := ⟨_, rfl⟩
      have hrd : (IS = true → rdC many (zs.drop p) = fin false ((X : Int) - 1) ((Y : Int) - 1) many (zs.drop q3)) ∧ (IS = false → rdC many (zs.drop p) = none) := by
        cases ok1 with
        | false => rw [hIS]; exact ⟨fun h => by simp at h, fun _ => rdC_nil (HP1.out.2 rfl).2⟩
        | true =>
          have h := rdC_zero (many := many) (HP1.out.1 rfl) HPA.out hpb.out
          rw [hIS]
          refine ⟨fun q => h.1 (by simpa using q), fun q => h.2 ?_⟩
          cases oka
          · exact .inl rfl
          · exact .inr (by simpa using q)
      have HRD := Lib.hid hrd
      have HIS := Lib.hid hIS
      clear hr4 ho4 hpb hrg hrg0 hon hb4 hc4 hc5 hf4 hf5 ho5 hw hr5 hb5 hrr hsz hc6 hc7 hrd hX hY hIS HP1 HPA
      cases ok1 <;> cases oka <;> cases okb
      all_goals
        go_wp2_with fail
        go_meet
      all_goals
        refine ⟨IS, q3, _, _, ?_, HR5.out, HB5.out, HC6.out, HF6.out, HC7.out, HF7.out, HSZ.out, by omega, by omega, by omega, by omega, HRD.out.1, HRD.out.2⟩
        simp [HIS.out]
    · obtain rfl : AL = true := by rw [HAL.out]; rfl
      have hok : ok1 = true := by
        cases ok1 with
        | true => rfl
        | false => have := (HP1.out.2 rfl).1; omega
      subst hok
      have hrd := rdC_one (many := many) (HP1.out.1 rfl)
      have HRD := Lib.hid hrd
      have HSZ : Hid (r2 < W2.heap.size) := by rw [HS2.out]; exact Nat.lt_succ_self _
      clear hrd
      go_wp2_with fail
      go_meet
      case rel => exact ⟨true, p1, 0, 0, rfl, HR2.out, HB2.out, HC2.out, HF2.out, HC1.out, HF1.out, HSZ.out, by omega, by omega, by omega, by omega, fun _ => HRD.out, fun h => by cases h⟩
  case rest =>
  obtain ⟨is, q, x, y, rfl, hcut⟩ := hcut
  obtain ⟨m1, m2, m3, m4, m5, m6, m7, x1, x2, y1, y2, m8, m9⟩ := hcut.out
  have hcall := rnumbers_anyF wc g a n cap q 2 many zs m1 HB.out hn (by omega) hm
  have HCA := Lib.hid hcall
  have M2 := Lib.hid m2
  have M3 := Lib.hid m3
  have M4 := Lib.hid m4
  have M5 := Lib.hid m5
  have M6 := Lib.hid m6
  have M8 := Lib.hid m8
  have M9 := Lib.hid m9
  clear hcut hcall m1 m2 m3 m4 m5 m6 m8 m9 x0
  generalize wc = w5 at *
  go_wp2_with fail
  refine HCA.out.mono ?_
  rintro e w6 ⟨b, k, cc, vs, ok, q2, rfl, hat, hfr, hr6, hb6, hpost⟩
  have hrg : r2 ≠ g := by have := HGR.out; have := HRR.out; omega
  have hrg0 : r ≠ g := by have := HGR.out; omega
  have hrr : r ≠ r2 := by have := HRR.out; omega
  have hw : w.heap.size ≤ r := by have := HR.out; omega
  have hw2 : w.heap.size ≤ r2 := by have := HRR.out; omega
  have hz5 : r2 < w5.heap.size := m7
  have hz5r : r < w5.heap.size := by have := HRR.out; omega
  have hc6 : Cells4 w6 r2 (.bool AL) (.int .i64 x) (.int .i64 y) (.slice none 0 0) := ⟨hb6.cell_at M3.out.c0 hrg, hb6.cell_at M3.out.c1 hrg, hb6.cell_at M3.out.c2 hrg, hb6.cell_at M3.out.c3 hrg⟩
  have hc7 : Cells4 w6 r (.bool false) (.int .i64 0) (.int .i64 0) (.slice none 0 0) := ⟨hb6.cell_at M5.out.c0 hrg0, hb6.cell_at M5.out.c1 hrg0, hb6.cell_at M5.out.c2 hrg0, hb6.cell_at M5.out.c3 hrg0⟩
  have hf6 : ∀ k, w6.frozen? ⟨r2, k, none⟩ = false := fun k => by rw [World.frozen?_of_block (w := w5) (hb6.block r2 hz5 hrg)]; exact M4.out k
  have hf7 : ∀ k, w6.frozen? ⟨r, k, none⟩ = false := fun k => by rw [World.frozen?_of_block (w := w5) (hb6.block r hz5r hrg0)]; exact M6.out k
  have ho7 : Only r2 w6 (w6.setCell ⟨r2, 3, none⟩ (.slice b k cc)) := Only.set w6 ⟨r2, 3, none⟩ _
  have hc8 : Cells4 (w6.setCell ⟨r2, 3, none⟩ (.slice b k cc)) r2 (.bool AL) (.int .i64 x) (.int .i64 y) (.slice b k cc) := by
    refine ⟨?_, ?_, ?_, ?_⟩
    · rw [World.cell?_setCell_other _ _ _ _ (by simp)]; exact hc6.c0
    · rw [World.cell?_setCell_other _ _ _ _ (by simp)]; exact hc6.c1
    · rw [World.cell?_setCell_other _ _ _ _ (by simp)]; exact hc6.c2
    · exact World.cell?_setCell_same _ _ _ hc6.c3
  have hc9 : Cells4 (w6.setCell ⟨r2, 3, none⟩ (.slice b k cc)) r (.bool false) (.int .i64 0) (.int .i64 0) (.slice none 0 0) := ⟨by rw [ho7.cell hrr]; exact hc7.c0, by rw [ho7.cell hrr]; exact hc7.c1, by rw [ho7.cell hrr]; exact hc7.c2, by rw [ho7.cell hrr]; exact hc7.c3⟩
  obtain ⟨W7, hW7⟩ : ∃ W, W = w6.setCell ⟨r2, 3, none⟩ (.slice b k cc) := ⟨_, rfl⟩
  rw [← hW7] at ho7 hc8 hc9
  have hf8 : ∀ k, W7.frozen? ⟨r, k, none⟩ = false := fun k => by rw [ho7.frozen hrr]; exact hf7 k
  have hat7 := hat.only ho7 (fun hn b' o' ha => hfr r2 hz5 b' o' ha hn)
  have hr7 := hr6.onlyNew H.out ho7 hw2
  have hb7 := (M2.out.trans hb6).only ho7 hw2
  have ho8 : Only r W7 (four W7 r (.bool AL) (.int .i64 x) (.int .i64 y) (.slice b k cc)) :=
    (((Only.set W7 ⟨r, 0, none⟩ _).trans (Only.set _ ⟨r, 1, none⟩ _)).trans (Only.set _ ⟨r, 2, none⟩ _)).trans (Only.set _ ⟨r, 3, none⟩ _)
  have hat8 := hat7.only ho8 (fun hn b' o' ha => hfr r hz5r b' o' ha hn)
  have hr8 := hr7.onlyNew H.out ho8 hw
  have hb8 := hb7.only ho8 hw
  have hq := four_set hc9 (.bool AL) (.int .i64 x) (.int .i64 y) (.slice b k cc)
  have hfr8 : Fresh w b k := hfr.mono (Nat.le_of_lt (Nat.lt_of_le_of_lt hw2 hz5))
  have z3 := hc6.c3
  have g3 := hf6 3
  have z0 := hc8.c0
  have z1 := hc8.c1
  have z2 := hc8.c2
  have z4 := hc8.c3
  have v0 := hc9.c0
  have v1 := hc9.c1
  have v2 := hc9.c2
  have v3 := hc9.c3
  have s0 := hf8 0
  have s1 := hf8 1
  have s2 := hf8 2
  have s3 := hf8 3
  have HAT := Lib.hid hat8
  have HR8 := Lib.hid hr8
  have HB8 := Lib.hid hb8
  have HQ := Lib.hid hq
  have HFR := Lib.hid hfr8
  have hpo := CPost.of M8.out M9.out hpost.out
  obtain ⟨O, hO⟩ : ∃ b : Bool, b = (is && ok) := ⟨_, rfl⟩
  rw [← hO] at hpo
  have HOO := Lib.hid hO
  have HOK := Lib.hid hpo.ok
  rw [hpo.ok] at hpo
  have HPO := Lib.hid hpo
  unfold four at HQ HAT HR8 HB8
  clear hat hfr hr6 hb6 hpost hrg hrg0 hw hw2 hz5 hz5r hc6 hc7 hf6 hf7 ho7 hc8 hc9 hf8 hat7 hr7 hb7 ho8 hat8 hr8 hb8 hq hfr8 m7 hpo hO
  go_upto_region 10 with fail
  rw [← hW7]
  clear hW7 z3 g3
  cases is <;> cases ok
  all_goals
    go_wp2_with fail
    refine bodyPost_ret (v := .tuple #[codV AL x y b k cc, .bool O]) (by simp [results, Tryd.results86, go_sem, HQ.out.c0, HQ.out.c1, HQ.out.c2, HQ.out.c3, HOO.out]) rfl ?_
    exact ⟨⟨AL, x, y, vs⟩, b, k, cc, by rw [HOK.out], HAT.out, HFR.out, q2, HR8.out, HB8.out, HPO.out⟩
end Go.Proofs.YtnnjijdpenifjaaDoor
