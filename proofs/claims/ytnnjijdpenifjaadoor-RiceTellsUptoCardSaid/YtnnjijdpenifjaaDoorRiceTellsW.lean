/- The walk of RiceTells: it returns true, whatever it is asked, of up to a million numbers. -/
import Derived.Test.YtnnjijdpenifjaaDoorRiceGet
import Derived.Test.YtnnjijdpenifjaaDoorRefRice
import Derived.Test.YtnnjijdpenifjaaDoorRefRdr
import Derived.Test.YtnnjijdpenifjaaDoorErrv
import Derived.Test.YtnnjijdpenifjaaDoorSame
import Derived.Test.YtnnjijdpenifjaaDoorUnlike
import Derived.Test.YtnnjijdpenifjaaDoorOpenPic
import Derived.Test.YtnnjijdpenifjaaDoorBulk
import Derived.Deep.DeepCutAuto
import Derived.Deep.CutBlock
namespace Go.Proofs.YtnnjijdpenifjaaDoor
open Go.ChangeShapes Go.WideShapes Go.ChangeAt Go.RowKit

/-- 1 where one of the first k is not right, else e -/
def firstBad (t : Int → Bool) (zs : List Int) (e k : Nat) : Nat := if e ≠ 0 then e else if (zs.take k).any (fun z => !t z) = true then 1 else 0
theorem firstBad_zero (t : Int → Bool) (zs : List Int) (e : Nat) : firstBad t zs e 0 = e := by
  unfold firstBad
  by_cases h : e = 0
  · subst h; rfl
  · rw [if_pos h]
theorem firstBad0 (t : Int → Bool) (zs : List Int) (k : Nat) : firstBad t zs 0 k = if (zs.take k).any (fun z => !t z) = true then 1 else 0 := rfl
theorem firstBad_bad {t : Int → Bool} {zs : List Int} {k : Nat} (h : k < zs.length) (hz : t (zs.getD k 0) = false) : firstBad t zs 0 (k + 1) = 1 := by
  have e : [zs.getD k 0].any (fun z => !t z) = true := by simp only [List.any_cons, List.any_nil, hz, Bool.not_false, Bool.or_false]
  rw [firstBad0, take_snoc zs k h, List.any_append, e, Bool.or_true, if_pos rfl]
theorem firstBad_good {t : Int → Bool} {zs : List Int} {k : Nat} (h : k < zs.length) (hz : t (zs.getD k 0) = true) : firstBad t zs 0 (k + 1) = firstBad t zs 0 k := by
  have e : [zs.getD k 0].any (fun z => !t z) = false := by simp only [List.any_cons, List.any_nil, hz, Bool.not_true, Bool.or_false]
  rw [firstBad0, firstBad0, take_snoc zs k h, List.any_append, e, Bool.or_false]
theorem firstBad_all (t : Int → Bool) (zs : List Int) : firstBad t zs 0 zs.length = if (zs.any fun z => !t z) = true then 1 else 0 := by
  rw [firstBad0, List.take_length]
theorem firstBad_done {t : Int → Bool} {zs : List Int} {e k : Nat} (h : firstBad t zs e k ≠ 0) : firstBad t zs e zs.length = firstBad t zs e k := by
  by_cases he : e = 0
  · subst he
    rw [firstBad0] at h
    rw [firstBad0, firstBad0, List.take_length]
    by_cases h1 : (zs.take k).any (fun z => !t z) = true
    · rw [if_pos h1, if_pos]
      obtain ⟨z, hz, hq⟩ := List.any_eq_true.1 h1
      exact List.any_eq_true.2 ⟨z, List.mem_of_mem_take hz, hq⟩
    · rw [if_neg h1] at h; exact absurd rfl h
  · unfold firstBad; rw [if_pos he, if_pos he]
theorem firstBad_nz {t : Int → Bool} {zs : List Int} {e k : Nat} (h : firstBad t zs e k = 0) : e = 0 := by
  unfold firstBad at h
  by_cases he : e = 0
  · exact he
  · rw [if_pos he] at h; omega

/-- What is asked of numbers to be read, before they are read. -/
def ge1 (low many : Int) (zs : List Int) : Nat := if lowB low = false ∨ many < 0 ∨ 2000 < many then 1 else if 2000 < zs.length then 4 else 0
theorem getE_steps (low many : Int) (zs : List Int) : getE low many zs = if firstBad bitB zs (ge1 low many zs) zs.length ≠ 0 then firstBad bitB zs (ge1 low many zs) zs.length else if gotN low.toNat many.toNat zs = none then 2 else 0 := by
  have hall := firstBad_all bitB zs
  unfold getE
  by_cases h1 : lowB low = false ∨ many < 0 ∨ 2000 < many
  · have e : ge1 low many zs = 1 := by unfold ge1; rw [if_pos h1]
    have e2 : firstBad bitB zs 1 zs.length = 1 := by unfold firstBad; rw [if_pos (by omega)]
    rw [if_pos h1, e, e2, if_pos (by omega)]
  by_cases h2 : 2000 < zs.length
  · have e : ge1 low many zs = 4 := by unfold ge1; rw [if_neg h1, if_pos h2]
    have e2 : firstBad bitB zs 4 zs.length = 4 := by unfold firstBad; rw [if_pos (by omega)]
    rw [if_neg h1, if_pos h2, e, e2, if_pos (by omega)]
  have e : ge1 low many zs = 0 := by unfold ge1; rw [if_neg h1, if_neg h2]
  rw [if_neg h1, if_neg h2, e, hall]
  cases hb : zs.any fun z => !bitB z with
  | true => rw [if_pos (show bitsB zs = false by unfold bitsB; rw [hb]; rfl), if_pos rfl, if_pos (by omega)]
  | false => rw [if_neg (by unfold bitsB; rw [hb]; simp)]; simp
theorem bslE_steps (zs : List Int) : (rgtB zs = false → bslE zs = 1 ∧ bslV zs = 0) ∧ (rgtB zs = true → (2000 < (bstR (bslF zs) 8).2 → bslE zs = 4 ∧ bslV zs = 0) ∧ (¬ 2000 < (bstR (bslF zs) 8).2 → bslE zs = 0 ∧ bslV zs = (bstR (bslF zs) 8).1)) := by
  refine ⟨fun h => ?_, fun h => ?_⟩
  · have e : bslE zs = 1 := by unfold bslE; rw [if_pos h]
    exact ⟨e, by unfold bslV; rw [if_neg (by omega)]⟩
  · rcases bst_LR (bslF zs) 8 with ⟨h1, h2, _⟩ | ⟨h1, _, h3, _, h5, _⟩
    · refine ⟨fun _ => ?_, fun hn => ?_⟩
      · have e : bslE zs = 4 := by unfold bslE; rw [if_neg (by rw [h]; simp), h1, if_pos (show ((-1 : Int), (2000 : Int)).1 < 0 by decide)]
        exact ⟨e, by unfold bslV; rw [if_neg (by omega)]⟩
      · rw [h2] at hn; simp at hn
    · refine ⟨fun hn => ?_, fun _ => ?_⟩
      · rw [← h3] at hn; omega
      · have e : bslE zs = 0 := by unfold bslE; rw [if_neg (by rw [h]; simp), if_neg (by omega)]
        exact ⟨e, by unfold bslV; rw [if_pos e, h3]⟩
theorem bstR_bd (f : Nat → Nat) (hf : ∀ j, j ≤ 7 → f j ≤ 1000000000) (j : Nat) (hj : j ≤ 8) : 0 ≤ (bstR f j).1 ∧ (bstR f j).1 ≤ j ∧ 0 ≤ (bstR f j).2 ∧ (bstR f j).2 ≤ 1000000000 := by
  induction j with
  | zero => exact ⟨by simp [bstR], by simp [bstR], by simp [bstR], by simp [bstR]⟩
  | succ j ih =>
    have ih := ih (by omega)
    have := hf j (by omega)
    rw [bstR]
    split
    · exact ⟨by simp, by simp; omega, by simp, by simp; omega⟩
    · exact ⟨ih.1, by omega, ih.2.2⟩

/-- What the document's numbers stand at. -/
def SAt (low k : Nat) (zs vs : List Int) (q : Nat) (bad : Bool) : Prop := (bad = false ∧ numbs low k zs = some (vs, zs.drop q)) ∨ (bad = true ∧ numbs low k zs = none)
theorem SAt.go {low k : Nat} {zs vs : List Int} {q q2 : Nat} {x : Int} {bad : Bool} (h : SAt low k zs vs q false) (hp : RNumPost low zs q false x q2 bad) : SAt low (k + 1) zs (vs ++ [x]) q2 bad := by
  rcases h with ⟨_, h⟩ | ⟨h, _⟩
  · have hs := numbs_snoc h
    unfold RNumPost at hp
    unfold SAt
    cases hn : numb low (zs.drop q) with
    | none => rw [hn] at hp hs; exact .inr ⟨hp, hs⟩
    | some y =>
      obtain ⟨v, r⟩ := y
      rw [hn] at hp hs
      refine .inl ⟨hp.1, ?_⟩
      rw [hs, hp.2.1, hp.2.2]
  · cases h
theorem SAt.bad {low k m : Nat} {zs vs : List Int} {q : Nat} (h : SAt low k zs vs q true) (hm : k ≤ m) : gotN low m zs = none := by
  rcases h with ⟨h, _⟩ | ⟨_, h⟩
  · cases h
  · unfold gotN; rw [numbs_dead h hm]
theorem SAt.long {low k : Nat} {zs vs : List Int} {q : Nat} (h : SAt low k zs vs q false) (hq : q < zs.length) : gotN low k zs = none := by
  rcases h with ⟨_, h⟩ | ⟨h, _⟩
  · unfold gotN; rw [h, drop_cons zs q hq]
  · cases h
theorem SAt.good {low k : Nat} {zs vs : List Int} {q : Nat} (h : SAt low k zs vs q false) (hq : zs.length ≤ q) : gotN low k zs = some vs := by
  rcases h with ⟨_, h⟩ | ⟨h, _⟩
  · unfold gotN; rw [h, List.drop_eq_nil_of_le hq]
  · cases h
theorem SAt.wf {low k : Nat} {zs vs : List Int} {q : Nat} (hb : ∀ z ∈ zs, z = 0 ∨ z = 1) (h : SAt low k zs vs q false) : ∀ z ∈ vs, -255 ≤ z ∧ z ≤ 255 := by
  rcases h with ⟨_, h⟩ | ⟨h, _⟩
  · exact (numbs_inv low hb h).2.1
  · cases h

def BestAt (f : Nat → Nat) (F : Nat) (bv lv : Int) : Prop := 0 ≤ lv ∧ lv ≤ 1000000000 ∧ (F = 0 → bv = (bstR f 8).1 ∧ lv = (bstR f 8).2) ∧ (F ≠ 0 → bv = 0)
set_option maxHeartbeats 2000000 in
set_option maxRecDepth 100000 in
theorem walk_riceTells (a0 : Option Addr) (n0 c0 : Nat) (z0 : List Int) (low : Int) (a2 : Option Addr) (n2 c2 : Nat) (z2 : List Int) (many : Int) (w : World) (hg : Hnd w)
    (h0 : IntsAt w a0 n0 c0 z0) (_ : (Lit.int .i64 low).wf = true) (h2 : IntsAt w a2 n2 c2 z2) (_ : (Lit.int .i64 many).wf = true) (bk0 : n0 ≤ 1048576) (bk2 : n2 ≤ 1048576) :
    Calls Tryd.prog 7 #[.slice a0 n0 c0, .int .i64 low, .slice a2 n2 c2, .int .i64 many] w fun e w' => e = .returned (.bool true) ∧ Lat w w' := by
  have hl0 := h0.len
  have hl2 := h2.len
  have k1 : ∀ W, Lat w W → _ := fun W hW => put_tot a0 n0 c0 z0 low W (h0.keep hW) (by omega)
  have k2 : ∀ W, Lat w W → _ := fun W hW => get_tot a2 n2 c2 z2 low many W (h2.keep hW)
  have k3 : ∀ W, Lat w W → _ := fun W hW => rbest_tot a0 n0 c0 z0 W (h0.keep hW) (by omega)
  have k4 : ∀ (l : Nat) W, Lat w W → l ≤ 7 → rgtB z0 = true → Calls Tryd.prog 38 #[.slice a0 n0 c0, .int .i64 l] W fun e w' => ∃ va vc, e = .returned (.slice va (bslF z0 l) vc) ∧ IntsAt w' va (bslF z0 l) vc (ricL l z0) ∧ Lat W w' := fun l W hW hl hr => by
    refine (refRice a0 n0 c0 z0 l W (h0.keep hW) (rgtB_yes hr) hl (by omega)).mono ?_
    rintro e w1 ⟨v, rfl, hown, hb1⟩
    have hre : ric z0 l n0 = ricL l z0 := by rw [← hl0]; exact ric_all z0 l
    rw [hre] at hown
    obtain ⟨va, vc, rfl, hat⟩ := OwnInts.sliceN hown (wf_bits l z0) (rfl : _ = bslF z0 l)
    exact ⟨va, vc, rfl, hat, hb1⟩
  obtain ⟨PE, hPE⟩ : ∃ E, E = putE low z0 := ⟨_, rfl⟩
  obtain ⟨PR, hPR⟩ : ∃ E, E = putR low z0 := ⟨_, rfl⟩
  obtain ⟨GE, hGE⟩ : ∃ E, E = getE low many z2 := ⟨_, rfl⟩
  obtain ⟨GR, hGR⟩ : ∃ E, E = getR low many z2 := ⟨_, rfl⟩
  obtain ⟨BE, hBE⟩ : ∃ E, E = bslE z0 := ⟨_, rfl⟩
  obtain ⟨BV, hBV⟩ : ∃ E, E = bslV z0 := ⟨_, rfl⟩
  simp only [← hPE, ← hPR, ← hGE, ← hGR, ← hBE, ← hBV] at k1 k2 k3
  have HPE := Lib.hid hPE
  have HPR := Lib.hid hPR
  have HGE := Lib.hid hGE
  have HGR := Lib.hid hGR
  have HBE := Lib.hid hBE
  have HBV := Lib.hid hBV
  have K1 := Lib.hid k1
  have K2 := Lib.hid k2
  have K3 := Lib.hid k3
  have K4 := Lib.hid k4
  have H0 := Lib.hid h0
  have H2 := Lib.hid h2
  have HG := Lib.hid hg
  have HL0 := Lib.hid hl0
  have HL2 := Lib.hid hl2
  have hcap0 := h0.row.cap
  have hle0 := h0.row.le
  have hcap2 := h2.row.cap
  have hle2 := h2.row.le
  unfold maxLen at hcap0 hcap2
  obtain ⟨F, hF⟩ : ∃ F, F = firstBad restB z0 0 z0.length := ⟨_, rfl⟩
  have hF2 : F = if rgtB z0 = false then 1 else 0 := by
    rw [hF, firstBad_all]
    unfold rgtB
    cases z0.any fun z => !restB z <;> rfl
  have HF := Lib.hid hF
  have HF2 := Lib.hid hF2
  clear h0 h2 hg k1 k2 k3 k4 hPE hPR hGE hGR hBE hBV hl0 hl2 hF hF2
  go_enter Tryd.func7, Tryd.ntmps7
  go_upto_block 0 with fail
  go_cut [9] (fun f wx => f = .int .i64 F ∧ w = wx)
  case first =>
    as_aux_lemma =>
      go_wp2_with fail
      go_loop [9, 10] (fun f i => ∃ k e : Nat, k ≤ n0 ∧ i = .int .i64 k ∧ f = .int .i64 e ∧ Hid (e = firstBad restB z0 0 k)) (fun _ i => n0 - (intOf i).toNat)
      case atStart => exact ⟨0, 0, Nat.zero_le _, rfl, rfl, (firstBad_zero _ _ _).symm⟩
      case round =>
        obtain ⟨k, e, hk, rfl, rfl, hrel⟩ := hrel
        by_cases hlt : k < n0
        · obtain ⟨b1, o1, rfl, hc1⟩ := H0.out.row.at_ (by omega)
          have c1 := hc1 k hlt
          have hb := firstBad_bad (t := restB) (zs := z0) (k := k) (by rw [HL0.out]; exact hlt)
          have hgd := firstBad_good (t := restB) (zs := z0) (k := k) (by rw [HL0.out]; exact hlt)
          obtain ⟨z, hz⟩ : ∃ z, z = z0.getD k 0 := ⟨_, rfl⟩
          rw [← hz] at c1 hb hgd
          have hd : (decide (z < -255) = true ∧ firstBad restB z0 0 (k + 1) = 1) ∨ (decide (z < -255) = false ∧ decide (255 < z) = true ∧ firstBad restB z0 0 (k + 1) = 1) ∨ (decide (z < -255) = false ∧ decide (255 < z) = false ∧ firstBad restB z0 0 (k + 1) = firstBad restB z0 0 k) := by
            by_cases q1 : z < -255
            · exact .inl ⟨decide_eq_true q1, hb (decide_eq_false (by omega))⟩
            by_cases q2 : 255 < z
            · exact .inr (.inl ⟨decide_eq_false q1, decide_eq_true q2, hb (decide_eq_false (by omega))⟩)
            · exact .inr (.inr ⟨decide_eq_false q1, decide_eq_false q2, hgd (decide_eq_true (by omega))⟩)
          clear hc1 hz hb hgd
          rcases hd with ⟨d1, hs⟩ | ⟨d1, d2, hs⟩ | ⟨d1, d2, hs⟩
          · have HS := Lib.hid hs
            clear hs
            go_wp2_with fail
            go_round
            case rel => exact ⟨k + 1, 1, by omega, by go_num, rfl, HS.out.symm⟩
            case measure => simp [intOf]; omega
          · have HS := Lib.hid hs
            clear hs
            go_wp2_with fail
            go_round
            case rel => exact ⟨k + 1, 1, by omega, by go_num, rfl, HS.out.symm⟩
            case measure => simp [intOf]; omega
          · have HS := Lib.hid hs
            clear hs
            go_wp2_with fail
            go_round
            case rel => exact ⟨k + 1, e, by omega, by go_num, rfl, by rw [HS.out]; exact hrel.out⟩
            case measure => simp [intOf]; omega
        · obtain rfl : k = n0 := by omega
          have he : e = F := by rw [hrel.out, HF.out, HL0.out]
          have HE := Lib.hid he
          clear he
          go_wp2_with fail
          go_meet
          case rel => exact ⟨by rw [HE.out], rfl⟩
  case rest =>
  obtain ⟨rfl, rfl⟩ := hcut
  -- what is wrong ahead of the bits
  obtain ⟨E1, hE1⟩ : ∃ E, E = if lowB low = false then 1 else F := ⟨_, rfl⟩
  obtain ⟨LB, hLB⟩ : ∃ b : Bool, b = lowB low := ⟨_, rfl⟩
  rw [← hLB] at hE1
  have HLB := Lib.hid hLB
  have HE1 := Lib.hid hE1
  have hd : (decide (low < 0) = true ∧ LB = false) ∨ (decide (low < 0) = false ∧ decide (7 < low) = true ∧ LB = false) ∨ (decide (low < 0) = false ∧ decide (7 < low) = false ∧ LB = true) := by
    rw [hLB]
    by_cases q1 : low < 0
    · exact .inl ⟨decide_eq_true q1, decide_eq_false (by omega)⟩
    by_cases q2 : 7 < low
    · exact .inr (.inl ⟨decide_eq_false q1, decide_eq_true q2, decide_eq_false (by omega)⟩)
    · exact .inr (.inr ⟨decide_eq_false q1, decide_eq_false q2, decide_eq_true (by omega)⟩)
  have HD := Lib.hid hd
  clear hE1 hLB hd
  go_upto_region 8 with fail
  go_cut [51] (fun f wx => f = .bool (!LB) ∧ w = wx)
  case first =>
    as_aux_lemma =>
      rcases HD.out with ⟨d1, rfl⟩ | ⟨d1, d2, rfl⟩ | ⟨d1, d2, rfl⟩
      all_goals
        go_wp2_with fail
        go_meet
        case rel => exact ⟨rfl, rfl⟩
  case rest =>
  obtain ⟨rfl, rfl⟩ := hcut
  go_upto_if 51 with fail
  go_cut [11] (fun f wx => f = .int .i64 E1 ∧ w = wx)
  case first =>
    as_aux_lemma =>
      cases LB with
      | false =>
        go_wp2_with fail
        go_meet
        case rel => exact ⟨by rw [HE1.out]; rfl, rfl⟩
      | true =>
        go_wp2_with fail
        go_meet
        case rel => exact ⟨by rw [HE1.out]; rfl, rfl⟩
  case rest =>
  obtain ⟨rfl, rfl⟩ := hcut
  go_upto_if 53 with fail
  go_cut [11, 12] (fun f v wx => f = .int .i64 PE ∧ ∃ b m c, v = .slice b m c ∧ Hid (IntsAt wx b m c PR ∧ Lat w wx))
  case first =>
    as_aux_lemma =>
      by_cases he : E1 = 0
      · have d1 : ((E1 : Int) == 0) = true := beq_iff_eq.2 (by omega)
        have hLB : LB = true := by
          cases hq : LB with
          | true => rfl
          | false => have := HE1.out; rw [if_pos hq] at this; omega
        have hlow : lowB low = true := by rw [← HLB.out]; exact hLB
        have hF0 : F = 0 := by have := HE1.out; rw [if_neg (by rw [hLB]; simp)] at this; omega
        have hr : rgtB z0 = true := by
          cases hq : rgtB z0 with
          | true => rfl
          | false => have := HF2.out; rw [if_pos hq] at this; omega
        have hl7 : 0 ≤ low ∧ low ≤ 7 := of_decide_eq_true hlow
        obtain ⟨l, rfl⟩ := Int.eq_ofNat_of_zero_le hl7.1
        have hcall := K4.out l w (Lat.refl _) (by omega) hr
        have hp : PE = (if 2000 < bslF z0 l then 4 else 0) := by
          rw [HPE.out]; unfold putE; rw [if_neg (by rw [hlow, hr]; simp), Int.toNat_natCast]; rfl
        have hpr : PR = if PE = 0 then ricL l z0 else [] := by rw [HPR.out]; unfold putR; rw [← HPE.out, Int.toNat_natCast]
        obtain ⟨M, hM⟩ : ∃ M, M = bslF z0 l := ⟨_, rfl⟩
        rw [← hM] at hcall hp
        have HC := Lib.hid hcall
        have HP := Lib.hid hp
        have HPR2 := Lib.hid hpr
        have HE10 := Lib.hid he
        clear he hLB hlow hF0 hr hl7 hcall hp hpr hM
        go_wp2_with fail
        refine HC.out.mono ?_
        rintro e w1 ⟨va, vc, rfl, hat, hb1⟩
        have HAT := Lib.hid hat
        have HB1 := Lib.hid hb1
        clear hat hb1
        by_cases hM2 : 2000 < M
        · have d2 : decide (2000 < (M : Int)) = true := decide_eq_true (by omega)
          have e1 : PE = 4 := by rw [HP.out, if_pos hM2]
          have e2 : PR = [] := by rw [HPR2.out, if_neg (by omega)]
          have HE := Lib.hid e1
          have HE2 := Lib.hid e2
          clear e1 e2 hM2
          go_wp2_with fail
          go_meet
          case rel => exact ⟨by rw [HE.out]; rfl, none, 0, 0, rfl, by rw [HE2.out]; exact IntsAt.nil _, HB1.out⟩
        · have d2 : decide (2000 < (M : Int)) = false := decide_eq_false (by omega)
          have e1 : PE = 0 := by rw [HP.out, if_neg hM2]
          have e2 : PR = ricL l z0 := by rw [HPR2.out, if_pos e1]
          have HE := Lib.hid e1
          have HE2 := Lib.hid e2
          clear e1 e2 hM2
          go_wp2_with fail
          go_meet
          case rel => exact ⟨by rw [HE.out, HE10.out], va, M, vc, rfl, by rw [HE2.out]; exact HAT.out, HB1.out⟩
      · have d1 : ((E1 : Int) == 0) = false := beq_eq_false_iff_ne.2 (by omega)
        have hE : E1 = 1 ∧ PE = 1 := by
          have h := HE1.out
          rw [HLB.out] at h
          have h2 := HPE.out
          have h3 := HF2.out
          unfold putE at h2
          cases hq : lowB low with
          | false => rw [if_pos hq] at h; rw [if_pos (.inl hq)] at h2; exact ⟨h, h2⟩
          | true =>
            rw [if_neg (by rw [hq]; simp)] at h
            cases hr : rgtB z0 with
            | false => rw [if_pos hr] at h3; rw [if_pos (.inr hr)] at h2; exact ⟨by omega, h2⟩
            | true => rw [if_neg (by rw [hr]; simp)] at h3; omega
        obtain ⟨rfl, e1⟩ := hE
        have e2 : PR = [] := by rw [HPR.out]; unfold putR; rw [← HPE.out, if_neg (by omega)]
        have HE := Lib.hid e1
        have HE2 := Lib.hid e2
        clear he e1 e2
        go_wp2_with fail
        go_meet
        case rel => exact ⟨by rw [HE.out], none, 0, 0, rfl, by rw [HE2.out]; exact IntsAt.nil _, Lat.refl _⟩
  case rest =>
  obtain ⟨rfl, wb, wm, wc', rfl, hc⟩ := hcut
  have HAT := Lib.hid hc.out.1
  have HL := Lib.hid hc.out.2
  clear hc HE1
  generalize wc = w1 at *
  go_wp2_with fail
  refine (K1.out _ HL.out).mono ?_
  rintro e w2 ⟨b, m, c, rfl, hm, hat2, hb2⟩
  have HX := Lib.hid hat2
  have HW := Lib.hid (HAT.out.keep hb2)
  have HL2' := Lib.hid (Lat.trans HL.out hb2)
  clear hat2 hb2 hm HAT HL K1
  go_wp2_with fail
  refine (sameErr_any PE _ (HG.out.keep HL2'.out)).mono ?_
  rintro e w3 ⟨rfl, hb3⟩
  have HX3 := Lib.hid (HX.out.keep hb3)
  have HW3 := Lib.hid (HW.out.keep hb3)
  have HL3 := Lib.hid (Lat.trans HL2'.out hb3)
  have HSI := Lib.hid (show sameI PR PR = true from decide_eq_true rfl)
  clear hb3 HX HW HL2'
  go_wp2_with fail
  refine (sameInts_any b m c PR wb wm wc' PR _ HX3.out HW3.out).mono ?_
  rw [HSI.out]
  rintro e w4 ⟨rfl, hb4⟩
  have HL4 := Lib.hid (Lat.trans HL3.out hb4)
  clear hb4 HX3 HW3 HL3 HSI HPE HPR
  obtain ⟨E2, hE2⟩ : ∃ E, E = ge1 low many z2 := ⟨_, rfl⟩
  have HE2 := Lib.hid hE2
  clear hE2
  have hd : (decide (low < 0) = true ∧ E2 = 1) ∨ (decide (low < 0) = false ∧ decide (7 < low) = true ∧ E2 = 1) ∨ (decide (low < 0) = false ∧ decide (7 < low) = false ∧ decide (many < 0) = true ∧ E2 = 1) ∨
      (decide (low < 0) = false ∧ decide (7 < low) = false ∧ decide (many < 0) = false ∧ decide (2000 < many) = true ∧ E2 = 1) ∨ (decide (low < 0) = false ∧ decide (7 < low) = false ∧ decide (many < 0) = false ∧ decide (2000 < many) = false ∧ E2 = if 2000 < n2 then 4 else 0) := by
    have h := HE2.out
    unfold ge1 at h
    by_cases q1 : low < 0
    · exact .inl ⟨decide_eq_true q1, by rw [h, if_pos (.inl (decide_eq_false (by omega)))]⟩
    by_cases q2 : 7 < low
    · exact .inr (.inl ⟨decide_eq_false q1, decide_eq_true q2, by rw [h, if_pos (.inl (decide_eq_false (by omega)))]⟩)
    by_cases q3 : many < 0
    · exact .inr (.inr (.inl ⟨decide_eq_false q1, decide_eq_false q2, decide_eq_true q3, by rw [h, if_pos (.inr (.inl q3))]⟩))
    by_cases q4 : 2000 < many
    · exact .inr (.inr (.inr (.inl ⟨decide_eq_false q1, decide_eq_false q2, decide_eq_false q3, decide_eq_true q4, by rw [h, if_pos (.inr (.inr q4))]⟩)))
    · refine .inr (.inr (.inr (.inr ⟨decide_eq_false q1, decide_eq_false q2, decide_eq_false q3, decide_eq_false q4, ?_⟩)))
      rw [h, if_neg, HL2.out]
      rintro (r | r | r)
      · rw [show lowB low = true from decide_eq_true (by omega)] at r; cases r
      · exact q3 r
      · exact q4 r
  obtain ⟨T1, hT1⟩ : ∃ b : Bool, b = (decide (low < 0) || decide (7 < low) || decide (many < 0) || decide (2000 < many)) := ⟨_, rfl⟩
  have hd2 : (T1 = true ∧ E2 = 1) ∨ (T1 = false ∧ E2 = if 2000 < n2 then 4 else 0) := by
    rw [hT1]
    rcases hd with ⟨q1, h⟩ | ⟨q1, q2, h⟩ | ⟨q1, q2, q3, h⟩ | ⟨q1, q2, q3, q4, h⟩ | ⟨q1, q2, q3, q4, h⟩
    · exact .inl ⟨by rw [q1]; rfl, h⟩
    · exact .inl ⟨by rw [q1, q2]; rfl, h⟩
    · exact .inl ⟨by rw [q1, q2, q3]; rfl, h⟩
    · exact .inl ⟨by rw [q1, q2, q3, q4]; rfl, h⟩
    · exact .inr ⟨by rw [q1, q2, q3, q4]; rfl, h⟩
  have HD := Lib.hid hd
  have HD2 := Lib.hid hd2
  have HT1 := Lib.hid hT1
  clear hd hd2 hT1
  go_upto_region 18 with fail
  go_cut [11] (fun f wx => f = .int .i64 0 ∧ w4 = wx)
  case first =>
    as_aux_lemma =>
      go_wp2_with fail
      go_meet
      case rel => exact ⟨rfl, rfl⟩
  case rest =>
  obtain ⟨rfl, rfl⟩ := hcut
  go_upto_region 19 with fail
  go_cut [87] (fun f wx => f = .bool T1 ∧ w4 = wx)
  case first =>
    as_aux_lemma =>
      have h := HT1.out
      rcases HD.out with ⟨q1, _⟩ | ⟨q1, q2, _⟩ | ⟨q1, q2, q3, _⟩ | ⟨q1, q2, q3, q4, _⟩ | ⟨q1, q2, q3, q4, _⟩
      · rw [q1] at h
        have HT := Lib.hid h
        clear h
        go_wp2_with fail
        go_meet
        case rel => exact ⟨by rw [HT.out]; rfl, rfl⟩
      · rw [q1, q2] at h
        have HT := Lib.hid h
        clear h
        go_wp2_with fail
        go_meet
        case rel => exact ⟨by rw [HT.out]; rfl, rfl⟩
      · rw [q1, q2, q3] at h
        have HT := Lib.hid h
        clear h
        go_wp2_with fail
        go_meet
        case rel => exact ⟨by rw [HT.out]; rfl, rfl⟩
      · rw [q1, q2, q3, q4] at h
        have HT := Lib.hid h
        clear h
        go_wp2_with fail
        go_meet
        case rel => exact ⟨by rw [HT.out]; rfl, rfl⟩
      · rw [q1, q2, q3, q4] at h
        have HT := Lib.hid h
        clear h
        go_wp2_with fail
        go_meet
        case rel => exact ⟨by rw [HT.out]; rfl, rfl⟩
  case rest =>
  obtain ⟨rfl, rfl⟩ := hcut
  go_upto_if 87 with fail
  go_cut [11] (fun f wx => f = .int .i64 E2 ∧ w4 = wx)
  case first =>
    as_aux_lemma =>
      rcases HD2.out with ⟨rfl, h⟩ | ⟨rfl, h⟩
      · have HE := Lib.hid h
        clear h
        go_wp2_with fail
        go_meet
        case rel => exact ⟨by rw [HE.out]; rfl, rfl⟩
      · by_cases hn : 2000 < n2
        · have d1 : decide (2000 < (n2 : Int)) = true := decide_eq_true (by omega)
          rw [if_pos hn] at h
          have HE := Lib.hid h
          clear h hn
          go_wp2_with fail
          go_meet
          case rel => exact ⟨by rw [HE.out]; rfl, rfl⟩
        · have d1 : decide (2000 < (n2 : Int)) = false := decide_eq_false (by omega)
          rw [if_neg hn] at h
          have HE := Lib.hid h
          clear h hn
          go_wp2_with fail
          go_meet
          case rel => exact ⟨by rw [HE.out]; rfl, rfl⟩
  case rest =>
  obtain ⟨rfl, rfl⟩ := hcut
  clear HD HD2 HT1
  obtain ⟨E3, hE3⟩ : ∃ E, E = firstBad bitB z2 E2 z2.length := ⟨_, rfl⟩
  have HE3 := Lib.hid hE3
  clear hE3
  go_upto_block 2 with fail
  go_cut [11] (fun f wx => f = .int .i64 E3 ∧ w4 = wx)
  case first =>
    as_aux_lemma =>
      go_wp2_with fail
      go_loop [11, 16] (fun f i => ∃ k e : Nat, k ≤ n2 ∧ i = .int .i64 k ∧ f = .int .i64 e ∧ Hid (e = firstBad bitB z2 E2 k)) (fun _ i => n2 - (intOf i).toNat)
      case atStart => exact ⟨0, E2, Nat.zero_le _, rfl, rfl, (firstBad_zero _ _ _).symm⟩
      case round =>
        obtain ⟨k, e, hk, rfl, rfl, hrel⟩ := hrel
        by_cases hlt : k < n2
        case neg =>
          obtain rfl : k = n2 := by omega
          have he : e = E3 := by rw [hrel.out, HE3.out, HL2.out]
          have HE := Lib.hid he
          clear he
          go_wp2_with fail
          go_meet
          case rel => exact ⟨by rw [HE.out], rfl⟩
        by_cases he0 : e = 0
        case neg =>
          have d1 : ((e : Int) == 0) = false := beq_eq_false_iff_ne.2 (by omega)
          have he : e = E3 := by
            rw [HE3.out]
            have h := hrel.out
            rw [h]
            exact (firstBad_done (by rw [← h]; exact he0)).symm
          have HE := Lib.hid he
          clear he he0
          go_wp2_with fail
          go_meet
          case rel => exact ⟨by rw [HE.out], rfl⟩
        have d0 : ((e : Int) == 0) = true := beq_iff_eq.2 (by omega)
        have h20 : E2 = 0 := firstBad_nz (by rw [← hrel.out]; exact he0)
        clear he0
        obtain ⟨b1, o1, rfl, hc1⟩ := (H2.out.keep HL4.out).row.at_ (by omega)
        have c1 := hc1 k hlt
        have hb := firstBad_bad (t := bitB) (zs := z2) (k := k) (by rw [HL2.out]; exact hlt)
        have hgd := firstBad_good (t := bitB) (zs := z2) (k := k) (by rw [HL2.out]; exact hlt)
        rw [← h20] at hb hgd
        obtain ⟨z, hz⟩ : ∃ z, z = z2.getD k 0 := ⟨_, rfl⟩
        rw [← hz] at c1 hb hgd
        have hd : (decide (z < 0) = true ∧ firstBad bitB z2 E2 (k + 1) = 1) ∨ (decide (z < 0) = false ∧ decide (1 < z) = true ∧ firstBad bitB z2 E2 (k + 1) = 1) ∨ (decide (z < 0) = false ∧ decide (1 < z) = false ∧ firstBad bitB z2 E2 (k + 1) = firstBad bitB z2 E2 k) := by
          by_cases q1 : z < 0
          · exact .inl ⟨decide_eq_true q1, hb (decide_eq_false (by omega))⟩
          by_cases q2 : 1 < z
          · exact .inr (.inl ⟨decide_eq_false q1, decide_eq_true q2, hb (decide_eq_false (by omega))⟩)
          · exact .inr (.inr ⟨decide_eq_false q1, decide_eq_false q2, hgd (decide_eq_true (by omega))⟩)
        have H20 := Lib.hid h20
        clear hc1 hz hb hgd h20
        rcases hd with ⟨d1, hs⟩ | ⟨d1, d2, hs⟩ | ⟨d1, d2, hs⟩
        · have HS := Lib.hid hs
          clear hs
          go_wp2_with fail
          go_round
          case rel => exact ⟨k + 1, 1, by omega, by go_num, rfl, HS.out.symm⟩
          case measure => simp [intOf]; omega
        · have HS := Lib.hid hs
          clear hs
          go_wp2_with fail
          go_round
          case rel => exact ⟨k + 1, 1, by omega, by go_num, rfl, HS.out.symm⟩
          case measure => simp [intOf]; omega
        · have HS := Lib.hid hs
          clear hs
          go_wp2_with fail
          go_round
          case rel => exact ⟨k + 1, e, by omega, by go_num, rfl, by rw [HS.out]; exact hrel.out⟩
          case measure => simp [intOf]; omega
  case rest =>
  obtain ⟨rfl, rfl⟩ := hcut
  have hgs := getE_steps low many z2
  rw [← HE2.out, ← HE3.out, ← HGE.out] at hgs
  have hgr : GR = if GE = 0 then (gotN low.toNat many.toNat z2).getD [] else [] := by rw [HGR.out, HGE.out]; rfl
  have HGS := Lib.hid hgs
  have HGRR := Lib.hid hgr
  clear hgs hgr
  go_upto_if 114 with fail
  go_cut [11, 12] (fun f v wx => f = .int .i64 GE ∧ ∃ b m c, v = .slice b m c ∧ Hid (IntsAt wx b m c GR ∧ Lat w4 wx))
  case first =>
    as_aux_lemma =>
      by_cases he : E3 = 0
      case neg =>
        have d1 : ((E3 : Int) == 0) = false := beq_eq_false_iff_ne.2 (by omega)
        have e1 : GE = E3 := by rw [HGS.out, if_pos he]
        have e2 : GR = [] := by rw [HGRR.out, if_neg (by omega)]
        have HE := Lib.hid e1
        have HEE := Lib.hid e2
        clear he e1 e2
        go_wp2_with fail
        go_meet
        case rel => exact ⟨by rw [HE.out], none, 0, 0, rfl, by rw [HEE.out]; exact IntsAt.nil _, Lat.refl _⟩
      have d1 : ((E3 : Int) == 0) = true := beq_iff_eq.2 (by omega)
      have HE30 := Lib.hid he
      have h20 : E2 = 0 := firstBad_nz (by rw [← HE3.out]; exact he)
      have hbits : bitsB z2 = true := by
        have h := HE3.out
        rw [h20, he, firstBad_all] at h
        cases hq : z2.any fun z => !bitB z with
        | true => rw [hq, if_pos rfl] at h; omega
        | false => unfold bitsB; rw [hq]; rfl
      have hge1 := HE2.out
      rw [h20] at hge1
      unfold ge1 at hge1
      split at hge1
      · omega
      rename_i r1
      split at hge1
      · omega
      rename_i r2
      have hlow : lowB low = true := by
        cases hq : lowB low with
        | true => rfl
        | false => exact absurd (Or.inl hq) r1
      have hl7 : 0 ≤ low ∧ low ≤ 7 := of_decide_eq_true hlow
      have m1 : ¬ many < 0 := fun q => r1 (.inr (.inl q))
      have m2 : ¬ 2000 < many := fun q => r1 (.inr (.inr q))
      obtain ⟨l, rfl⟩ := Int.eq_ofNat_of_zero_le hl7.1
      obtain ⟨K, rfl⟩ := Int.eq_ofNat_of_zero_le (show 0 ≤ many by omega)
      have hbit := bitsB_yes hbits
      have hn2 : n2 ≤ 2000 := by have := HL2.out; omega
      have hgs := HGS.out
      have hgr := HGRR.out
      rw [if_neg (by omega), Int.toNat_natCast, Int.toNat_natCast] at hgs
      rw [Int.toNat_natCast, Int.toNat_natCast] at hgr
      have HS := Lib.hid hgs
      have HSR := Lib.hid hgr
      have HBIT := Lib.hid hbit
      have hl8 : l ≤ 7 := by omega
      have hK : K ≤ 2000 := by omega
      obtain ⟨W1, hW1⟩ : ∃ W, W = w4.alloc (.cells #[.slice a2 n2 c2, .int .i64 0, .bool false] 69) := ⟨_, rfl⟩
      have hl1 : Lat w4 W1 := by rw [hW1]; exact Lat.alloc _ _
      have hr0 : RdR W1 w4.heap.size a2 n2 c2 0 z2 false := by
        rw [hW1]
        exact ⟨by simp, by simp, by simp, by simp, by simp, H2.out.keep (Lat.trans HL4.out (Lat.alloc _ _)), (H2.out.keep HL4.out).far (Nat.le_refl _), Nat.zero_le _⟩
      obtain ⟨g, hg⟩ : ∃ g, g = w4.heap.size := ⟨_, rfl⟩
      rw [← hg] at hr0
      have HR0 := Lib.hid hr0
      have HL1 := Lib.hid hl1
      have HGG := Lib.hid hg
      clear he h20 hbits hge1 r1 r2 hlow hl7 m1 m2 hbit hgs hgr hl1 hr0
      go_upto_block 4 with fail
      rw [← hW1, ← hg]
      clear hW1 hg d1
      rename ((E3 : Int) == 0) = true => hq
      clear hq
      go_cut [12] (fun v wx => ∃ (k q : Nat) (vs : List Int) (bad : Bool), k ≤ K ∧ Hid (OwnInts wx W1.heap.size v vs ∧ vs.length = k ∧ RdR wx g a2 n2 c2 q z2 bad ∧ But g W1 wx ∧ SAt l k z2 vs q bad ∧ (bad = false → k = K)))
      case first =>
        go_wp2_with fail
        go_loopw [12, 18] (fun v i wr => ∃ (k q : Nat) (vs : List Int) (bad : Bool), k ≤ K ∧ i = .int .i64 k ∧ Hid (OwnInts wr W1.heap.size v vs ∧ vs.length = k ∧ RdR wr g a2 n2 c2 q z2 bad ∧ But g W1 wr ∧ SAt l k z2 vs q bad)) (fun _ i _ => K - (intOf i).toNat)
        case atStart => exact ⟨0, 0, [], false, Nat.zero_le _, rfl, Own.nil _ _ _, rfl, HR0.out, But.refl _ _, .inl ⟨rfl, rfl⟩⟩
        case round =>
          obtain ⟨k, q, vs, bad, hk, rfl, hrel⟩ := hrel
          obtain ⟨x1, x2, x3, x4, x5⟩ := hrel.out
          have k2 := x3.c2
          have X1 := Lib.hid x1
          have X2 := Lib.hid x2
          have X3 := Lib.hid x3
          have X4 := Lib.hid x4
          have X5 := Lib.hid x5
          clear hrel x1 x2 x3 x4 x5
          by_cases hlt : k < K
          case neg =>
            obtain rfl : k = K := by omega
            go_wp2_with fail
            go_meet
            case rel => exact ⟨k, q, vs, bad, Nat.le_refl _, X1.out, X2.out, X3.out, X4.out, X5.out, fun _ => rfl⟩
          cases bad with
          | true =>
            go_wp2_with fail
            go_meet
            case rel => exact ⟨k, q, vs, true, hk, X1.out, X2.out, X3.out, X4.out, X5.out, fun h => by cases h⟩
          | false =>
            have hcall := snumber_any wr g a2 n2 c2 q l z2 false X3.out HBIT.out hn2 hl8
            have HC := Lib.hid hcall
            clear hcall
            go_wp2_with fail
            refine HC.out.mono ?_
            rintro e w5 ⟨x, q2, bad2, rfl, hr5, ho5, hpost⟩
            have hBS : W1.heap.size ≤ w5.heap.size := Nat.le_trans X4.out.size (Nat.le_of_eq ho5.size.symm)
            have hown5 := Own.only X1.out ho5 (show g < W1.heap.size from HR0.out.lt)
            have hlen5 : vs.length < 1000000000000 := by rw [X2.out]; omega
            have HR5 := Lib.hid hr5
            have HB5 := Lib.hid (X4.out.trans ho5.but)
            have HOW := Lib.hid hown5
            have HLEN := Lib.hid hlen5
            have HBS := Lib.hid hBS
            have HPO := Lib.hid (SAt.go X5.out hpost.out)
            clear hr5 ho5 hown5 hlen5 hBS hpost
            go_wp2_with (at_builtin; refine app_intB w5 W1.heap.size rfl _ _ rfl _ _ _ (by rfl) HOW.out (by rfl) HLEN.out HBS.out ?_)
            intro v' w6 hown6 hb6 hstep6
            have HOW6 := Lib.hid hown6
            have HB6 := Lib.hid hb6
            clear hown6 hb6 hstep6
            go_wp2_with fail
            go_roundw
            case rel => exact ⟨k + 1, q2, vs ++ [x], bad2, by omega, by go_num, HOW6.out, by rw [List.length_append, X2.out]; rfl, RdR.below HR0.out HR5.out HB5.out HB6.out, HB5.out.below HB6.out, HPO.out⟩
            case measure => simp [intOf]; omega
      case rest =>
      obtain ⟨k, q, vs, bad, hk, hc⟩ := hcut
      obtain ⟨x1, x2, x3, x4, x5, x6⟩ := hc.out
      generalize wc = w5 at *
      have k1 := x3.c1
      have k2 := x3.c2
      have hq := x3.le
      have hl5 : Lat w4 w5 := x4.lat HL1.out (Nat.le_of_eq HGG.out.symm)
      have HL5 := Lib.hid hl5
      cases bad with
      | true =>
        have hgn := x5.bad hk
        have e1 : GE = 2 := by rw [HS.out, if_pos hgn]
        have e2 : GR = [] := by rw [HSR.out, if_neg (by omega)]
        have HE := Lib.hid e1
        have HEE := Lib.hid e2
        clear hgn e1 e2 x1 x2 x3 x4 x5 x6 hl5 hc
        go_wp2_with fail
        go_meet
        case rel => exact ⟨by rw [HE.out]; rfl, none, 0, 0, rfl, by rw [HEE.out]; exact IntsAt.nil _, HL5.out⟩
      | false =>
        obtain rfl := x6 rfl
        by_cases hqn : q = n2
        · have hgn := x5.good (by rw [HL2.out, hqn]; exact Nat.le_refl _)
          have e1 : GE = 0 := by rw [HS.out, if_neg (by rw [hgn]; simp)]
          have e2 : GR = vs := by rw [HSR.out, if_pos e1, hgn]; rfl
          have d5 : ((q : Int) != (n2 : Int)) = false := by rw [bne_eq_false_iff_eq]; omega
          obtain ⟨va, vc, hv, hat⟩ := OwnInts.sliceN x1 (fun z hz => by have := SAt.wf HBIT.out x5 z hz; omega) rfl
          have HE := Lib.hid e1
          have HEE := Lib.hid e2
          have HAT := Lib.hid hat
          have HV := Lib.hid hv
          clear hgn e1 e2 x1 x2 x3 x4 x5 x6 hl5 hc hat hv hqn
          go_wp2_with fail
          go_meet
          case rel => exact ⟨by rw [HE.out, HE30.out], va, vs.length, vc, HV.out, by rw [HEE.out]; exact HAT.out, HL5.out⟩
        · have hgn := x5.long (by rw [HL2.out]; omega)
          have e1 : GE = 2 := by rw [HS.out, if_pos hgn]
          have e2 : GR = [] := by rw [HSR.out, if_neg (by omega)]
          have d5 : ((q : Int) != (n2 : Int)) = true := by rw [bne_iff_ne]; omega
          have HE := Lib.hid e1
          have HEE := Lib.hid e2
          clear hgn e1 e2 x1 x2 x3 x4 x5 x6 hl5 hc hqn
          go_wp2_with fail
          go_meet
          case rel => exact ⟨by rw [HE.out]; rfl, none, 0, 0, rfl, by rw [HEE.out]; exact IntsAt.nil _, HL5.out⟩
  case rest =>
  obtain ⟨rfl, wb2, wm2, wc2, rfl, hc⟩ := hcut
  have HAT := Lib.hid hc.out.1
  have HL5 := Lib.hid (Lat.trans HL4.out hc.out.2)
  clear hc HE2 HE3 HGS HGRR HLB
  generalize wc = w5 at *
  go_wp2_with fail
  refine (K2.out _ HL5.out).mono ?_
  rintro e w6 ⟨b6, m6, c6, rfl, hat6, hb6⟩
  have HX := Lib.hid hat6
  have HW := Lib.hid (HAT.out.keep hb6)
  have HL6 := Lib.hid (Lat.trans HL5.out hb6)
  clear hat6 hb6 HAT HL5 K2
  go_wp2_with fail
  refine (sameErr_any GE _ (HG.out.keep HL6.out)).mono ?_
  rintro e w7 ⟨rfl, hb7⟩
  have HX7 := Lib.hid (HX.out.keep hb7)
  have HW7 := Lib.hid (HW.out.keep hb7)
  have HL7 := Lib.hid (Lat.trans HL6.out hb7)
  have HSI := Lib.hid (show sameI GR GR = true from decide_eq_true rfl)
  clear hb7 HX HW HL6
  go_wp2_with fail
  refine (sameInts_any b6 m6 c6 GR wb2 wm2 wc2 GR _ HX7.out HW7.out).mono ?_
  rw [HSI.out]
  rintro e w8 ⟨rfl, hb8⟩
  have HL8 := Lib.hid (Lat.trans HL7.out hb8)
  clear hb8 HX7 HW7 HL7 HSI HGE HGR
  have hfb : ∀ j, j ≤ 7 → F = 0 → bslF z0 j ≤ 1000000000 := fun j hj hF0 => by
    have hr : rgtB z0 = true := by
      cases hq : rgtB z0 with
      | true => rfl
      | false => have := HF2.out; rw [if_pos hq] at this; omega
    have h1 := ric_len z0 j (rgtB_yes hr) hj z0.length
    rw [ric_all] at h1
    have h2 := HL0.out
    unfold bslF
    omega
  have HFB := Lib.hid hfb
  clear hfb
  go_upto_block 6 with fail
  go_cut [21, 22] (fun b l wx => ∃ bv lv : Int, b = .int .i64 bv ∧ l = .int .i64 lv ∧ BestAt (bslF z0) F bv lv ∧ Hid (Lat w wx))
  case first =>
    as_aux_lemma =>
      go_wp2_with fail
      go_loopw [21, 22, 23, 24] (fun b l i _ wr => ∃ (k : Nat) (bv lv : Int), k ≤ 8 ∧ i = .int .i64 k ∧ b = .int .i64 bv ∧ l = .int .i64 lv ∧ Hid (bv = (bstR (bslF z0) k).1 ∧ lv = (bstR (bslF z0) k).2) ∧ Hid (F ≠ 0 → k = 0) ∧ Hid (Lat w wr)) (fun _ _ i _ _ => 8 - (intOf i).toNat)
      case atStart => exact ⟨0, 0, 2001, by omega, rfl, rfl, rfl, ⟨rfl, rfl⟩, fun _ => rfl, HL8.out⟩
      case round =>
        obtain ⟨k, bv, lv, hk, rfl, rfl, rfl, hbl, hk0, hlw⟩ := hrel
        by_cases hF : F = 0
        case neg =>
          have hk00 := hk0.out hF
          subst hk00
          have d1 : ((F : Int) == 0) = false := beq_eq_false_iff_ne.2 (by omega)
          have h1 := hbl.out.1
          have h2 := hbl.out.2
          have H1 := Lib.hid h1
          have H22 := Lib.hid h2
          have hlv : lv = 2001 := h2
          have HLV := Lib.hid hlv
          have HFN := Lib.hid hF
          clear h1 h2 hbl hF hlv
          go_wp2_with fail
          go_meet
          case rel => exact ⟨bv, lv, rfl, rfl, ⟨by have := HLV.out; omega, by have := HLV.out; omega, fun h => absurd h HFN.out, fun _ => H1.out⟩, hlw.out⟩
        have hbd := bstR_bd (bslF z0) (fun j hj => HFB.out j hj hF) k hk
        rw [← hbl.out.1, ← hbl.out.2] at hbd
        obtain ⟨q1, q2, q3, q4⟩ := hbd
        by_cases hlt : k < 8
        case neg =>
          obtain rfl : k = 8 := by omega
          have d1 : ((F : Int) == 0) = true := beq_iff_eq.2 (by omega)
          have HF0 := Lib.hid hF
          clear hF
          go_wp2_with fail
          go_meet
          case rel => exact ⟨bv, lv, rfl, rfl, ⟨q3, q4, fun _ => hbl.out, fun h => absurd HF0.out h⟩, hlw.out⟩
        have d1 : ((F : Int) == 0) = true := beq_iff_eq.2 (by omega)
        have hr : rgtB z0 = true := by
          cases hq : rgtB z0 with
          | true => rfl
          | false => have := HF2.out; rw [if_pos hq] at this; omega
        have hm := HFB.out k (by omega) hF
        have hst : (bstR (bslF z0) (k + 1)) = if (bslF z0 k : Int) < lv then ((k : Int), (bslF z0 k : Int)) else (bv, lv) := by
          rw [bstR, ← hbl.out.2]
          have : bstR (bslF z0) k = (bv, lv) := by rw [hbl.out.1, hbl.out.2]
          rw [this]
        have hcall := K4.out k wr hlw.out (by omega) hr
        obtain ⟨M, hM⟩ : ∃ M, M = bslF z0 k := ⟨_, rfl⟩
        rw [← hM] at hm hst hcall
        have HC := Lib.hid hcall
        have HST := Lib.hid hst
        have HF0 := Lib.hid hF
        have hl1 : ¬ (8 : Int) ≤ k := by omega
        clear hcall hst hF hr hM hk0 hbl
        go_wp2_with fail
        refine HC.out.mono ?_
        rintro e w9 ⟨va, vc, rfl, hat9, hb9⟩
        have HL9 := Lib.hid (Lat.trans hlw.out hb9)
        clear hat9 hb9 HC
        by_cases hlt2 : (M : Int) < lv
        · have d3 : decide ((M : Int) < lv) = true := decide_eq_true hlt2
          have hst := HST.out
          rw [if_pos hlt2] at hst
          have HS2 := Lib.hid hst
          clear hst hlt2
          go_wp2_with fail
          go_roundw
          case rel => exact ⟨k + 1, k, M, by omega, by go_num, rfl, rfl, ⟨by rw [HS2.out], by rw [HS2.out]⟩, fun h => absurd HF0.out h, HL9.out⟩
          case measure => simp [intOf]; omega
        · have d3 : decide ((M : Int) < lv) = false := decide_eq_false hlt2
          have hst := HST.out
          rw [if_neg hlt2] at hst
          have HS2 := Lib.hid hst
          clear hst hlt2
          go_wp2_with fail
          go_roundw
          case rel => exact ⟨k + 1, bv, lv, by omega, by go_num, rfl, rfl, ⟨by rw [HS2.out], by rw [HS2.out]⟩, fun h => absurd HF0.out h, HL9.out⟩
          case measure => simp [intOf]; omega
  case rest =>
  obtain ⟨bv, lv, rfl, rfl, hba, hlx⟩ := hcut
  obtain ⟨q1, q2, hb1, hb2⟩ := hba
  have hb1 := Lib.hid hb1
  have hb2 := Lib.hid hb2
  generalize wc = w9 at *
  have hbs := bslE_steps z0
  have HBS := Lib.hid hbs
  clear hbs K4 HFB HL8
  obtain ⟨T, hT⟩ : ∃ T : Bool, T = (((F : Int) == 0) && decide (2000 < lv)) := ⟨_, rfl⟩
  have HT := Lib.hid hT
  clear hT
  go_upto_region 50 with fail
  go_cut [187] (fun f wx => f = .bool T ∧ w9 = wx)
  case first =>
    as_aux_lemma =>
      by_cases hF : F = 0
      · have d1 : ((F : Int) == 0) = true := beq_iff_eq.2 (by omega)
        by_cases hlv : 2000 < lv
        · have d2 : decide (2000 < lv) = true := decide_eq_true hlv
          have e : T = true := by rw [HT.out, d1, d2]; rfl
          have HE := Lib.hid e
          clear e hF hlv
          go_wp2_with fail
          go_meet
          case rel => exact ⟨by rw [HE.out], rfl⟩
        · have d2 : decide (2000 < lv) = false := decide_eq_false hlv
          have e : T = false := by rw [HT.out, d1, d2]; rfl
          have HE := Lib.hid e
          clear e hF hlv
          go_wp2_with fail
          go_meet
          case rel => exact ⟨by rw [HE.out], rfl⟩
      · have d1 : ((F : Int) == 0) = false := beq_eq_false_iff_ne.2 (by omega)
        have e : T = false := by rw [HT.out, d1]; rfl
        have HE := Lib.hid e
        clear e hF
        go_wp2_with fail
        go_meet
        case rel => exact ⟨by rw [HE.out], rfl⟩
  case rest =>
  obtain ⟨rfl, rfl⟩ := hcut
  go_upto_if 187 with fail
  go_cut [9, 21] (fun f b wx => f = .int .i64 BE ∧ b = .int .i64 BV ∧ w9 = wx)
  case first =>
    as_aux_lemma =>
      have hall : (T = true ∧ BE = 4 ∧ BV = 0) ∨ (T = false ∧ BE = F ∧ BV = bv) := by
        rw [HT.out]
        by_cases hF : F = 0
        · have hr : rgtB z0 = true := by
            cases hq : rgtB z0 with
            | true => rfl
            | false => have := HF2.out; rw [if_pos hq] at this; omega
          have h1 := HBS.out.2 hr
          rw [← HBE.out, ← HBV.out, ← (hb1.out hF).1, ← (hb1.out hF).2] at h1
          have d1 : ((F : Int) == 0) = true := beq_iff_eq.2 (by omega)
          rw [d1]
          by_cases hlv : 2000 < lv
          · exact .inl ⟨by rw [decide_eq_true hlv]; rfl, h1.1 hlv⟩
          · exact .inr ⟨by rw [decide_eq_false hlv]; rfl, by rw [hF]; exact (h1.2 hlv).1, (h1.2 hlv).2⟩
        · have d1 : ((F : Int) == 0) = false := beq_eq_false_iff_ne.2 (by omega)
          have hr : rgtB z0 = false := by
            cases hq : rgtB z0 with
            | false => rfl
            | true => have := HF2.out; rw [if_neg (by rw [hq]; simp)] at this; omega
          obtain ⟨e1, e2⟩ := HBS.out.1 hr
          have hF1 : F = 1 := by have := HF2.out; rw [if_pos hr] at this; exact this
          rw [← HBE.out] at e1
          rw [← HBV.out] at e2
          exact .inr ⟨by rw [d1]; rfl, by rw [e1, hF1], by rw [e2, hb2.out hF]⟩
      rcases hall with ⟨h1, h2, h3⟩ | ⟨h1, h2, h3⟩
      · clear HT
        subst h1
        have HE := Lib.hid h2
        have HEE := Lib.hid h3
        clear h2 h3
        go_wp2_with fail
        go_meet
        case rel => exact ⟨by rw [HE.out]; rfl, by rw [HEE.out], rfl⟩
      · clear HT
        subst h1
        have HE := Lib.hid h2
        have HEE := Lib.hid h3
        clear h2 h3
        go_wp2_with fail
        go_meet
        case rel => exact ⟨by rw [HE.out], by rw [HEE.out], rfl⟩
  case rest =>
  obtain ⟨rfl, rfl, rfl⟩ := hcut
  clear HBS HBE HBV hb1 hb2 HT
  go_wp2_with fail
  refine (K3.out _ hlx.out).mono ?_
  rintro e w10 ⟨rfl, hb10⟩
  have HL10 := Lib.hid (Lat.trans hlx.out hb10)
  clear hb10
  go_wp2_with fail
  refine (sameErr_any BE _ (HG.out.keep HL10.out)).mono ?_
  rintro e w11 ⟨rfl, hb11⟩
  have HL11 := Lib.hid (Lat.trans HL10.out hb11)
  clear hb11
  go_wp2
  go_ret
  exact ⟨rfl, HL11.out⟩
end Go.Proofs.YtnnjijdpenifjaaDoor
