/- The walk of MixOne: it returns true, whatever the blocks and the number. -/
import Derived.Test.YtllnipmkoibagaaMixSum
namespace Go.Proofs.Ytllnipmkoibagaa
open Go.ChangeShapes Go.WideShapes Go.ChangeAt Go.RowKit

/-- the numbers 0 .. k-1, and these but i -/
def allN (k : Nat) : List Int := (List.range k).map Int.ofNat
def fewN (i : Nat) : Nat → List Int
  | 0 => []
  | k + 1 => if k = i then fewN i k else fewN i k ++ [(k : Int)]
theorem allN_succ (k : Nat) : allN (k + 1) = allN k ++ [(k : Int)] := by unfold allN; rw [List.range_succ, List.map_append]; rfl
theorem allN_length (k : Nat) : (allN k).length = k := by simp [allN]
theorem fewN_length (i : Nat) : ∀ k, (fewN i k).length = if i < k then k - 1 else k
  | 0 => by simp [fewN]
  | k + 1 => by
    have ih := fewN_length i k
    unfold fewN
    by_cases h : k = i
    · rw [if_pos h, ih, if_neg (by omega), if_pos (by omega)]; omega
    · rw [if_neg h, List.length_append, ih, List.length_singleton]
      by_cases h2 : i < k
      · rw [if_pos h2, if_pos (by omega)]; omega
      · rw [if_neg h2, if_neg (by omega)]
theorem fewN_lt (i : Nat) : ∀ k, ∀ z ∈ fewN i k, 0 ≤ z ∧ z < k
  | 0, z, h => by simp [fewN] at h
  | k + 1, z, h => by
    unfold fewN at h
    split at h
    · have := fewN_lt i k z h; omega
    · rcases List.mem_append.1 h with h | h
      · have := fewN_lt i k z h; omega
      · rw [List.mem_singleton] at h; omega
theorem allN_lt (k : Nat) : ∀ z ∈ allN k, 0 ≤ z ∧ z < k := by
  intro z h; obtain ⟨j, hj, rfl⟩ := List.mem_map.1 h
  have := List.mem_range.1 hj; have e : Int.ofNat j = (j : Int) := rfl; omega
theorem ofErr_snoc (n : Nat) (zs : List Int) (z : Int) (k : Nat) (hk : k ≤ zs.length) : ofErr n (zs ++ [z]) k = ofErr n zs k := by
  induction k with
  | zero => rfl
  | succ k ih =>
    have e : (zs ++ [z]).getD k 0 = zs.getD k 0 := by simp [List.getD, List.getElem?_append_left (show k < zs.length by omega)]
    unfold ofErr
    rw [ih (by omega), e, List.take_append_of_le_length (by omega)]
theorem ofErr_add (n : Nat) (zs : List Int) (z : Int) (h : ofErr n zs zs.length = 0) (h0 : 0 ≤ z) (h1 : z < n) (h2 : z ∉ zs) : ofErr n (zs ++ [z]) (zs ++ [z]).length = 0 := by
  rw [List.length_append, List.length_singleton, ofErr, ofErr_snoc n zs z _ (Nat.le_refl _), if_neg (by rw [h]; simp)]
  have e : (zs ++ [z]).getD zs.length 0 = z := by simp [List.getD]
  rw [e, if_neg (by omega), List.take_append_of_le_length (Nat.le_refl _), List.take_length, if_neg h2]
theorem ofErr_all (n : Nat) : ∀ k, k ≤ n → ofErr n (allN k) (allN k).length = 0
  | 0, _ => rfl
  | k + 1, h => by
    rw [allN_succ]
    exact ofErr_add n _ _ (ofErr_all n k (by omega)) (by omega) (by omega) (fun hm => by have := allN_lt k _ hm; omega)
theorem ofErr_few (n i : Nat) : ∀ k, k ≤ n → ofErr n (fewN i k) (fewN i k).length = 0
  | 0, _ => rfl
  | k + 1, h => by
    unfold fewN
    split
    · exact ofErr_few n i k (by omega)
    · exact ofErr_add n _ _ (ofErr_few n i k (by omega)) (by omega) (by omega) (fun hm => by have := fewN_lt i k _ hm; omega)

theorem sumTo_snoc (ss : List ByteArray) (m : Nat) (zs : List Int) (z : Int) : sumTo ss m (zs ++ [z]) (zs ++ [z]).length = xorL (sumTo ss m zs zs.length) (bl ss z.toNat) := by
  have h : ∀ k, k ≤ zs.length → sumTo ss m (zs ++ [z]) k = sumTo ss m zs k := by
    intro k hk
    induction k with
    | zero => rfl
    | succ k ih =>
      unfold sumTo
      rw [ih (by omega)]
      congr 2
      simp [List.getD, List.getElem?_append_left (show k < zs.length by omega)]
  rw [List.length_append, List.length_singleton, sumTo, h _ (Nat.le_refl _)]
  congr 2
  simp [List.getD]
/-- all over one another: those but i, and i behind -/
theorem sum_all_few (ss : List ByteArray) (m i : Nat) : ∀ k, (k ≤ i → sumTo ss m (allN k) (allN k).length = sumTo ss m (fewN i k) (fewN i k).length) ∧ (i < k → sumTo ss m (allN k) (allN k).length = xorL (sumTo ss m (fewN i k) (fewN i k).length) (bl ss i))
  | 0 => ⟨fun _ => rfl, fun h => by omega⟩
  | k + 1 => by
    have ih := sum_all_few ss m i k
    rw [allN_succ, sumTo_snoc]
    have et : ((k : Nat) : Int).toNat = k := by omega
    rw [et]
    unfold fewN
    constructor
    · intro h
      rw [if_neg (by omega), sumTo_snoc, et, ih.1 (by omega)]
    · intro h
      by_cases hk : k = i
      · subst hk; rw [if_pos rfl, ih.1 (Nat.le_refl _)]
      · rw [if_neg hk, sumTo_snoc, et, ih.2 (by omega), xorL_assoc, xorL_assoc, xorL_comm (bl ss i)]
theorem sum_cancel (ss : List ByteArray) (m i n : Nat) (h : i < n) (hl : ∀ j, j < n → szAt ss j = m) :
    xorL (sumTo ss m (allN n) (allN n).length) (sumTo ss m (fewN i n) (fewN i n).length) = bl ss i := by
  have hf : (sumTo ss m (fewN i n) (fewN i n).length).length = m := sumTo_length ss m _ _ (fun j hj => by
    have := fewN_lt i n _ (getD_mem (fewN i n) j hj)
    exact hl _ (by omega))
  have hb : (bl ss i).length = m := by rw [bl_length]; exact hl i h
  rw [(sum_all_few ss m i n).2 h, xorL_comm (sumTo ss m (fewN i n) _), xorL_back _ _ (by rw [hf, hb])]
theorem sum_one (ss : List ByteArray) (m i : Nat) (h : szAt ss i = m) : sumTo ss m [(i : Int)] 1 = bl ss i := by
  have e : sumTo ss m [(i : Int)] 1 = xorL (noughts m) (bl ss i) := rfl
  rw [e, xorL_comm]
  have hb : (bl ss i).length = m := by rw [bl_length]; exact h
  rw [← hb]; exact xorL_noughts _

theorem S_data (s : ByteArray) : S s.data.toList = s := rfl
theorem mixOne_fact (w : World) : Calls Try.prog 24 #[.slice (some ⟨w.heap.size, 0, none⟩) 2 2, .slice (some ⟨w.heap.size + 1, 0, none⟩) 2 2]
    ((w.alloc (.cells #[.string { data := #[97] }, .string { data := #[98] }] 9)).alloc (.cells #[.int .i64 0, .int .i64 1] 3)) fun e w' => e = .returned (.tuple #[.string { data := #[3] }, .nilIface]) ∧
      Lat ((w.alloc (.cells #[.string { data := #[97] }, .string { data := #[98] }] 9)).alloc (.cells #[.int .i64 0, .int .i64 1] 3)) w' := by
  have h1 := (strs_new w [S [97], S [98]] 9 (by decide) (by intro s hs; simp at hs; rcases hs with rfl | rfl <;> decide)).keep (Lat.alloc _ (.cells #[.int .i64 0, .int .i64 1] 3))
  have h2 := ints_new (w.alloc (.cells #[.string { data := #[97] }, .string { data := #[98] }] 9)) [0, 1] 3 (by decide) (by intro z hz; simp at hz; rcases hz with rfl | rfl <;> decide)
  have e : (w.alloc (.cells #[.string { data := #[97] }, .string { data := #[98] }] 9)).heap.size = w.heap.size + 1 := by simp
  rw [e] at h2
  refine (sum_ok _ 2 2 [S [97], S [98]] _ 2 2 [0, 1] _ h1 h2 (chk_of ⟨by decide, by decide, by decide, by decide, ?_⟩) (by decide) (by decide)).mono ?_
  · intro j hj
    match j, hj with
    | 0, _ => rfl
    | 1, _ => rfl
  · intro e w' h
    exact ⟨by rw [h.1]; rfl, h.2⟩
theorem sum_ok_eq (r : ByteArray) (a : Option Addr) (n cap : Nat) (ss : List ByteArray) (a2 : Option Addr) (k cap2 : Nat) (zs : List Int) (w : World) (h : StrsAt w a n cap ss) (h2 : IntsAt w a2 k cap2 zs) (hok : chk ss = 0) (hk : k ≠ 0) (he : ofErr n zs k = 0) (hr : S (sumTo ss (szAt ss 0) zs k) = r) :
    Calls Try.prog 24 #[.slice a n cap, .slice a2 k cap2] w fun e w' => e = .returned (.tuple #[.string r, .nilIface]) ∧ Lat w w' := by
  subst hr; exact sum_ok a n cap ss a2 k cap2 zs w h h2 hok hk he
theorem xor_eq (r : ByteArray) (a b : List UInt8) (w : World) (h1 : a.length ≤ 120) (h3 : a.length = b.length) (hr : S (xorL a b) = r) :
    Calls Try.prog 15 #[.string (S a), .string (S b)] w fun e w' => e = .returned (.tuple #[.string r, .nilIface]) ∧ Lat w w' := by
  subst hr; exact xor_ok (S a) (S b) w h1 h3

set_option maxHeartbeats 2000000 in
set_option maxRecDepth 100000 in
theorem walk_mixOne (a : Option Addr) (n cap : Nat) (ss : List ByteArray) (i : Int) (w : World) (h : StrsAt w a n cap ss) (wi : (Lit.int .i64 i).wf = true) :
    Calls Try.prog 10 #[.slice a n cap, .int .i64 i] w fun e w' => e = .returned (.bool true) ∧ Lat w w' := by
  have hi : -9223372036854775808 ≤ i ∧ i ≤ 9223372036854775807 := by simpa [Lit.wf, IntKind.min, IntKind.max, IntKind.signed, IntKind.bits] using wi
  have HI := Lib.hid hi
  have H := Lib.hid h
  clear h hi wi
  go_enter Try.func10, Try.ntmps10
  go_wp2_with fail
  refine (mixOne_fact w).mono ?_
  rintro e w1 ⟨rfl, hb0⟩
  have hb1 : Lat w w1 := Lat.trans (Lat.trans (Lat.alloc _ _) (Lat.alloc _ _)) hb0
  clear hb0
  go_wp2_with fail
  have hb2 : Lat w (w1.alloc (.cells #[.int .i64 i] 3)) := Lat.trans hb1 (Lat.alloc _ _)
  have hat := H.out.keep hb2
  have hatI := ints_new w1 [i] 3 (by simp) (by intro z hz; rw [List.mem_singleton] at hz; subst hz; exact HI.out)
  by_cases hc : chk ss = 0
  case neg =>
    refine (sum_chk a n cap ss _ _ hat hc).mono ?_
    rintro e w2 ⟨rfl, hb3⟩
    clear hat hatI
    go_wp2
    go_ret
    exact ⟨rfl, Lat.trans hb2 hb3⟩
  by_cases hr : i < 0 ∨ (n : Int) ≤ i
  · have he : ofErr n [i] 1 = 1 := by rw [ofErr, if_neg (by simp [ofErr])]; exact if_pos hr
    refine (sum_bad a n cap ss _ 1 1 [i] _ hat hatI hc (by omega) (by rw [he]; omega)).mono ?_
    rintro e w2 ⟨rfl, hb3⟩
    clear hat hatI
    go_wp2
    go_ret
    exact ⟨rfl, Lat.trans hb2 hb3⟩
  obtain ⟨j, rfl⟩ := Int.eq_ofNat_of_zero_le (show 0 ≤ i by omega)
  have hjn : j < n := by omega
  have hok := chk_ok hc
  have hl := H.out.len
  have hn16 : n ≤ 16 := by have := hok.most; omega
  have he : ofErr n [(j : Int)] 1 = 0 := by
    rw [ofErr, if_neg (by simp [ofErr])]
    have e : ([(j : Int)] : List Int).getD 0 0 = j := rfl
    rw [e, if_neg (by omega), if_neg (by simp)]
  have hall : ∀ q, q < n → szAt ss q = szAt ss 0 := fun q hq => hok.all q (by omega)
  obtain ⟨m, hm⟩ : ∃ m, m = szAt ss 0 := ⟨_, rfl⟩
  have hm8 : m ≤ 8 := by rw [hm]; exact hok.eight
  rw [← hm] at hall
  obtain ⟨sj, hsj⟩ : ∃ s, s = ss.getD j ByteArray.empty := ⟨_, rfl⟩
  have HS := Lib.hid hsj
  have HM := Lib.hid hm
  have HA := Lib.hid hall
  have HE := Lib.hid he
  have HC := Lib.hid hc
  clear hr he hok hl hall hm hsj hc
  refine (sum_ok_eq sj a n cap ss _ 1 1 [(j : Int)] _ hat hatI HC.out (by omega) HE.out (by rw [← HM.out, sum_one ss m j (HA.out j hjn), HS.out]; rfl)).mono ?_
  rintro e w2 ⟨rfl, hb3⟩
  have hb4 := Lat.trans hb2 hb3
  have hat2 := H.out.keep hb4
  clear hat hatI hb1 hb2 hb3
  obtain ⟨b1, o1, rfl, hc1⟩ := hat2.row.at_ (by omega)
  have c1 := hc1 j hjn
  rw [← HS.out] at c1
  clear hc1
  have d1 : decide ((j : Int) < 0) = false := decide_eq_false (by omega)
  have d2 : decide (n ≤ j) = false := decide_eq_false (by omega)
  have HT := Lib.hid hat2
  clear hat2
  go_wp2
  go_loopw [9, 10, 11] (fun v9 v10 v11 wr => ∃ q : Nat, q ≤ n ∧ v11 = .int .i64 q ∧ Hid (OwnInts wr w.heap.size v9 (allN q) ∧ OwnInts wr w.heap.size v10 (fewN j q) ∧ Apart v9 v10 ∧ Lat w wr)) (fun _ _ i _ => n - (intOf i).toNat)
  case atStart => exact ⟨0, Nat.zero_le _, rfl, Own.nil _ _ _, Own.nil _ _ _, Apart.nil _, hb4⟩
  case round =>
    obtain ⟨q, hq, rfl, hrel⟩ := hrel
    by_cases hlt : q < n
    · have hl1 : (allN q).length < 1000000000000 := by rw [allN_length]; omega
      have hl2 : (fewN j q).length < 1000000000000 := by rw [fewN_length]; split <;> omega
      by_cases hqj : q = j
      · subst hqj
        have dt : ((q : Int) != (q : Int)) = false := by simp
        go_wp2_with (at_builtin; refine app_int wr w _ rfl _ _ rfl _ _ _ rfl hrel.out.1 rfl hl1 rfl hrel.out.2.2.2 ?_; intro v' w3 hown' hb' hst)
        go_roundw
        case rel =>
          have ho := hst.other hrel.out.2.1 hrel.out.2.2.1
          refine ⟨q + 1, by omega, by go_num, by rw [allN_succ]; exact hown', ?_, ho.2, hb'⟩
          unfold fewN; rw [if_pos rfl]; exact ho.1
        case measure => simp [intOf]; omega
      · have dt : ((q : Int) != (j : Int)) = true := by rw [bne_iff_ne]; omega
        go_wp2_with (first | (at_builtin; refine app_int wr w _ rfl (.tmp 63) (.tmp 65) rfl _ _ _ rfl hrel.out.1 rfl hl1 rfl hrel.out.2.2.2 ?_; intro v' w3 hown' hb' hst; have ho := hst.other hrel.out.2.1 hrel.out.2.2.1) | (at_builtin; refine app_int w3 w _ rfl (.tmp 70) (.tmp 72) rfl _ _ _ rfl ho.1 rfl hl2 rfl hb' ?_; intro v2 w4 hown2 hb2 hst2; have ho2 := hst2.other hown' ho.2.symm))
        go_roundw
        case rel =>
          refine ⟨q + 1, by omega, by go_num, by rw [allN_succ]; exact ho2.1, ?_, ho2.2.symm, hb2⟩
          unfold fewN; rw [if_neg hqj]; exact hown2
        case measure => simp [intOf]; omega
    · obtain rfl : q = n := by omega
      have hwf : ∀ z : Int, 0 ≤ z ∧ z < q → -9223372036854775808 ≤ z ∧ z ≤ 9223372036854775807 := fun z hz => by omega
      obtain ⟨aa, ca, rfl, hatA⟩ := OwnInts.slice hrel.out.1 (fun z hz => hwf z (allN_lt q z hz))
      obtain ⟨af, cf, rfl, hatF⟩ := OwnInts.slice hrel.out.2.1 (fun z hz => hwf z (fewN_lt j q z hz))
      have hb5 := hrel.out.2.2.2
      have hatS := H.out.keep hb5
      have lA := allN_length q
      have lF := fewN_length j q
      rw [if_pos hjn] at lF
      have FA := ofErr_all q q (Nat.le_refl _)
      have FF := ofErr_few q j q (Nat.le_refl _)
      have hcan := sum_cancel ss m j q hjn HA.out
      have hlA := sumTo_length ss m (allN q) (allN q).length (fun i hi => HA.out _ (by have := allN_lt q _ (getD_mem _ i hi); omega))
      have hlF := sumTo_length ss m (fewN j q) (fewN j q).length (fun i hi => HA.out _ (by have := fewN_lt j q _ (getD_mem _ i hi); omega))
      have HX := Lib.hid (And.intro FA (And.intro FF (And.intro hcan (And.intro hlA hlF))))
      obtain ⟨kA, hkA⟩ : ∃ k, k = (allN q).length := ⟨_, rfl⟩
      obtain ⟨kF, hkF⟩ : ∃ k, k = (fewN j q).length := ⟨_, rfl⟩
      rw [← hkA] at hatA lA HX ⊢
      rw [← hkF] at hatF lF HX ⊢
      have SA := Lib.hid hatA
      have SF := Lib.hid hatF
      have SS := Lib.hid hatS
      clear hatA hatF hatS FA FF hcan hlA hlF hrel hwf hkA hkF
      have eA : kA ≠ 0 := by omega
      by_cases hF0 : kF = 0
      · have d3 : ((kF : Int) == 0) = true := by simp; omega
        clear lA lF
        go_wp2
        go_ret
        exact ⟨rfl, hb5⟩
      · have d3 : ((kF : Int) == 0) = false := by simp; omega
        clear lA lF
        go_wp2_with fail
        refine (sum_ok _ q cap ss _ kA ca (allN q) _ SS.out SA.out HC.out eA HX.out.1).mono ?_
        rintro e w6 ⟨rfl, hb6⟩
        go_wp2_with fail
        refine (sum_ok _ q cap ss _ kF cf (fewN j q) _ (SS.out.keep hb6) (SF.out.keep hb6) HC.out hF0 HX.out.2.1).mono ?_
        rintro e w7 ⟨rfl, hb7⟩
        rw [← HM.out]
        go_wp2_with fail
        refine (xor_eq sj _ _ _ (by rw [HX.out.2.2.2.1]; omega) (by rw [HX.out.2.2.2.1, HX.out.2.2.2.2]) (by rw [HX.out.2.2.1, HS.out]; rfl)).mono ?_
        rintro e w8 ⟨rfl, hb8⟩
        have hb58 := Lat.trans (Lat.trans (Lat.trans hb5 hb6) hb7) hb8
        have hatS8 := H.out.keep hb58
        obtain ⟨b2, o2, hbb, hc2⟩ := hatS8.row.at_ (by omega)
        injection hbb with hbb
        injection hbb with hbb1 hbb2 _
        subst hbb1
        subst hbb2
        have c2 := hc2 j hjn
        rw [← HS.out] at c2
        clear hc2 hatS8 c1
        go_wp2
        go_ret
        exact ⟨rfl, hb58⟩
end Go.Proofs.Ytllnipmkoibagaa
