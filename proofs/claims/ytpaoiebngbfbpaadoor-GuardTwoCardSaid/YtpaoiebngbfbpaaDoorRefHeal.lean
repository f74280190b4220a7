/- The contract of dropref1.Heal where the number of blocks may be. -/
import Derived.Test.YtpaoiebngbfbpaaDoorGuardPl4
import Derived.Test.YtpaoiebngbfbpaaDoorRefGroups
import Derived.Deep.CutRange
import Derived.Deep.CutBlock
namespace Go.Proofs.YtpaoiebngbfbpaaDoor
open Go.ChangeShapes Go.WideShapes Go.ChangeAt Go.RowKit

/-- the slice behind the document's healing -/
def HealOut (w' : World) (v : Value) (E : Nat) (L : List ByteArray) : Prop := ∃ a k cap, v = .slice a k cap ∧ (E = 0 → StrsAt w' a k cap L) ∧ (E ≠ 0 → v = .slice none 0 0)

theorem StrsAt.take {w : World} {a : Option Addr} {n cap : Nat} {zs : List ByteArray} (h : StrsAt w a n cap zs) (k : Nat) (hk : k ≤ n) : StrsAt w a k cap (zs.take k) := by
  have hl := h.len
  have hle := h.row.le
  refine ⟨by rw [List.length_take]; omega, ⟨by omega, h.row.cap, fun hk0 => ?_⟩, fun s hs => h.sz s (List.mem_of_mem_take hs)⟩
  obtain ⟨b, o, ha, hc⟩ := h.row.at_ (by omega)
  refine ⟨b, o, ha, fun j hj => ?_⟩
  rw [hc j (by omega), List.getD_eq_getElem?_getD, List.getD_eq_getElem?_getD, List.getElem?_take_of_lt hj]

set_option maxHeartbeats 4000000 in
set_option maxRecDepth 100000 in
theorem refHeal_go (a : Option Addr) (N cap : Nat) (xs : List ByteArray) (a2 : Option Addr) (c2 : Nat) (lk : List Bool) (e : Nat) (w : World) (h : StrsAt w a N cap xs) (hb : BoolsAt w a2 N c2 lk) (hok : chk xs = 0) (he : 1 ≤ e) (he2 : e ≤ 16) (hd : dat N e ≠ 0) :
    Calls Tryd.prog 11 #[.slice a N cap, .slice a2 N c2, .int .i64 e] w fun x w' => (∃ v, x = .returned (.tuple #[v, .int .i64 (hgE xs lk (szAt xs 0) (dat N e) e (grps (dat N e) e) 0)]) ∧
      HealOut w' v (hgE xs lk (szAt xs 0) (dat N e) e (grps (dat N e) e) 0) (hgS xs lk (szAt xs 0) (dat N e) e (grps (dat N e) e))) ∧ Lat w w' := by
  have hck := chk_ok hok
  have hl := h.len
  have hl2 := hb.len
  have hNc := h.row.le
  have hNc2 := hb.row.le
  have hcm := h.row.cap
  have hcm2 := hb.row.cap
  unfold maxLen at hcm hcm2
  have hN16 : N ≤ 16 := by have := hck.most; omega
  have hN1 : 1 ≤ N := by have := hck.pos; omega
  obtain ⟨b, off, rfl, -⟩ := h.row.at_ (by omega)
  obtain ⟨b2, off2, rfl, -⟩ := hb.row.at_ (by omega)
  have hcx : ∀ j, j < N → w.cell? ⟨b, off + j, none⟩ = some (.string (xs.getD j ByteArray.empty)) := fun j hj => by
    obtain ⟨b', o', ha, hc⟩ := h.row.at_ (by omega)
    injection ha with ha
    injection ha with ha1 ha2 _
    subst ha1
    subst ha2
    exact hc j hj
  have hcl : ∀ j, j < N → w.cell? ⟨b2, off2 + j, none⟩ = some (.bool (lk.getD j false)) := fun j hj => by
    obtain ⟨b', o', ha, hc⟩ := hb.row.at_ (by omega)
    injection ha with ha
    injection ha with ha1 ha2 _
    subst ha1
    subst ha2
    exact hc j hj
  have hc0 : w.cell? ⟨b, off, none⟩ = some (.string (xs.getD 0 ByteArray.empty)) := hcx 0 (by omega)
  obtain ⟨s0, hs0⟩ : ∃ s, s = xs.getD 0 ByteArray.empty := ⟨_, rfl⟩
  rw [← hs0] at hc0
  have hds := dat_spec N e hd
  obtain ⟨n, hn⟩ : ∃ n, n = dat N e := ⟨_, rfl⟩
  rw [← hn] at hd hds ⊢
  obtain ⟨G, hG⟩ : ∃ G, G = grps n e := ⟨_, rfl⟩
  have hGl := fun g => grps_lt n e g he
  rw [← hG] at hds hGl ⊢
  have hns : n + G = N := hds.1
  have hm8 := hck.eight
  obtain ⟨m, hm⟩ : ∃ m, m = szAt xs 0 := ⟨_, rfl⟩
  have hsz := add_sizes hck
  rw [← hm] at hm8 hsz ⊢
  have hz0 : s0.size = m := by rw [hm, hs0]; rfl
  have H1 := Lib.hid h; have H2 := Lib.hid hb; have HK := Lib.hid hok; have HGL := Lib.hid hGl; have HSZ := Lib.hid hsz; have HN := Lib.hid hns; have HCX := Lib.hid hcx; have HCL := Lib.hid hcl; have HC0 := Lib.hid hc0; have HZ0 := Lib.hid hz0
  have HLL := Lib.hid hl; have HLL2 := Lib.hid hl2; have HDN := Lib.hid hn; have HGG := Lib.hid hG
  clear h hb hok hck hl hl2 hGl hsz hm hds hn hG hns hcx hcl hc0 hs0 hz0
  obtain ⟨Z, hZ⟩ : ∃ Z, Z = hgE xs lk m n e G 0 := ⟨_, rfl⟩
  rw [← hZ]
  have HZ := Lib.hid hZ
  clear hZ
  have dNN : ((N : Int) != (N : Int)) = false := by simp
  have de1 : decide ((e : Int) < 1) = false := decide_eq_false (by omega)
  have de2 : decide ((16 : Int) < (e : Int)) = false := decide_eq_false (by omega)
  have hchk0 : (((0 : Nat) : Int) != 0) = false := rfl
  go_enter Tryd.func11, Tryd.ntmps11
  go_wp2_with (go_at_call 5; refine (refBlocks _ N cap xs _ H1.out).mono ?_; rw [HK.out]; rintro x w1 ⟨rfl, hb1⟩)
  have HB1 := Lib.hid hb1
  clear hb1
  go_loop [9] (fun v => ∃ k : Nat, 1 ≤ k ∧ k ≤ N ∧ v = .int .i64 k ∧ Hid (datF N e (N + 1 - k) k = n)) (fun v => 20 - (intOf v).toNat)
  case atStart => exact ⟨1, Nat.le_refl _, hN1, rfl, by show _ = _; rw [HDN.out]; rfl⟩
  case round =>
    obtain ⟨k, hk1, hk, rfl, hrel⟩ := hrel
    by_cases hlt : k < N
    · have hst : n = if k + grps k e = N then k else datF N e (N + 1 - (k + 1)) (k + 1) := by
        rw [← hrel.out, show N + 1 - k = (N - k) + 1 from by omega, datF, if_pos hlt, show N + 1 - (k + 1) = N - k from by omega]
      have hgm := (grps_mul k e he).2
      have hgk : grps k e ≤ grps k e * e := Nat.le_mul_of_pos_right _ he
      obtain ⟨g, hg⟩ : ∃ g, g = grps k e := ⟨_, rfl⟩
      have hc := fun W => refGroups k e W (by omega) he he2
      rw [← hg] at hst hgm hgk hc
      have hgb : g ≤ 2000 := by omega
      have HST := Lib.hid hst; have HC := Lib.hid hc
      clear hst hgm hgk hg hc hrel
      have d0 : decide (k < N) = true := decide_eq_true hlt
      by_cases heq : k + g = N
      · have hkn : n = k := by rw [HST.out, if_pos heq]
        subst hkn
        have d1 : ((n : Int) + (g : Int) != (N : Int)) = false := by rw [bne_eq_false_iff_eq]; omega
        clear heq HST
        have HTK := Lib.hid ((H1.out.keep HB1.out).take n (by omega))
        have HTL : Hid (((xs.take n).map Value.string).length = n) := by show _ = _; rw [List.length_map]; exact HTK.out.len
        have hncap : n ≤ cap := by omega
        go_wp2_with (first
          | (go_at_call 6; refine (HC.out _).mono ?_; rintro y w2 ⟨rfl, rfl⟩)
          | (at_builtin; refine wpList_appM _ w w.heap.size rfl (.tmp 54) (.tmp 57) 22 rfl 9 (.string .empty) 16 Tryd.underlying22 info_string rfl (by decide) (.slice none 0 0) [] rfl (Own.nil _ _ _) (some ⟨b, off, none⟩) n cap ((xs.take n).map Value.string) rfl HTL.out (RowAt.ofStrs HTK.out) (fun u hu => by obtain ⟨s, _, rfl⟩ := List.mem_map.1 hu; rfl) (by simp; omega) rfl HB1.out ?_; intro v' w' hown' hb' _))
        rw [List.nil_append] at hown'
        obtain ⟨ao, co, rfl⟩ := own_len hown' HTL.out
        have htl2 : (xs.take n).length = n := HTK.out.len
        obtain ⟨bk, rfl, hBk, -, hkc, hkm, hblk⟩ := blk_strs hown' (by rw [htl2]; omega)
        rw [htl2] at hblk
        rw [← outG_zero xs lk m n e] at hblk
        have HBLK := Lib.hid hblk; have HB2 := Lib.hid hb'; have HBK := Lib.hid hBk
        clear hown' hb' hblk htl2 hBk HTK HTL
        go_wp2
        go_loopg [11, 12, 13, 14, 15, 16, 17] (G + 1) (fun f v _ _ _ _ _ _ wr => ∃ g : Nat, g ≤ G ∧ v = .int .i64 g ∧ Hid (f + g = G + 1 ∧ hgE xs lk m n e (G - g) g = Z ∧ Blk wr bk n (fun j => .string ((outG xs lk m n e g).getD j ByteArray.empty)) ∧ Lat w wr))
        case atStart => exact ⟨0, Nat.zero_le _, rfl, rfl, HZ.out.symm, HBLK.out, HB2.out⟩
        case round =>
          obtain ⟨g, hg, rfl, hrel⟩ := hrel
          by_cases hlt : g < G
          · obtain ⟨hf, hz, hblk, hlat⟩ := hrel.out
            have hge : g * e < n := (HGL.out g).1 hlt
            obtain ⟨q, hq⟩ : ∃ q, q = g * e := ⟨_, rfl⟩
            rw [← hq] at hge
            obtain ⟨t, ht⟩ : ∃ t, t = min e (n - q) := ⟨_, rfl⟩
            have ht1 : 1 ≤ t := by omega
            have ht16 : t ≤ 16 := by omega
            have hq16 : q ≤ 16 := by omega
            have hN := HN.out
            have hng : n + g < N := by omega
            have hmul : (g : Int) * (e : Int) = (q : Int) := by rw [hq]; exact (Int.natCast_mul g e).symm
            have hnl : n ≤ xs.length := by rw [HLL.out]; omega
            have hnl2 : n ≤ lk.length := by rw [HLL2.out]; omega
            have hof : ∀ j, j ≤ t → ofN n e g t j < N := fun j hj => by unfold ofN; split <;> omega
            have hgx : ∀ j, j ≤ t → (gsG xs n e g).getD j ByteArray.empty = xs.getD (ofN n e g t j) ByteArray.empty := fun j hj => grp_get ByteArray.empty xs n e g t hnl (by omega) (by rw [← hq]; exact ht) j hj
            have hgk : ∀ j, j ≤ t → (lkG lk n e g).getD j false = lk.getD (ofN n e g t j) false := fun j hj => grp_get false lk n e g t hnl2 (by omega) (by rw [← hq]; exact ht) j hj
            have hgl1 : (grpAt xs n e g).length = t := by rw [grpAt_len xs n e g hnl, ← hq, ht]
            have hgsl : (gsG xs n e g).length = t + 1 := by unfold gsG; rw [List.length_append, hgl1]; rfl
            have hgss : ∀ s ∈ gsG xs n e g, s.size = m := fun s hs => by
              rcases List.mem_append.1 hs with hs | hs
              · exact HSZ.out s (List.mem_of_mem_take (List.mem_of_mem_drop (List.mem_of_mem_take hs)))
              · rw [List.mem_singleton.1 hs]
                refine HSZ.out _ ?_
                rw [List.getD_eq_getElem?_getD, List.getElem?_eq_getElem (by have := HLL.out; omega)]
                exact List.getElem_mem _
            have hsl := fun k (hk : k ≤ t + 1) => sN_len m (gsG xs n e g) (lkG lk n e g) hgss k (by omega)
            have hofL : (List.range t).map (fun i => ((q + i : Nat) : Int)) ++ [(n : Int) + (g : Int)] = (List.range (t + 1)).map (fun j => ((ofN n e g t j : Nat) : Int)) := by
              rw [List.range_succ, List.map_append]
              congr 1
              · refine List.map_congr_left fun j hj => ?_
                have hj2 := List.mem_range.1 hj
                unfold ofN; rw [if_pos hj2, hq]
              · show [_] = [((ofN n e g t t : Nat) : Int)]
                unfold ofN; rw [if_neg (by omega), Int.natCast_add]
            have hZ1 : (if hlE m (gsG xs n e g) (lkG lk n e g) = 0 then hgE xs lk m n e (G - (g + 1)) (g + 1) else hlE m (gsG xs n e g) (lkG lk n e g)) = Z := by
              rw [← hz, show G - g = (G - (g + 1)) + 1 by omega]; rfl
            have hol := outG_len xs lk m n e g hnl
            have hone := hlG_one xs lk m n e g (t + 1) hgsl
            rw [hgl1] at hone
            have hnone := hlG_none xs lk m n e g
            rw [hgsl] at hnone
            have hset := fun i v hi h => outG_set xs lk m n e g i v hnl (by rw [← hq]; exact hge) hi h
            rw [hgl1, ← hq] at hset
            have HF := Lib.hid hf; have HBL := Lib.hid hblk; have HLT := Lib.hid hlat; have HOF := Lib.hid hof; have HGX := Lib.hid hgx; have HGK := Lib.hid hgk; have HGSL := Lib.hid hgsl; have HGSS := Lib.hid hgss; have HSL := Lib.hid hsl; have HOFL := Lib.hid hofL; have HZ1 := Lib.hid hZ1; have HOL := Lib.hid hol
            have HONE := Lib.hid hone; have HNONE := Lib.hid hnone; have HSET := Lib.hid hset; have HQ := Lib.hid hq; have HGL1 := Lib.hid hgl1
            clear hrel hf hz hblk hlat hof hgx hgk hgsl hgss hsl hofL hZ1 hol hone hnone hset hgl1 hN hq
            obtain ⟨wo, hwo⟩ : ∃ wo : World, wo = wr := ⟨_, rfl⟩
            subst hwo
            go_upto_block 4 with fail
            go_cut [12, 13] from 59 to 149 (fun of _ wx => Hid (OwnInts wx wo.heap.size of ((List.range t).map (fun i => ((q + i : Nat) : Int))) ∧ Lat wo wx))
            case first =>
              go_wp2
              go_loopw [12, 13] (fun of j wx => ∃ k : Nat, k ≤ t ∧ j = .int .i64 ((q + k : Nat) : Int) ∧ Hid (OwnInts wx wo.heap.size of ((List.range k).map (fun i => ((q + i : Nat) : Int))) ∧ Lat wo wx)) (fun _ j _ => 100 - (intOf j).toNat)
              case atStart => exact ⟨0, Nat.zero_le _, rfl, Own.nil _ _ _, Lat.refl _⟩
              case round =>
                obtain ⟨k, hk, rfl, hrel⟩ := hrel
                obtain ⟨qk, hqk⟩ : ∃ x, x = q + k := ⟨_, rfl⟩
                rw [← hqk]
                by_cases hkt : k < t
                · have d0 : (qk : Int) < (q : Int) + (e : Int) := by omega
                  have d1 : decide ((qk : Int) < (q : Int) + (e : Int)) = true := decide_eq_true d0
                  have d2 : qk < n := by omega
                  have d3 : decide (qk < n) = true := decide_eq_true d2
                  have HOW := Lib.hid hrel.out.1; have HLT3 := Lib.hid hrel.out.2; have HQK := Lib.hid hqk
                  have HLN : Hid (((List.range k).map (fun i => ((q + i : Nat) : Int))).length < 1000000000000) := by show _ < _; rw [List.length_map, List.length_range]; omega
                  clear hrel hqk
                  go_wp2_with (at_builtin; refine app_int wr wo wo.heap.size rfl (.tmp 83) (.tmp 85) rfl u12 _ (qk : Int) rfl HOW.out rfl HLN.out rfl HLT3.out ?_; intro v' w' hown' hb' _)
                  have hown2 : OwnInts w' wo.heap.size v' ((List.range (k + 1)).map (fun i => ((q + i : Nat) : Int))) := by
                    rw [List.range_succ, List.map_append]
                    show OwnInts _ _ _ (_ ++ [((q + k : Nat) : Int)])
                    rw [← HQK.out]; exact hown'
                  have HOWN := Lib.hid hown2; have HB3 := Lib.hid hb'
                  clear hown' hb' hown2
                  go_wp2
                  go_roundw
                  case rel => exact ⟨k + 1, by omega, by rw [HQK.out]; go_num, HOWN.out, HB3.out⟩
                  case measure => simp [intOf]; omega
                · obtain rfl : k = t := by omega
                  by_cases hqe : qk < q + e
                  · have d1 : decide ((qk : Int) < (q : Int) + (e : Int)) = true := decide_eq_true (by omega)
                    have d3 : decide (qk < n) = false := decide_eq_false (by omega)
                    clear hqk
                    go_wp2
                    go_meet
                    case rel => exact hrel
                  · have d1 : decide ((qk : Int) < (q : Int) + (e : Int)) = false := decide_eq_false (by omega)
                    clear hqk
                    go_wp2
                    go_meet
                    case rel => exact hrel
            case rest =>
            have HOW := Lib.hid hcut.out.1; have HLT3 := Lib.hid hcut.out.2
            have HLN : Hid (((List.range t).map (fun i => ((q + i : Nat) : Int))).length < 1000000000000) := by show _ < _; rw [List.length_map, List.length_range]; omega
            clear hcut
            go_wp2_with (first
              | (at_builtin; refine app_int wc wo wo.heap.size rfl (.tmp 87) (.tmp 91) rfl u12 _ ((n : Int) + (g : Int)) rfl HOW.out rfl HLN.out rfl HLT3.out ?_; intro v' w' hown' hb' _; rw [HOFL.out] at hown'; obtain ⟨a5, c5, rfl, hat5⟩ := OwnInts.sliceN (n := t + 1) hown' (fun z hz => by obtain ⟨j, hj, rfl⟩ := List.mem_map.1 hz; have := HOF.out j (by have := List.mem_range.1 hj; omega); omega) (by simp); have c0 := (Lat.trans HLT.out hb').cell_at HC0.out)
              | (go_at_call 13; refine (zero_any s0.size _ (by rw [HZ0.out]; omega)).mono ?_; rintro y w1 ⟨rfl, hb1⟩))
            rw [HZ0.out]
            have HAT5 := Lib.hid (hat5.keep hb1); have HLT5 := Lib.hid (Lat.trans hb' hb1)
            clear hown' hb' hb1 hat5 c0
            go_loopw [14, 15, 16, 17] (fun s gone many j wx => ∃ k c : Nat, k ≤ t + 1 ∧ c ≤ k ∧ j = .int .i64 k ∧ s = .string (S (sN m (gsG xs n e g) (lkG lk n e g) k)) ∧ gone = .int .i64 (goneT (ofN n e g t) (lkG lk n e g) k) ∧ many = .int .i64 c ∧ Hid (c = cntT (lkG lk n e g) k ∧ Lat w1 wx)) (fun _ _ _ j _ => 100 - (intOf j).toNat)
            case atStart => exact ⟨0, 0, Nat.zero_le _, Nat.zero_le _, rfl, rfl, rfl, rfl, rfl, Lat.refl _⟩
            case round =>
              obtain ⟨k, c, hk, hck, rfl, rfl, rfl, rfl, hrel⟩ := hrel
              by_cases hkt : k < t + 1
              · obtain ⟨hc, hl6⟩ := hrel.out
                have hat6 := HAT5.out.keep hl6
                obtain ⟨b5, o5, rfl, hc5⟩ := hat6.row.at_ (by omega)
                have c5' := hc5 k hkt
                obtain ⟨x, hx⟩ : ∃ x, x = ofN n e g t k := ⟨_, rfl⟩
                have hxN : x < N := by rw [hx]; exact HOF.out k (by omega)
                have hgt : ((List.range (t + 1)).map (fun j => ((ofN n e g t j : Nat) : Int))).getD k 0 = (x : Int) := by
                  rw [List.getD_eq_getElem?_getD, List.getElem?_map, List.getElem?_range hkt, hx]; rfl
                rw [hgt] at c5'
                have hlw : Lat w wr := Lat.trans HLT.out (Lat.trans HLT5.out hl6)
                have c6 := hlw.cell_at (HCL.out x hxN)
                have c7 := hlw.cell_at (HCX.out x hxN)
                rw [hx, ← HGK.out k (by omega), ← hx] at c6
                rw [hx, ← HGX.out k (by omega), ← hx] at c7
                have hcs : cntT (lkG lk n e g) (k + 1) = if (lkG lk n e g).getD k false = true then c + 1 else c := by rw [hc]; rfl
                have hgs := goneT_succ (ofN n e g t) (lkG lk n e g) k
                rw [← hx] at hgs
                have hss : sN m (gsG xs n e g) (lkG lk n e g) (k + 1) = if (lkG lk n e g).getD k false = true then sN m (gsG xs n e g) (lkG lk n e g) k else xorL (sN m (gsG xs n e g) (lkG lk n e g) k) ((gsG xs n e g).getD k ByteArray.empty).data.toList := rfl
                have hzk : ((gsG xs n e g).getD k ByteArray.empty).size = m := szAt_mem HGSS.out k (by rw [HGSL.out]; exact hkt)
                have hsk := HSL.out k hk
                obtain ⟨z, hz⟩ : ∃ z, z = (gsG xs n e g).getD k ByteArray.empty := ⟨_, rfl⟩
                obtain ⟨tb, htb⟩ : ∃ b, b = (lkG lk n e g).getD k false := ⟨_, rfl⟩
                obtain ⟨sk, hskk⟩ : ∃ b, b = sN m (gsG xs n e g) (lkG lk n e g) k := ⟨_, rfl⟩
                obtain ⟨gk2, hgk2⟩ : ∃ b, b = goneT (ofN n e g t) (lkG lk n e g) k := ⟨_, rfl⟩
                rw [← htb] at c6 hcs hgs hss
                rw [← hz] at c7 hss hzk
                rw [← hskk] at hss hsk ⊢
                rw [← hgk2] at hgs ⊢
                have hab : sk.length = z.size := by rw [hsk, hzk]
                have hz8 : z.size ≤ 8 := by omega
                have HAB := Lib.hid hab; have HCS := Lib.hid hcs; have HGS := Lib.hid hgs; have HSS := Lib.hid hss; have HL6 := Lib.hid hl6
                clear hrel hat6 hc5 hgt hlw hcs hgs hss hzk hsk hz htb hskk hgk2 hab hc hl6 hx
                cases tb with
                | true =>
                  go_wp2
                  go_roundw
                  case rel => exact ⟨k + 1, c + 1, by omega, by omega, by go_num, by rw [HSS.out]; rfl, by rw [HGS.out]; rfl, by go_num, by rw [HCS.out]; rfl, HL6.out⟩
                  case measure => simp [intOf]; omega
                | false =>
                  go_wp2_with (go_at_call 14; refine (refXorS sk z _ HAB.out ?hm).mono ?_; rotate_right; rintro y w3 ⟨rfl, hb3⟩)
                  case hm => rw [HAB.out]; omega
                  go_roundw
                  case rel => exact ⟨k + 1, c, by omega, by omega, by go_num, by rw [HSS.out]; rfl, by rw [HGS.out]; rfl, rfl, by rw [HCS.out]; rfl, Lat.trans HL6.out hb3⟩
                  case measure => simp [intOf]; omega
              · obtain rfl : k = t + 1 := by omega
                obtain ⟨hc, hl6⟩ := hrel.out
                have hlw : Lat w wr := Lat.trans HLT.out (Lat.trans HLT5.out hl6)
                have hbw := HBL.out.keep (Lat.trans HLT5.out hl6)
                have c0 := hlw.cell_at HC0.out
                have hE : hlE m (gsG xs n e g) (lkG lk n e g) = if c = 0 then (if ovl m (bts (gsG xs n e g)) = noughts m then 0 else 7) else if c = 1 then 0 else 8 := by unfold hlE; rw [HGSL.out, ← hc]
                have hZ1 := HZ1.out
                have hsn := sN_none m (gsG xs n e g) (lkG lk n e g) HGSS.out
                rw [HGSL.out, ← hc] at hsn
                have hone := HONE.out
                rw [← hc] at hone
                have hnone := HNONE.out
                rw [← hc] at hnone
                have hct := cntT_one (lkG lk n e g) (t + 1)
                rw [← hc] at hct
                have hgn : goneT (ofN n e g t) (lkG lk n e g) (t + 1) = if c = 0 then -1 else (ofN n e g t (lstT (lkG lk n e g) (t + 1)) : Int) := by unfold goneT; rw [← hc]
                rw [hgn]
                obtain ⟨sv, hsv⟩ : ∃ x, x = sN m (gsG xs n e g) (lkG lk n e g) (t + 1) := ⟨_, rfl⟩
                rw [← hsv] at hsn hone ⊢
                obtain ⟨ov, hov⟩ : ∃ x, x = ovl m (bts (gsG xs n e g)) := ⟨_, rfl⟩
                rw [← hov] at hE hsn
                obtain ⟨E, hEE⟩ : ∃ E, E = hlE m (gsG xs n e g) (lkG lk n e g) := ⟨_, rfl⟩
                rw [← hEE] at hE hZ1
                obtain ⟨i, hi⟩ : ∃ i, i = lstT (lkG lk n e g) (t + 1) := ⟨_, rfl⟩
                rw [← hi] at hone hct ⊢
                have HLW := Lib.hid hlw; have HBW := Lib.hid hbw
                clear hrel hc hl6 hlw hbw hgn hsv hov hEE hi
                by_cases h2 : 2 ≤ c
                · have hE8 : E = 8 := by rw [hE, if_neg (by omega), if_neg (by omega)]
                  rw [hE8, if_neg (by omega)] at hZ1
                  subst hZ1
                  have hc1 : c ≠ 0 := by omega
                  rw [if_neg hc1]
                  obtain ⟨gv, hgv⟩ : ∃ x : Int, x = (ofN n e g t i : Int) := ⟨_, rfl⟩
                  rw [← hgv]
                  clear hsn hone hnone hct hE hE8 hgv
                  go_wp2
                  go_ret2
                  exact ⟨⟨_, rfl, none, 0, 0, rfl, (fun h => absurd h (by omega)), fun _ => rfl⟩, HLW.out⟩
                · by_cases h0 : c = 0
                  · subst h0
                    rw [if_pos rfl]
                    rw [if_pos rfl] at hE
                    have hsn := hsn rfl
                    have hnone := hnone (by omega)
                    have hsame := outG_same xs lk m n e g hnone
                    subst hsn
                    by_cases hov : sv = noughts m
                    · subst hov
                      rw [if_pos rfl] at hE
                      subst hE
                      rw [if_pos rfl] at hZ1
                      have hbw2 := HBW.out
                      rw [← hsame] at hbw2
                      have HBW2 := Lib.hid hbw2; have HZ2 := Lib.hid hZ1
                      have dnn : (noughts m == noughts m) = true := beq_self_eq_true _
                      clear hZ1 hone hnone hct hsame hbw2
                      go_wp2_with (go_at_call 13; refine (zero_any s0.size _ (by rw [HZ0.out]; omega)).mono ?_; rw [HZ0.out]; rintro y w2 ⟨rfl, hb2⟩)
                      go_roundg (gk - 1)
                      case measure => go_light; have := HF.out; omega
                      case rel => go_light; exact ⟨g + 1, by omega, by go_num, by have := HF.out; omega, HZ2.out, HBW2.out.keep hb2, Lat.trans HLW.out hb2⟩
                    · rw [if_neg hov] at hE
                      subst hE
                      rw [if_neg (by omega)] at hZ1
                      subst hZ1
                      have dnn : (sv == noughts m) = false := beq_eq_false_iff_ne.2 hov
                      clear hone hnone hct hsame hov
                      go_wp2_with (go_at_call 13; refine (zero_any s0.size _ (by rw [HZ0.out]; omega)).mono ?_; rw [HZ0.out]; rintro y w2 ⟨rfl, hb2⟩)
                      go_ret2
                      exact ⟨⟨_, rfl, none, 0, 0, rfl, (fun h => absurd h (by omega)), fun _ => rfl⟩, Lat.trans HLW.out hb2⟩
                  · obtain rfl : c = 1 := by omega
                    rw [if_neg (by omega), if_pos rfl] at hE
                    subst hE
                    rw [if_pos rfl] at hZ1
                    rw [if_neg (by omega)]
                    have hone := hone rfl HGSS.out
                    have hit := (hct rfl).1
                    by_cases hi : i < t
                    · rw [if_pos hi] at hone
                      have hset := HSET.out i (S sv) hi hone
                      have hofi : ofN n e g t i = q + i := by unfold ofN; rw [if_pos hi, HQ.out]
                      rw [hofi]
                      obtain ⟨qi, hqi⟩ : ∃ x, x = q + i := ⟨_, rfl⟩
                      rw [← hqi] at hset ⊢
                      have hqin : qi < n := by omega
                      have k0 : (0 : Int) ≤ (qi : Int) := by omega
                      have k1 : decide ((0 : Int) ≤ (qi : Int)) = true := decide_eq_true k0
                      have k2 : decide (qi < n) = true := decide_eq_true hqin
                      have k3 : (qi : Int) < (n : Int) := by omega
                      have cl := HBW.out.cell qi hqin
                      have fl := HBW.out.free qi hqin
                      have hput := blk_put HBW.out HOL.out hqin (S sv)
                      rw [← hset] at hput
                      have HPUT := Lib.hid hput; have HZ2 := Lib.hid hZ1
                      have HLB : Hid (Lat w (wr.setCell ⟨bk, qi, none⟩ (.string (S sv)))) := Below.setCell (p := ⟨bk, qi, none⟩) HLW.out HBK.out _
                      clear hZ1 hone hnone hct hset hofi hqi hput hsn
                      go_wp2
                      go_roundg (gk - 1)
                      case measure => go_light; have := HF.out; omega
                      case rel => go_light; exact ⟨g + 1, by omega, by go_num, by have := HF.out; omega, HZ2.out, HPUT.out, HLB.out⟩
                    · rw [if_neg hi] at hone
                      have hsame := outG_same xs lk m n e g hone
                      have hofi : ofN n e g t i = n + g := by unfold ofN; rw [if_neg hi]
                      rw [hofi]
                      obtain ⟨qi, hqi⟩ : ∃ x, x = n + g := ⟨_, rfl⟩
                      rw [← hqi]
                      have k0 : (0 : Int) ≤ (qi : Int) := by omega
                      have k1 : decide ((0 : Int) ≤ (qi : Int)) = true := decide_eq_true k0
                      have k2 : decide (qi < n) = false := decide_eq_false (by omega)
                      have hbw2 := HBW.out
                      rw [← hsame] at hbw2
                      have HBW2 := Lib.hid hbw2; have HZ2 := Lib.hid hZ1
                      clear hZ1 hone hnone hct hofi hqi hsn hsame hbw2
                      go_wp2
                      go_roundg (gk - 1)
                      case measure => go_light; have := HF.out; omega
                      case rel => go_light; exact ⟨g + 1, by omega, by go_num, by have := HF.out; omega, HZ2.out, HBW2.out, HLW.out⟩
          · obtain rfl : g = G := by omega
            obtain ⟨hf, hz, hblk, hlat⟩ := hrel.out
            have hge : ¬ g * e < n := fun h => hlt ((HGL.out g).2 h)
            have hg31 : g * e ≤ 31 := by have := (grps_mul n e he).2; rw [← HGG.out] at this; have := HN.out; omega
            obtain ⟨q, hq⟩ : ∃ q, q = g * e := ⟨_, rfl⟩
            have hmul : (g : Int) * (e : Int) = (q : Int) := by rw [hq]; exact (Int.natCast_mul g e).symm
            rw [← hq] at hge hg31
            have hz0 : Z = 0 := by rw [← hz, Nat.sub_self]; rfl
            have hout := outG_end xs lk m n e g (by omega)
            have hol := outG_len xs lk m n e g (by rw [HLL.out]; have := HN.out; omega)
            rw [hout] at hblk hol
            have hst := strs_blk hblk hol hkc hkm (fun s hs => by have := hgS_le8 xs lk m n e (fun s hs => by rw [HSZ.out s hs]; exact Nat.le_refl _) g s hs; unfold maxLen; omega)
            have HST := Lib.hid hst; have HLT := Lib.hid hlat
            clear hrel hf hz hblk hlat hout hol hst hq
            subst hz0
            go_wp2
            go_ret2
            exact ⟨⟨_, rfl, _, _, _, rfl, (fun _ => HST.out), fun h => absurd rfl h⟩, HLT.out⟩
      · have d1 : ((k : Int) + (g : Int) != (N : Int)) = true := by rw [bne_iff_ne]; omega
        have hne : n = datF N e (N + 1 - (k + 1)) (k + 1) := by rw [HST.out, if_neg heq]
        have HNE := Lib.hid hne
        clear heq hne HST
        go_wp2_with (go_at_call 6; refine (HC.out _).mono ?_; rintro y w2 ⟨rfl, rfl⟩)
        go_round
        case rel => exact ⟨k + 1, by omega, by omega, by go_num, HNE.out.symm⟩
        case measure => simp [intOf]; omega
    · obtain rfl : k = N := by omega
      have hfin : n = 0 := by
        rw [← hrel.out, show k + 1 - k = 1 from by omega, datF, if_neg (by omega)]
      exact absurd hfin hd
end Go.Proofs.YtpaoiebngbfbpaaDoor
