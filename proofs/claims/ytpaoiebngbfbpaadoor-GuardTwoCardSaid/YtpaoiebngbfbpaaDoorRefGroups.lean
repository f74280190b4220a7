/- The contracts of dropref1.Groups and Add. -/
import Derived.Test.YtpaoiebngbfbpaaDoorRefMix
import Derived.Test.YtpaoiebngbfbpaaDoorGuardPl2
import Derived.Deep.LoopGhost
import Derived.Deep.Light
namespace Go.Proofs.YtpaoiebngbfbpaaDoor
open Go.ChangeShapes Go.WideShapes Go.ChangeAt Go.RowKit

theorem refXorS (a : List UInt8) (b : ByteArray) (w : World) (hab : a.length = b.size) (ha : a.length ≤ 1000000) :
    Calls Tryd.prog 14 #[.string (S a), .string b] w fun e w' => e = .returned (.string (S (xorL a b.data.toList))) ∧ Lat w w' :=
  refXor (S a) b w hab ha

theorem grps_eq (n e k : Nat) (he : 1 ≤ e) (h1 : n ≤ k * e) (h2 : ∀ j, j < k → j * e < n) : k = grps n e := by
  have h3 : ¬ k < grps n e := fun h => by have := (grps_lt n e k he).1 h; omega
  have h4 : ¬ grps n e < k := fun h => by
    have := (grps_lt n e (grps n e) he).2 (h2 _ h)
    omega
  omega

set_option maxRecDepth 100000 in
theorem refGroups (n e : Nat) (w : World) (hn : n ≤ 1000) (he : 1 ≤ e) (he2 : e ≤ 16) :
    Calls Tryd.prog 6 #[.int .i64 n, .int .i64 e] w fun x w' => x = .returned (.int .i64 (grps n e)) ∧ w = w' := by
  go_enter Tryd.func6, Tryd.ntmps6
  go_wp2
  go_loop [5, 6] (fun g i => ∃ k q : Nat, k ≤ 1000 ∧ q ≤ 1016 ∧ g = .int .i64 k ∧ i = .int .i64 q ∧ Hid (q = k * e ∧ ∀ j, j < k → j * e < n)) (fun _ i => 1016 - (intOf i).toNat)
  case atStart => exact ⟨0, 0, Nat.zero_le _, Nat.zero_le _, rfl, rfl, (Nat.zero_mul e).symm, fun j hj => absurd hj (Nat.not_lt_zero _)⟩
  case round =>
    obtain ⟨k, q, hk, hq, rfl, rfl, hrel⟩ := hrel
    by_cases hlt : q < n
    · have hk2 : k ≤ q := by rw [hrel.out.1]; exact Nat.le_mul_of_pos_right _ he
      go_wp2
      go_round
      case rel => exact ⟨k + 1, q + e, by omega, by omega, by go_num, by go_num, by rw [hrel.out.1, Nat.succ_mul], fun j hj => by
        by_cases e1 : j < k
        · exact hrel.out.2 j e1
        · obtain rfl : j = k := by omega
          rw [← hrel.out.1]; exact hlt⟩
      case measure => simp [intOf]; omega
    · have hfin := grps_eq n e k he (by rw [← hrel.out.1]; omega) hrel.out.2
      have HF := Lib.hid hfin
      clear hfin
      go_wp2
      go_ret
      exact ⟨by show Ending.returned (.int .i64 (k : Int)) = _; rw [← HF.out], rfl⟩

set_option maxHeartbeats 1000000 in
set_option maxRecDepth 100000 in
theorem refAdd (a : Option Addr) (n cap : Nat) (ss : List ByteArray) (e : Nat) (w : World) (h : StrsAt w a n cap ss) (hok : chk ss = 0) (he : 1 ≤ e) (he2 : e ≤ 16) :
    Calls Tryd.prog 7 #[.slice a n cap, .int .i64 e] w fun x w' => ∃ v, x = .returned v ∧ OwnStrs w' w.heap.size v (addS ss e) ∧ Lat w w' := by
  have hck := chk_ok hok
  have hl := h.len
  have hcm := h.row.cap
  have hle := h.row.le
  unfold maxLen at hcm
  have hn1 : 1 ≤ n := by have := hck.pos; omega
  have hn16 : n ≤ 16 := by have := hck.most; omega
  have hsz := add_sizes hck
  have hm8 := hck.eight
  obtain ⟨m, hm⟩ : ∃ m, m = szAt ss 0 := ⟨_, rfl⟩
  obtain ⟨b, off, rfl, -⟩ := h.row.at_ (by omega)
  have hc0 : w.cell? ⟨b, off, none⟩ = some (.string (ss.getD 0 ByteArray.empty)) := by
    obtain ⟨b', o', ha, hc⟩ := h.row.at_ (by omega)
    injection ha with ha
    injection ha with ha1 ha2 _
    subst ha1
    subst ha2
    exact hc 0 (by omega)
  obtain ⟨s0, hs0⟩ : ∃ s, s = ss.getD 0 ByteArray.empty := ⟨_, rfl⟩
  have hz0 : s0.size = m := by rw [hm, hs0]; rfl
  rw [← hs0] at hc0
  rw [← hm] at hm8 hsz
  have H := Lib.hid h; have HSZ := Lib.hid hsz; have HL := Lib.hid hl; have HC0 := Lib.hid hc0; have HZ := Lib.hid hz0; have HM := Lib.hid hm
  clear h hok hck hl hsz hc0 hz0 hs0 hm
  have hown0 : Own w w.heap.size 9 (.slice none 0 0) [] := Own.nil _ _ _
  go_enter Tryd.func7, Tryd.ntmps7
  go_wp2_with (at_builtin; refine wpList_appM _ w w.heap.size rfl _ _ 22 rfl 9 (.string .empty) 16 Tryd.underlying22 info_string rfl (by decide) _ _ rfl (Own.nil _ _ _) (some ⟨b, off, none⟩) n cap (ss.map Value.string) rfl (by rw [List.length_map]; exact HL.out) (RowAt.ofStrs H.out) (fun u hu => by obtain ⟨s, _, rfl⟩ := List.mem_map.1 hu; rfl) (by simp; omega) rfl (Lat.refl _) ?_; intro v' w' hown' hb' _)
  have HO := Lib.hid hown'; have HB := Lib.hid hb'
  clear hown' hb' hown0
  go_wp2
  go_loopg [5, 6, 7, 8] 100 (fun f out i s j wr => ∃ g q : Nat, q ≤ 32 ∧ g ≤ 16 ∧ i = .int .i64 q ∧ Hid (f + g = 100 ∧ q = g * e ∧ (∀ j, j < g → j * e < n) ∧ OwnStrs wr w.heap.size out (ss ++ (List.range g).map (ovG ss e)) ∧ Lat w wr))
  case atStart => exact ⟨0, 0, Nat.zero_le _, Nat.zero_le _, rfl, rfl, (Nat.zero_mul e).symm, fun j hj => absurd hj (Nat.not_lt_zero _), by simpa [OwnStrs] using HO.out, HB.out⟩
  case round =>
    obtain ⟨g, q, hq32, hg16, rfl, hrel⟩ := hrel
    by_cases hlt : q < n
    · obtain ⟨hf, hq, hbef, hown, hlat⟩ := hrel.out
      have hgq : g ≤ q := by rw [hq]; exact Nat.le_mul_of_pos_right _ he
      have hgs := grp_at H.out hn1 e g (by rw [← hq]; exact hlt)
      rw [← hq] at hgs
      obtain ⟨t, ht⟩ : ∃ t, t = min e (n - q) := ⟨_, rfl⟩
      rw [← ht] at hgs
      have hgl := hgs.len
      have hgz : ∀ s ∈ grpAt ss n e g, s.size = m := fun s hs => HSZ.out s (List.mem_of_mem_take (List.mem_of_mem_drop (List.mem_of_mem_take hs)))
      have hall := ovB_all m _ hgz
      rw [hgl] at hall
      have hov : ovG ss e g = S (ovB m (grpAt ss n e g) t) := by rw [hall]; unfold ovG; rw [HL.out, ← HM.out]
      have hbl := fun k (hk : k ≤ t) => ovB_len m _ hgz k (by omega)
      have hgcell : ∀ k, k < t → wr.cell? ⟨b, off + (q + k), none⟩ = some (.string ((grpAt ss n e g).getD k ByteArray.empty)) ∧ ((grpAt ss n e g).getD k ByteArray.empty).size = m := fun k hk => by
        obtain ⟨b', o', ha, hc⟩ := (hgs.keep hlat).row.at_ (by omega)
        injection ha with ha
        injection ha with ha1 ha2 _
        subst ha1
        subst ha2
        refine ⟨by rw [← Nat.add_assoc]; exact hc k hk, ?_⟩
        rw [List.getD_eq_getElem?_getD, List.getElem?_eq_getElem (by omega)]
        exact hgz _ (List.getElem_mem _)
      have c0 := hlat.cell_at HC0.out
      have HF := Lib.hid hf; have HQ := Lib.hid hq; have HBE := Lib.hid hbef; have HOW := Lib.hid hown; have HLT := Lib.hid hlat; have HGC := Lib.hid hgcell; have HOV := Lib.hid hov; have HBL := Lib.hid hbl; have HGL := Lib.hid hgl
      clear hrel hf hq hbef hown hlat hgs hgz hall hov hbl hgcell hgl
      obtain ⟨wo, hwo⟩ : ∃ wo : World, wo = wr := ⟨_, rfl⟩
      subst hwo
      go_wp2_with (go_at_call 13; refine (zero_any s0.size _ (by rw [HZ.out]; omega)).mono ?_; rintro y w1 ⟨rfl, hb1⟩)
      rw [HZ.out]
      have HB1 := Lib.hid hb1
      clear hb1
      go_loopw [7, 8] (fun s j w2 => ∃ k : Nat, k ≤ t ∧ j = .int .i64 ((q + k : Nat) : Int) ∧ s = .string (S (ovB m (grpAt ss n e g) k)) ∧ Hid (Lat wo w2)) (fun _ j _ => 100 - (intOf j).toNat)
      case atStart => exact ⟨0, Nat.zero_le _, rfl, rfl, HB1.out⟩
      case round =>
        obtain ⟨k, hk, rfl, rfl, hrel⟩ := hrel
        obtain ⟨qk, hqk⟩ : ∃ x, x = q + k := ⟨_, rfl⟩
        rw [← hqk]
        by_cases hkt : k < t
        · have d0 : (qk : Int) < (q : Int) + (e : Int) := by omega
          have d1 : decide ((qk : Int) < (q : Int) + (e : Int)) = true := decide_eq_true d0
          have d2 : qk < n := by omega
          have d3 : decide (qk < n) = true := decide_eq_true d2
          have c1 := hrel.out.cell_at (HGC.out k hkt).1
          have hz1 := (HGC.out k hkt).2
          rw [← hqk] at c1
          obtain ⟨z, hz⟩ : ∃ z, z = (grpAt ss n e g).getD k ByteArray.empty := ⟨_, rfl⟩
          have hstep : ovB m (grpAt ss n e g) (k + 1) = xorL (ovB m (grpAt ss n e g) k) z.data.toList := by rw [hz]; rfl
          rw [← hz] at c1 hz1
          have hab : (ovB m (grpAt ss n e g) k).length = z.size := by rw [HBL.out k hk, hz1]
          have HAB := Lib.hid hab; have HST := Lib.hid hstep; have HQK := Lib.hid hqk
          have hz8 : z.size ≤ 8 := by omega
          clear hab hstep hz hz1 hqk
          go_wp2_with (go_at_call 14; refine (refXorS (ovB m (grpAt ss n e g) k) z _ HAB.out ?hm).mono ?_; rotate_right; rintro y w3 ⟨rfl, hb3⟩)
          case hm => rw [HAB.out]; omega
          go_roundw
          case rel => exact ⟨k + 1, by omega, by rw [HQK.out]; go_num, by rw [HST.out], Lat.trans hrel.out hb3⟩
          case measure => simp [intOf]; omega
        · obtain rfl : k = t := by omega
          have HQK := Lib.hid hqk
          have HNX : Hid (ss ++ (List.range g).map (ovG ss e) ++ [ovG ss e g] = ss ++ (List.range (g + 1)).map (ovG ss e)) := by show _ = _; rw [List.range_succ, List.map_append, List.append_assoc]; rfl
          have HLN : Hid ((ss ++ (List.range g).map (ovG ss e)).length < 1000000000000) := by show _ < _; rw [List.length_append, List.length_map, List.length_range, HL.out]; omega
          have HLT2 := Lib.hid (Lat.trans HLT.out hrel.out)
          have HOW2 := Lib.hid (HOW.out.keep hrel.out)
          rw [← HOV.out]
          obtain ⟨r, hr⟩ : ∃ r, r = ovG ss e g := ⟨_, rfl⟩
          rw [← hr] at HNX ⊢
          clear hr hrel
          by_cases hqe : qk < q + e
          · have d1 : decide ((qk : Int) < (q : Int) + (e : Int)) = true := decide_eq_true (by omega)
            have d3 : decide (qk < n) = false := decide_eq_false (by omega)
            clear hqk
            go_wp2_with (at_builtin; refine wpList_app1 wr w w.heap.size rfl (.tmp 44) (.tmp 46) 22 rfl 9 (.string .empty) 16 Tryd.underlying22 info_string rfl (by decide) u5 _ (.string r) rfl HOW2.out rfl rfl (by rw [List.length_map]; exact HLN.out) rfl HLT2.out ?_; intro v' w' hown' hb' _)
            have hown2 : OwnStrs w' w.heap.size v' (ss ++ (List.range (g + 1)).map (ovG ss e)) := by
              show Own _ _ _ _ _
              rw [← HNX.out, List.map_append]; exact hown'
            have HOWN := Lib.hid hown2; have HB2 := Lib.hid hb'
            clear hown' hb' hown2
            go_wp2
            go_roundg (gk - 1)
            case measure => go_light; have := HF.out; omega
            case rel =>
              go_light
              exact ⟨g + 1, q + e, by omega, by omega, by go_num, by have := HF.out; omega, by rw [HQ.out, Nat.succ_mul], fun j hj => by
                by_cases e1 : j < g
                · exact HBE.out j e1
                · obtain rfl : j = g := by omega
                  rw [← HQ.out]; exact hlt, HOWN.out, HB2.out⟩
          · have d1 : decide ((qk : Int) < (q : Int) + (e : Int)) = false := decide_eq_false (by omega)
            clear hqk
            go_wp2_with (at_builtin; refine wpList_app1 wr w w.heap.size rfl (.tmp 44) (.tmp 46) 22 rfl 9 (.string .empty) 16 Tryd.underlying22 info_string rfl (by decide) u5 _ (.string r) rfl HOW2.out rfl rfl (by rw [List.length_map]; exact HLN.out) rfl HLT2.out ?_; intro v' w' hown' hb' _)
            have hown2 : OwnStrs w' w.heap.size v' (ss ++ (List.range (g + 1)).map (ovG ss e)) := by
              show Own _ _ _ _ _
              rw [← HNX.out, List.map_append]; exact hown'
            have HOWN := Lib.hid hown2; have HB2 := Lib.hid hb'
            clear hown' hb' hown2
            go_wp2
            go_roundg (gk - 1)
            case measure => go_light; have := HF.out; omega
            case rel =>
              go_light
              exact ⟨g + 1, q + e, by omega, by omega, by go_num, by have := HF.out; omega, by rw [HQ.out, Nat.succ_mul], fun j hj => by
                by_cases e1 : j < g
                · exact HBE.out j e1
                · obtain rfl : j = g := by omega
                  rw [← HQ.out]; exact hlt, HOWN.out, HB2.out⟩
    · obtain ⟨hf, hq, hbef, hown, hlat⟩ := hrel.out
      have hfin := grps_eq n e g he (by rw [← hq]; omega) hbef
      have hres : OwnStrs wr w.heap.size u5 (addS ss e) := by unfold addS; rw [HL.out, ← hfin]; exact hown
      have HR := Lib.hid hres; have HLT := Lib.hid hlat
      clear hrel hf hq hbef hown hlat hfin hres
      go_wp2
      go_ret
      exact ⟨_, rfl, HR.out, HLT.out⟩
end Go.Proofs.YtpaoiebngbfbpaaDoor
