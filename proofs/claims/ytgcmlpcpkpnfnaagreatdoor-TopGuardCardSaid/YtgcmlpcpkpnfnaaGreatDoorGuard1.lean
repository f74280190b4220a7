/- The contracts of guard.groups, guard.data and guard.over. -/
import Derived.Test.YtgcmlpcpkpnfnaaGreatDoorMix
import Derived.Test.YtgcmlpcpkpnfnaaGreatDoorGuardPlain
namespace Go.Proofs.YtgcmlpcpkpnfnaaGreatDoor
open Go.ChangeShapes Go.WideShapes Go.ChangeAt Go.RowKit

set_option maxRecDepth 100000 in
theorem groups_any (n e : Nat) (w : World) (hn2 : n ≤ 1000) (he : 1 ≤ e) (he2 : e ≤ 16) :
    Calls Tryz.prog 24 #[.int .i64 n, .int .i64 e] w fun x w' => x = .returned (.int .i64 (grps n e)) ∧ w = w' := by
  have h0 : ((e : Int) == 0) = false := by simp; omega
  have hq : ((n : Int) + (e : Int) - 1) / (e : Int) = ((grps n e : Nat) : Int) := by
    unfold grps
    rw [Int.natCast_ediv, show ((n + e - 1 : Nat) : Int) = (n : Int) + (e : Int) - 1 from by omega]
  have HQ := Lib.hid hq
  clear hq
  go_enter Tryz.func24, Tryz.ntmps24
  go_wp2
  go_ret
  exact ⟨by show Ending.returned (.int .i64 (((n : Int) + (e : Int) - 1) / (e : Int))) = _; rw [HQ.out], rfl⟩

set_option maxRecDepth 100000 in
theorem data_any (all e : Nat) (w : World) (hn : 1 ≤ all) (hn2 : all ≤ 1000) (he : 1 ≤ e) (he2 : e ≤ 16) :
    Calls Tryz.prog 42 #[.int .i64 all, .int .i64 e] w fun x w' => x = .returned (.int .i64 (dat all e)) ∧ w = w' := by
  go_enter Tryz.func42, Tryz.ntmps42
  go_wp2
  go_loop [5] (fun i => ∃ k : Nat, 1 ≤ k ∧ k ≤ all ∧ i = .int .i64 k ∧ Hid (datF all e (all + 1 - k) k = dat all e)) (fun i => all - (intOf i).toNat)
  case atStart => exact ⟨1, Nat.le_refl _, hn, rfl, rfl⟩
  case round =>
    obtain ⟨k, hk1, hk, rfl, hrel⟩ := hrel
    by_cases hlt : k < all
    · have hst : dat all e = if k + grps k e = all then k else datF all e (all + 1 - (k + 1)) (k + 1) := by
        rw [← hrel.out, show all + 1 - k = (all - k) + 1 from by omega, datF, if_pos hlt, show all + 1 - (k + 1) = all - k from by omega]
      have hgm := (grps_mul k e he).2
      have hgk : grps k e ≤ grps k e * e := Nat.le_mul_of_pos_right _ he
      obtain ⟨g, hg⟩ : ∃ g, g = grps k e := ⟨_, rfl⟩
      have hc := fun W => groups_any k e W (by omega) he he2
      rw [← hg] at hst hgm hgk hc
      have hgb : g ≤ 2000 := by omega
      have HST := Lib.hid hst; have HC := Lib.hid hc
      clear hst hgm hgk hg hc
      have d0 : (k : Int) < (all : Int) := by omega
      by_cases heq : k + g = all
      · have d1 : ((k : Int) + (g : Int) == (all : Int)) = true := by rw [beq_iff_eq]; omega
        go_wp2_with (go_at_call 24; refine (HC.out _).mono ?_; rintro e w1 ⟨rfl, rfl⟩)
        go_ret
        exact ⟨by rw [HST.out, if_pos heq]; rfl, rfl⟩
      · have d1 : ((k : Int) + (g : Int) == (all : Int)) = false := by rw [beq_eq_false_iff_ne]; omega
        go_wp2_with (go_at_call 24; refine (HC.out _).mono ?_; rintro e w1 ⟨rfl, rfl⟩)
        go_round
        case rel => exact ⟨k + 1, by omega, by omega, by go_num, by rw [HST.out, if_neg heq]; exact Lib.hid rfl⟩
        case measure => simp [intOf]; omega
    · obtain rfl : k = all := by omega
      have hfin : dat k e = 0 := by
        rw [← hrel.out, show k + 1 - k = 1 from by omega, datF, if_neg (by omega)]
      have HF := Lib.hid hfin
      clear hfin
      go_wp2
      go_ret
      exact ⟨by rw [HF.out]; rfl, rfl⟩

/-- the first k of some blocks over one another -/
def ovB (m : Nat) (ss : List ByteArray) : Nat → List UInt8
  | 0 => noughts m
  | k + 1 => xorL (ovB m ss k) (bl ss k)
def bts (ss : List ByteArray) : List (List UInt8) := ss.map fun s => s.data.toList
theorem bts_length (ss : List ByteArray) : (bts ss).length = ss.length := by simp [bts]
theorem bts_len {ss : List ByteArray} {m : Nat} (h : ∀ s ∈ ss, s.size = m) : ∀ b ∈ bts ss, b.length = m := fun b hb => by
  obtain ⟨s, hs, rfl⟩ := List.mem_map.1 hb
  rw [← h s hs]; exact Array.length_toList
theorem ovB_take (m : Nat) (ss : List ByteArray) (h : ∀ s ∈ ss, s.size = m) : ∀ k, k ≤ ss.length → ovB m ss k = ovl m ((bts ss).take k)
  | 0, _ => rfl
  | k + 1, hk => by
    have ih := ovB_take m ss h k (by omega)
    have hlt : k < (bts ss).length := by rw [bts_length]; omega
    have hbk : (bts ss)[k] = bl ss k := by
      have h3 : ss[k]? = some ss[k] := List.getElem?_eq_getElem (by omega)
      have e1 : (bts ss)[k]? = some (bl ss k) := by
        unfold bts bl
        rw [List.getElem?_map, List.getD_eq_getElem?_getD, h3]; rfl
      rw [List.getElem?_eq_getElem hlt] at e1
      exact Option.some.inj e1
    have hl : (bl ss k).length = m := by rw [← hbk]; exact bts_len h _ (List.getElem_mem _)
    rw [ovB, ih, List.take_succ_eq_append_getElem hlt, ovl_append m (fun b hb => by rw [List.mem_singleton.1 hb, hbk]; exact hl), hbk]
    show _ = xorL _ (xorL (bl ss k) (noughts m))
    rw [← hl, xorL_noughts]
theorem ovB_all (m : Nat) (ss : List ByteArray) (h : ∀ s ∈ ss, s.size = m) : ovB m ss ss.length = ovl m (bts ss) := by
  rw [ovB_take m ss h _ (Nat.le_refl _), List.take_of_length_le (by rw [bts_length]; exact Nat.le_refl _)]
theorem ovB_len (m : Nat) (ss : List ByteArray) (h : ∀ s ∈ ss, s.size = m) (k : Nat) (hk : k ≤ ss.length) : (ovB m ss k).length = m := by
  rw [ovB_take m ss h k hk]; exact ovl_len m fun b hb => bts_len h b (List.mem_of_mem_take hb)

set_option maxHeartbeats 400000 in
set_option maxRecDepth 100000 in
theorem over_row (a : Option Addr) (n cap : Nat) (ss : List ByteArray) (m : Nat) (w : World) (h : StrsAt w a n cap ss) (hn : 1 ≤ n) (hm : m ≤ 8) (hs : ∀ s ∈ ss, s.size = m) :
    Calls Tryz.prog 27 #[.slice a n cap] w fun e w' => e = .returned (.string (S (ovl m (bts ss)))) ∧ Lat w w' := by
  have hl := h.len
  have hle := h.row.le
  have hcm := h.row.cap
  unfold maxLen at hcm
  have hall := ovB_all m ss hs
  rw [hl] at hall
  obtain ⟨bb, o, rfl, hc⟩ := h.row.at_ (by omega)
  have c0 : w.cell? ⟨bb, o, none⟩ = some (.string (ss.getD 0 ByteArray.empty)) := hc 0 (by omega)
  have hgm : ∀ k, k < n → (ss.getD k ByteArray.empty).size = m := fun k hk => by
    have hk2 : k < ss.length := by omega
    rw [List.getD_eq_getElem?_getD, List.getElem?_eq_getElem hk2]; exact hs _ (List.getElem_mem hk2)
  have hbl := fun k hk => ovB_len m ss hs k hk
  rw [hl] at hbl
  obtain ⟨s0, hs0⟩ : ∃ s, s = ss.getD 0 ByteArray.empty := ⟨_, rfl⟩
  have hz0 : s0.size = m := by rw [hs0]; exact hgm 0 (by omega)
  rw [← hs0] at c0
  have H1 := Lib.hid h; have HM := Lib.hid hgm; have HA := Lib.hid hall; have HB := Lib.hid hbl; have HZ := Lib.hid hz0
  clear hc hs0 hs h hl hgm hall hbl hz0
  have dp : (0 : Int) < (n : Int) := by omega
  go_enter Tryz.func27, Tryz.ntmps27
  go_wp2_with (go_at_call 56; refine (noughts_any s0.size _ (by rw [HZ.out]; omega)).mono ?_; rintro e w1 ⟨rfl, hb1⟩)
  rw [HZ.out]
  go_loopw [3, 13] (fun s i wr => ∃ j : Nat, j ≤ n ∧ i = .int .i64 j ∧ s = .string (S (ovB m ss j)) ∧ Hid (Lat w wr)) (fun _ i _ => n - (intOf i).toNat)
  case atStart => exact ⟨0, Nat.zero_le _, rfl, rfl, hb1⟩
  case round =>
    obtain ⟨j, hj, rfl, rfl, hrel⟩ := hrel
    by_cases hlt : j < n
    · have hat1 := H1.out.keep hrel.out
      obtain ⟨b1, o1, ha1, hc1⟩ := hat1.row.at_ (by omega)
      injection ha1 with ha1
      injection ha1 with ha1 ha2 _
      subst ha1
      subst ha2
      have c1 := hc1 j hlt
      have hbz := HM.out j hlt
      obtain ⟨sz, hsz⟩ : ∃ s, s = ss.getD j ByteArray.empty := ⟨_, rfl⟩
      have hstep : ovB m ss (j + 1) = xorL (ovB m ss j) sz.data.toList := by rw [hsz]; rfl
      rw [← hsz] at c1 hbz
      have hab : (ovB m ss j).length = sz.size := by rw [HB.out j (by omega), hbz]
      have hs8 : sz.size ≤ 8 := by omega
      have HAB := Lib.hid hab
      have HST := Lib.hid hstep
      clear hc1 hat1 hbz hsz hab hstep
      go_wp2_with (go_at_call 57; refine (overS (ovB m ss j) sz _ HAB.out ?hm).mono ?_; rotate_right; rintro e w2 ⟨rfl, hb2⟩)
      case hm => rw [HAB.out]; unfold maxLen; omega
      go_roundw
      case rel => exact ⟨j + 1, by omega, by go_num, by rw [HST.out], Lat.trans hrel.out hb2⟩
      case measure => simp [intOf]; omega
    · obtain rfl : j = n := by omega
      go_wp2
      go_ret
      exact ⟨by rw [← HA.out]; rfl, hrel.out⟩
end Go.Proofs.YtgcmlpcpkpnfnaaGreatDoor
