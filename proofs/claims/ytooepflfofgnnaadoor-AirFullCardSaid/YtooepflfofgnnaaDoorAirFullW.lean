/- The walk of AirFull: it returns true, whatever is handed in. -/
import Derived.Test.YtooepflfofgnnaaDoorAir3
import Derived.Test.YtooepflfofgnnaaDoorSame
namespace Go.Proofs.YtooepflfofgnnaaDoor
open Go.ChangeShapes Go.WideShapes Go.ChangeAt Go.RowKit

/-- Behind the boxing of the drop that came in; an air beside it. -/
structure AF (w : World) (d : Dr) (p : Nat) (L : List Dr) (wx : World) : Prop where
  lat : Lat w wx
  c0 : wx.cell? ⟨w.heap.size, 0, none⟩ = some (.int .i64 d.s)
  c1 : wx.cell? ⟨w.heap.size, 1, none⟩ = some (.string d.t)
  air : ∃ S, AirO S p L wx ∧ ∀ k, S k → w.heap.size < k
theorem AF.keep {w : World} {d : Dr} {p : Nat} {L : List Dr} {wx wy : World} (h : AF w d p L wx) (hb : Lat wx wy) : AF w d p L wy := by
  obtain ⟨S, ho, hs⟩ := h.air
  exact ⟨h.lat.trans hb, hb.cell_at h.c0, hb.cell_at h.c1, S, ho.keep hb, hs⟩
theorem AF.next {w : World} {d : Dr} {p : Nat} {L L2 : List Dr} {wx wy : World} {S : Nat → Prop} (h : AF w d p L wx) (hs : ∀ k, S k → w.heap.size < k) (hst : AirStep S p L2 wx wy) : AF w d p L2 wy := by
  obtain ⟨S', ho', hs'⟩ := hst.obj
  have hsz := h.lat.size
  have hlt : w.heap.size < wx.heap.size := World.block_lt_of_cell? _ _ h.c0
  refine ⟨hst.lat h.lat (fun k hk => by have := hs k hk; omega), hst.fr.cell_at h.c0 (fun e => Nat.lt_irrefl _ (hs _ e)), hst.fr.cell_at h.c1 (fun e => Nat.lt_irrefl _ (hs _ e)), S', ho', fun k hk => ?_⟩
  rcases hs' k hk with e | e
  · exact hs k e
  · omega
theorem giE_far {L : List Dr} (h : L.length ≤ 1) : giE L 1 = 1 := by
  unfold giE inA; rw [if_neg (by simp; omega)]
theorem rep_wf {d : Dr} (hd : I64 d.s) {m : Nat} : ∀ x ∈ List.replicate m d, I64 x.s := fun x hx => by rw [List.eq_of_mem_replicate hx]; exact hd
theorem rep_in {d : Dr} {m : Nat} (h : 1 ≤ m) : inA (List.replicate m d) 0 = true := by unfold inA; simp; omega
theorem rep_giV {d : Dr} {m : Nat} (h : 1 ≤ m) : giV (List.replicate m d) 0 = d := by
  unfold giV; rw [if_pos (rep_in h), List.getD_eq_getElem?_getD, List.getElem?_eq_getElem (by simp; omega)]; simp
theorem snE_len {L : List Dr} {d : Dr} (h : snE [] d = 0) : snE L d = if 60 ≤ L.length then 4 else 0 := by
  unfold snE at h ⊢
  repeat' split at h
  all_goals first | omega | skip
  rename_i q1 q2 q3
  rw [if_neg q1, if_neg q2]
theorem rep_snoc {d : Dr} (m : Nat) : List.replicate m d ++ [d] = List.replicate (m + 1) d := by
  rw [List.replicate_succ']

set_option maxHeartbeats 4000000 in
set_option maxRecDepth 100000 in
theorem walk_airFull (sd : Int) (dd : ByteArray) (n : Int) (w : World) (hg : Hnd w) (hd : DropAt sd dd) (_ : (Lit.int .i64 n).wf = true) :
    Calls Tryd.prog 4 #[.agg #[.int .i64 sd, .string dd], .int .i64 n] w fun e w' => e = .returned (.bool true) ∧ Lat w w' := by
  obtain ⟨d, hd0⟩ : ∃ d : Dr, d = ⟨sd, dd⟩ := ⟨_, rfl⟩
  have eS : d.s = sd := by rw [hd0]
  have eT : d.t = dd := by rw [hd0]
  have hnew := air_new (w.alloc (.cells #[.int .i64 sd, .string dd] 24))
  have hb0 := Lat.alloc w (.cells #[.int .i64 sd, .string dd] 24)
  rw [show (w.alloc (.cells #[.int .i64 sd, .string dd] 24)).heap.size = w.heap.size + 1 from by simp] at hnew
  obtain ⟨p, hp⟩ : ∃ p, p = w.heap.size + 1 := ⟨_, rfl⟩
  rw [← hp] at hnew
  have HNEW := Lib.hid hnew
  have HP := Lib.hid hp
  have HD := Lib.hid hd
  have HD0 := Lib.hid hd0
  have HS := Lib.hid eS
  have HT := Lib.hid eT
  have HG := Lib.hid hg
  have HB0 := Lib.hid hb0
  clear hnew hp hd hd0 hg hb0 eS eT
  have hsend : ∀ (L : List Dr) (S : Nat → Prop) (W : World), AirO S p L W → Calls Tryd.prog 20 #[.pointer (some ⟨p, 0, none⟩), .agg #[.int .i64 sd, .string dd]] W fun e w' => e = .returned (errv (snE L d)) ∧ AirStep S p (snD L d) W w' := fun L S W h => by
    have := air_send S p L d W h
    rwa [HS.out, HT.out] at this
  have HSEND := Lib.hid hsend
  clear hsend
  go_enter Tryd.func4, Tryd.ntmps4
  go_wp2_with fail
  refine HNEW.out.mono ?_
  rintro e w1 ⟨rfl, ho1, hb1⟩
  have hf1 : AF w d p [] w1 := ⟨Lat.trans HB0.out hb1, hb1.cell_at (by rw [HS.out]; simp), hb1.cell_at (by rw [HT.out]; simp), _, ho1, fun k hk => by rw [hk, HP.out]; omega⟩
  have c0 : w1.cell? ⟨w.heap.size, 0, none⟩ = some (.int .i64 sd) := by have := hf1.c0; rwa [HS.out] at this
  have c1 : w1.cell? ⟨w.heap.size, 1, none⟩ = some (.string dd) := by have := hf1.c1; rwa [HT.out] at this
  obtain ⟨S1, ho1', hs1⟩ := hf1.air
  have HF1 := Lib.hid hf1; have HO1 := Lib.hid ho1'; have HS1 := Lib.hid hs1
  clear ho1 hb1 hf1 ho1' hs1
  have hways : (∃ e1 L, Hid (∀ W, AirO S1 p [] W → Calls Tryd.prog 20 #[.pointer (some ⟨p, 0, none⟩), .agg #[.int .i64 sd, .string dd]] W fun e w' => e = .returned (eno e1) ∧ AirStep S1 p L W w') ∧ L.length ≤ 1 ∧ Hid (∀ x ∈ L, I64 x.s)) ∨
      (∃ L, Hid (∀ W, AirO S1 p [] W → Calls Tryd.prog 20 #[.pointer (some ⟨p, 0, none⟩), .agg #[.int .i64 sd, .string dd]] W fun e w' => e = .returned .nilIface ∧ AirStep S1 p L W w') ∧ decide (n < 1) = true ∧ L.length ≤ 1 ∧ Hid (∀ x ∈ L, I64 x.s)) ∨
      (∃ L, Hid (∀ W, AirO S1 p [] W → Calls Tryd.prog 20 #[.pointer (some ⟨p, 0, none⟩), .agg #[.int .i64 sd, .string dd]] W fun e w' => e = .returned .nilIface ∧ AirStep S1 p L W w') ∧ (decide (n < 1) = false ∧ decide (90 < n) = true) ∧ L.length ≤ 1 ∧ Hid (∀ x ∈ L, I64 x.s)) ∨
      (snE [] d = 0 ∧ 1 ≤ n ∧ n ≤ 90) := by
    have hw : ∀ x ∈ snD [] d, I64 x.s := fun x hx => by
      unfold snD at hx
      split at hx
      · simp at hx; subst hx; rw [HS.out]; exact HD.out.s
      · simp at hx
    have hl : (snD [] d).length ≤ 1 := by unfold snD; split <;> simp
    by_cases hE : snE [] d = 0
    · have hc : ∀ W, AirO S1 p [] W → Calls Tryd.prog 20 #[.pointer (some ⟨p, 0, none⟩), .agg #[.int .i64 sd, .string dd]] W fun e w' => e = .returned .nilIface ∧ AirStep S1 p (snD [] d) W w' := fun W h => by
        have := HSEND.out [] S1 W h
        rwa [hE] at this
      by_cases hn : n < 1
      · exact .inr (.inl ⟨snD [] d, hc, decide_eq_true hn, hl, hw⟩)
      · by_cases hn2 : 90 < n
        · exact .inr (.inr (.inl ⟨snD [] d, hc, ⟨decide_eq_false hn, decide_eq_true hn2⟩, hl, hw⟩))
        · exact .inr (.inr (.inr ⟨hE, by omega, by omega⟩))
    · refine .inl ⟨snE [] d, snD [] d, fun W h => ?_, hl, hw⟩
      have := HSEND.out [] S1 W h
      rwa [errv_pos hE] at this
  rcases hways with ⟨e1, L, HC, hl, HW⟩ | ⟨L, HC, hn, hl, HW⟩ | ⟨L, HC, ⟨hn, hn2⟩, hl, HW⟩ | ⟨hE, n1, n2⟩
  rotate_right
  focus
    obtain ⟨N, rfl⟩ := Int.eq_ofNat_of_zero_le (show 0 ≤ n by omega)
    have hc := HSEND.out [] S1 w1 HO1.out
    rw [hE, snD, if_pos hE, errv_zero rfl] at hc
    have HC := Lib.hid hc
    have HE := Lib.hid hE
    have N1 : 1 ≤ N := by omega
    have N2 : N ≤ 90 := by omega
    have d1 : decide ((N : Int) < 1) = false := decide_eq_false (by omega)
    have d2 : decide (90 < (N : Int)) = false := decide_eq_false (by omega)
    clear hc hE n1 n2
    go_wp2_with fail
    refine HC.out.mono ?_
    rintro e w2 ⟨rfl, hst⟩
    have HF2 : Hid (AF w d p [d] w2) := Lib.hid (HF1.out.next HS1.out hst)
    clear hst c0 c1
    go_wp2_with fail
    go_loopw [6] (fun i wr => ∃ j : Nat, 1 ≤ j ∧ j ≤ N ∧ i = .int .i64 j ∧ Hid (AF w d p (List.replicate (min j 60) d) wr)) (fun i _ => N - (intOf i).toNat)
    case atStart => exact ⟨1, Nat.le_refl _, N1, rfl, HF2.out⟩
    case round =>
      obtain ⟨j, hj1, hjN, rfl, hrel⟩ := hrel
      obtain ⟨S, ho, hs⟩ := hrel.out.air
      by_cases hlt : j < N
      · have htw := air_twice S p (List.replicate (min j 60) d) 0 wr ho
        by_cases hj : j < 60
        · have e0 : min j 60 = j := by omega
          have hz : snE (List.replicate j d) d = 0 := by rw [snE_len HE.out, List.length_replicate, if_neg (by omega)]
          have e1 : twE (List.replicate j d) 0 = 0 := by unfold twE; rw [if_pos (rep_in hj1), rep_giV hj1, hz]
          have e2 : twD (List.replicate j d) 0 = List.replicate (j + 1) d := by unfold twD; rw [if_pos (rep_in hj1), rep_giV hj1, snD, if_pos hz, rep_snoc]
          rw [e0, e1, e2, errv_zero rfl] at htw
          have e3 : min (j + 1) 60 = j + 1 := by omega
          have HTW := Lib.hid htw; have HSS := Lib.hid hs; have E3 := Lib.hid e3
          have d1 : decide ((j : Int) < 60) = true := decide_eq_true (by omega)
          clear htw e0 hz e1 e2 e3 ho hs
          go_wp2_with (go_at_call 23; refine HTW.out.mono ?_; rintro e w3 ⟨rfl, hst⟩)
          go_roundw
          case rel => exact ⟨j + 1, by omega, by omega, by go_num, by rw [E3.out]; exact hrel.out.next HSS.out hst⟩
          case measure => simp [intOf]; omega
        · have e0 : min j 60 = 60 := by omega
          have hz : snE (List.replicate 60 d) d = 4 := by rw [snE_len HE.out, List.length_replicate, if_pos (by omega)]
          have e1 : twE (List.replicate 60 d) 0 = 4 := by unfold twE; rw [if_pos (rep_in (by omega)), rep_giV (by omega), hz]
          have e2 : twD (List.replicate 60 d) 0 = List.replicate 60 d := by unfold twD; rw [if_pos (rep_in (by omega)), rep_giV (by omega), snD, if_neg (by omega)]
          rw [e0, e1, e2, errv_pos (show (4 : Nat) ≠ 0 from by decide)] at htw
          have e3 : min (j + 1) 60 = 60 := by omega
          have hr2 := hrel.out
          rw [e0] at hr2
          have HTW := Lib.hid htw; have HSS := Lib.hid hs; have E3 := Lib.hid e3; have HR := Lib.hid hr2
          have d1 : decide ((j : Int) < 60) = false := decide_eq_false (by omega)
          clear htw e0 hz e1 e2 e3 ho hs hr2
          go_wp2_with fail
          refine HTW.out.mono ?_
          rintro e w3 ⟨rfl, hst⟩
          have HF3 := Lib.hid (HR.out.next HSS.out hst)
          clear hst
          go_wp2_with fail
          refine (sameErr_eno 4 w3 (HG.out.keep HF3.out.lat)).mono ?_
          rintro e w4 ⟨rfl, hb4⟩
          have HF4 := Lib.hid (HF3.out.keep hb4)
          clear hb4
          go_wp2
          go_roundw
          case rel => exact ⟨j + 1, by omega, by omega, by go_num, by rw [E3.out]; exact HF4.out⟩
          case measure => simp [intOf]; omega
      · obtain rfl : j = N := by omega
        obtain ⟨m, hm⟩ : ∃ m, m = min j 60 := ⟨_, rfl⟩
        have hm1 : 1 ≤ m := by omega
        have hm2 : m ≤ 60 := by omega
        rw [← hm] at ho
        have hgi := air_give S p (List.replicate m d) 0 wr ho (by rw [List.length_replicate]; omega)
        have e1 : giE (List.replicate m d) 0 = 0 := by unfold giE; rw [if_pos (rep_in hm1)]
        have e2 : giD (List.replicate m d) 0 = List.replicate (m - 1) d := by
          unfold giD; rw [if_pos (rep_in hm1)]
          obtain ⟨q, rfl⟩ : ∃ q, m = q + 1 := ⟨m - 1, by omega⟩
          rfl
        rw [e1, e2, rep_giV hm1, Dr.v, HS.out, HT.out, errv_zero rfl] at hgi
        have hr2 := hrel.out
        rw [← hm] at hr2
        have HGI := Lib.hid hgi; have HSS := Lib.hid hs; have HR := Lib.hid hr2
        clear hm e1 e2 hgi ho hs hr2
        go_wp2_with fail
        refine HGI.out.mono ?_
        rintro e w3 ⟨rfl, hst⟩
        have hf3 := HR.out.next HSS.out hst
        have HF3 := Lib.hid hf3
        have c0 : w3.cell? ⟨w.heap.size, 0, none⟩ = some (.int .i64 sd) := by have := hf3.c0; rwa [HS.out] at this
        have c1 : w3.cell? ⟨w.heap.size, 1, none⟩ = some (.string dd) := by have := hf3.c1; rwa [HT.out] at this
        clear hst hf3
        have k0 := (Lat.alloc w3 (.cells #[.int .i64 sd, .string dd] 24)).cell_at c0
        have k1 := (Lat.alloc w3 (.cells #[.int .i64 sd, .string dd] 24)).cell_at c1
        go_wp2_with fail
        have HF4 := Lib.hid (HF3.out.keep (Lat.alloc w3 (.cells #[.int .i64 sd, .string dd] 24)))
        obtain ⟨S4, ho4, hs4⟩ := HF4.out.air
        have hc := HSEND.out (List.replicate (m - 1) d) S4 _ ho4
        rw [snE_len HE.out, List.length_replicate, if_neg (by omega), errv_zero rfl] at hc
        refine hc.mono ?_
        rintro e w5 ⟨rfl, hst5⟩
        have hl5 := (HF4.out.next hs4 hst5).lat
        clear hst5
        go_wp2
        go_ret
        exact ⟨rfl, hl5⟩
  all_goals
    go_wp2_with fail
    refine (HC.out _ HO1.out).mono ?_
    rintro e w2 ⟨rfl, hst⟩
    have HF2 := Lib.hid (HF1.out.next HS1.out hst)
    clear hst
    obtain ⟨S2, ho2, hs2⟩ := HF2.out.air
    have HO2 := Lib.hid ho2; have HS2 := Lib.hid hs2
    obtain ⟨m, hm⟩ : ∃ m, m = L.length := ⟨_, rfl⟩
    have hall := air_all S2 p L w2 ho2 (by omega) HW.out
    have hlose := fun W h => air_lose S2 p L 1 W h (by omega)
    rw [giE_far hl, errv_pos (show (1 : Nat) ≠ 0 from by decide)] at hlose
    rw [← hm] at hall hl
    have HALL := Lib.hid hall; have HLOSE := Lib.hid hlose
    clear ho2 hs2 hm hall hlose
    go_wp2_with fail
    refine HALL.out.mono ?_
    rintro e w3 ⟨a3, c3, rfl, hat3, hb3⟩
    have HB3 := Lib.hid hb3
    clear hat3 hb3
    go_wp2_with fail
    refine (HLOSE.out _ (HO2.out.keep HB3.out)).mono ?_
    rintro e w4 ⟨rfl, hst4⟩
    have hl4 := (hst4.lat (Lat.trans HF2.out.lat HB3.out) (fun k hk => by have := HS2.out k hk; omega))
    clear hst4
    go_wp2
    go_ret
    exact ⟨rfl, hl4⟩
end Go.Proofs.YtooepflfofgnnaaDoor
