/- The walk of AirKeeps: it returns true, whatever is handed in. -/
import Derived.Test.YtooepflfofgnnaaAirKeep
import Derived.Deep.DeepCutAuto
import Derived.Deep.CutBlock
namespace Go.Proofs.Ytooepflfofgnnaa
open Go.ChangeShapes Go.WideShapes Go.ChangeAt Go.RowKit

/-- The closed fact's drop. -/
def d5 : Dr := ⟨5, ⟨#[120]⟩⟩
theorem d5_send : snE [] d5 = 0 := by decide

theorem own_cells {w : World} {B : Nat} {a : Option Addr} {n cap : Nat} {ds : List Dr} (h : OwnR w B 30 2 (.slice a n cap) (ds.map Dr.row)) (i : Nat) (d : Dr) (hd : ds[i]? = some d) :
    ∃ b, a = some ⟨b, 0, none⟩ ∧ w.cell? ⟨b, i * 2, none⟩ = some (.int .i64 d.s) ∧ w.cell? ⟨b, i * 2 + 1, none⟩ = some (.string d.t) := by
  have hi : i < ds.length := (List.getElem?_eq_some_iff.1 hd).1
  obtain ⟨a', cap', hv, hr⟩ := OwnR.slice h (show (ds.map Dr.row).length = ds.length by rw [List.length_map])
  injection hv with e1 e2 e3
  subst e1
  subst e2
  rcases h.2.2 with ⟨he, h0⟩ | ⟨g, cap', cur, he, _⟩
  · rw [List.length_map] at h0; omega
  injection he with e1 e2 e3
  subst e1
  obtain ⟨b, o, hbo, hcell⟩ := hr.at_ (by omega)
  injection hbo with hbo
  injection hbo with e1 e2 _
  subst e1
  subst e2
  have hr2 : (ds.map Dr.row)[i]? = some d.row := by rw [List.getElem?_map, hd]; rfl
  obtain ⟨_, hc2⟩ := hcell i _ hr2
  have c0 := hc2 0 _ rfl
  have c1 := hc2 1 _ rfl
  rw [Nat.zero_add] at c0 c1
  exact ⟨g, rfl, c0, c1⟩
theorem bytes_ne {a b : ByteArray} (h : a ≠ b) : (a.toList == b.toList) = false := by
  rw [beq_eq_false_iff_ne, ByteArray.toList_eq, ByteArray.toList_eq]
  intro e
  apply h
  cases a; cases b
  simp only at e
  rw [Array.toList_inj.1 e]
/-- what stands between two steps -/
structure KQ where
  bt : Bool
  ds : List Dr
set_option maxHeartbeats 8000000 in
set_option maxRecDepth 100000 in
theorem walk_airKeeps (a0 : Option Addr) (n0 c0 : Nat) (ls : List Dr) (a1 : Option Addr) (n1 c1 : Nat) (rs : List Rw) (w : World) (h0 : DropsAt w a0 n0 c0 ls) (h1 : IRowsAt w a1 n1 c1 rs) :
    Calls Try.prog 3 #[.slice a0 n0 c0, .slice a1 n1 c1] w fun e w' => e = .returned (.bool true) ∧ Lat w w' := by
  have hl0 := h0.len
  have hl1 := h1.len
  have hle0 := h0.rows.le
  have hcm0 := h0.rows.cap
  have hle1 := h1.le
  have hcm1 := h1.cap
  unfold maxLen at hcm0 hcm1
  have H0 := Lib.hid h0; have H1 := Lib.hid h1; have HL0 := Lib.hid hl0; have HL1 := Lib.hid hl1
  clear h0 h1 hl0 hl1
  go_enter Try.func3, Try.ntmps3
  go_wp2_with fail
  refine (air_new w).mono ?_
  rintro e w1 ⟨rfl, ho1, hb1⟩
  have hs := air_send _ _ [] d5 w1 ho1
  rw [d5_send, snD, if_pos d5_send, errv_zero rfl, List.nil_append] at hs
  have HS := Lib.hid hs
  have HB1 := Lib.hid hb1
  clear hs ho1 hb1
  go_wp2_with fail
  refine HS.out.mono ?_
  rintro e w2 ⟨rfl, hst⟩
  obtain ⟨S2, ho2, hs2⟩ := hst.obj
  have hl2 : Lat w w2 := hst.lat HB1.out (fun k hk => by omega)
  have hg := air_give S2 _ [d5] 0 w2 ho2 (by simp)
  rw [show (giV [d5] 0).v = Value.agg #[.int .i64 5, .string ⟨#[120]⟩] from rfl, show giE [d5] 0 = 0 from rfl, show giD [d5] 0 = [] from rfl, errv_zero rfl] at hg
  have hs2' : ∀ k, S2 k → w.heap.size ≤ k := fun k hk => by
    have := HB1.out.size
    rcases hs2 k hk with e | e <;> omega
  have HG := Lib.hid hg; have HL2 := Lib.hid hl2; have HS2 := Lib.hid hs2'
  clear hst ho2 hs2 hl2 hg hs2' HS HB1
  go_wp2_with fail
  refine HG.out.mono ?_
  rintro e w3 ⟨rfl, hst3⟩
  obtain ⟨S3, ho3, hs3⟩ := hst3.obj
  have hl3 : Lat w w3 := hst3.lat HL2.out (fun k hk => HS2.out k hk)
  have ha := air_all S3 _ [] _ (ho3.keep (Lat.alloc w3 (.cells #[.int .i64 5, .string ⟨#[120]⟩] 30))) (by simp) (by simp)
  have HA := Lib.hid ha; have HL3 := Lib.hid hl3
  clear hst3 ho3 hs3 hl3 ha HG
  go_wp2_with fail
  refine HA.out.mono ?_
  rintro e w4 ⟨a4, c4, rfl, hat4, hb4⟩
  have HL4 := Lib.hid (Lat.trans (Lat.trans HL3.out (Lat.alloc _ _)) hb4)
  clear hat4 hb4
  go_wp2_with fail
  refine (air_new w4).mono ?_
  rintro e w5 ⟨rfl, ho5, hb5⟩
  obtain ⟨x, hx⟩ : ∃ x, x = w4.heap.size := ⟨_, rfl⟩
  rw [← hx] at ho5 ⊢
  have HK5 : Hid (KS w x [] (.slice none 0 0) [] w5) := Lib.hid (KS.start (Lat.trans HL4.out hb5) (by rw [hx]; exact HL4.out.size) ho5)
  clear hx ho5 hb5 HL2 HL3 HL4 HA HS2
  go_upto_block 0 with fail
  go_cut [10] (fun v wx => ∃ (L : List Dr) (m : Nat) (a : Option Addr) (cap : Nat), v = .slice a m cap ∧ Hid (m = L.length ∧ m ≤ 60 ∧ (∀ d ∈ L, DropAt d.s d.t) ∧ KS w x L (.slice a m cap) L wx))
  case first =>
    go_wp2_with fail
    go_loopw [10, 11] (fun v i wr => ∃ k : Nat, k ≤ n0 ∧ k ≤ 60 ∧ i = .int .i64 k ∧ Hid (KS w x (sentL ls k) v (sentL ls k) wr)) (fun _ i _ => 60 - (intOf i).toNat)
    case atStart => exact ⟨0, Nat.zero_le _, Nat.zero_le _, rfl, HK5.out⟩
    case round =>
      obtain ⟨k, hk, hk60, rfl, hrel⟩ := hrel
      by_cases hlt : k < n0 ∧ k < 60
      · obtain ⟨hlt, hlt2⟩ := hlt
        have hat := H0.out.keep hrel.out.lat
        obtain ⟨b, o, rfl, hc⟩ := hat.at_ (by omega)
        have hkl : k < ls.length := by rw [HL0.out]; exact hlt
        obtain ⟨d, hd⟩ : ∃ d, d = ls.getD k ⟨0, .empty⟩ := ⟨_, rfl⟩
        have hdk : ls[k]? = some d := by rw [hd, List.getD_eq_getElem?_getD, List.getElem?_eq_getElem hkl]; rfl
        obtain ⟨cs, ct⟩ := hc k d hdk
        have hnx : sentL ls (k + 1) = snD (sentL ls k) d := by rw [hd]; rfl
        have hlen := sentL_len ls k
        obtain ⟨s, t⟩ := d
        simp only at cs ct
        obtain ⟨S, ho, hs, hv⟩ := hrel.out.air
        have hsd := air_send S x (sentL ls k) ⟨s, t⟩ wr ho
        simp only at hsd
        have i1 : (0 : Int) ≤ (k : Int) := by omega
        have i2 : (k : Int) < (n0 : Int) := by omega
        have HSS := Lib.hid hs; have HV := Lib.hid hv; have HNX := Lib.hid hnx; have HLEN := Lib.hid hlen; have HDK := Lib.hid hdk
        clear hat hc hkl hd ho hs hv hnx hlen hdk
        by_cases he : snE (sentL ls k) ⟨s, t⟩ = 0
        · rw [he, snD, if_pos he, errv_zero rfl] at hsd
          have hnx2 : sentL ls (k + 1) = sentL ls k ++ [⟨s, t⟩] := by rw [HNX.out, snD, if_pos he]
          have HSD := Lib.hid hsd; have HNX2 := Lib.hid hnx2
          clear hsd hnx2 he
          go_wp2_with fail
          refine HSD.out.mono ?_
          rintro e w6 ⟨rfl, hst⟩
          have HK6 := Lib.hid (hrel.out.next HSS.out HV.out hst)
          have hat6 := H0.out.keep HK6.out.lat
          obtain ⟨b', o', hab, hc⟩ := hat6.at_ (by omega)
          injection hab with hab
          injection hab with e1 e2 _
          subst e1
          subst e2
          obtain ⟨cs, ct⟩ := hc k _ HDK.out
          simp only at cs ct
          clear hst hat6 hc
          go_wp2_with (at_builtin; refine appR w6 w.heap.size rfl _ _ 22 rfl 30 _ 2 24 Try.underlying22 info_Drop rfl (by decide) (by decide) _ _ _ (by rfl) HK6.out.sent rfl (by rfl) (fun u hu => by simp at hu; rcases hu with rfl | rfl <;> rfl) (by rw [List.length_map]; have := HLEN.out; omega) HK6.out.lat.size ?_; intro v' w7 hown7 hb7 hs7)
          have HK7 := Lib.hid (HK6.out.app (d := ⟨s, t⟩) hown7 hb7 hs7)
          clear hown7 hb7 hs7
          go_wp2
          go_roundw
          case rel => exact ⟨k + 1, by omega, by omega, by go_num, by rw [HNX2.out]; exact HK7.out⟩
          case measure => simp [intOf]; omega
        · rw [snD, if_neg he, errv_pos he] at hsd
          have hnx2 : sentL ls (k + 1) = sentL ls k := by rw [HNX.out, snD, if_neg he]
          have HSD := Lib.hid hsd; have HNX2 := Lib.hid hnx2
          clear hsd hnx2 he
          go_wp2_with fail
          refine HSD.out.mono ?_
          rintro e w6 ⟨rfl, hst⟩
          have HK6 := Lib.hid (hrel.out.next HSS.out HV.out hst)
          clear hst cs ct
          go_wp2
          go_roundw
          case rel => exact ⟨k + 1, by omega, by omega, by go_num, by rw [HNX2.out]; exact HK6.out⟩
          case measure => simp [intOf]; omega
      · obtain ⟨L, hL⟩ : ∃ L, L = sentL ls k := ⟨_, rfl⟩
        have hlen := sentL_len ls k
        have hwf : ∀ d ∈ L, DropAt d.s d.t := fun d hd => H0.out.wf d (sentL_mem k (by rw [HL0.out]; exact hk) d (by rw [← hL]; exact hd))
        rw [← hL] at hrel hlen
        obtain ⟨m, hm⟩ : ∃ m, m = L.length := ⟨_, rfl⟩
        obtain ⟨a, cap, rfl, hrows⟩ := OwnR.slice (n := m) hrel.out.sent (by rw [List.length_map, hm])
        rw [← hm] at hlen
        have HALL : Hid (m = L.length ∧ m ≤ 60 ∧ (∀ d ∈ L, DropAt d.s d.t) ∧ KS w x L (.slice a m cap) L wr) := Lib.hid ⟨hm, hlen, hwf, hrel.out⟩
        clear hL hwf hm hrows hrel hlen
        by_cases hkn : k < n0
        · have hk3 : ¬ k < 60 := by omega
          clear hlt
          go_wp2_with fail
          go_meet
          case rel => exact ⟨L, m, a, cap, rfl, HALL.out⟩
        · clear hlt
          go_wp2_with fail
          go_meet
          case rel => exact ⟨L, m, a, cap, rfl, HALL.out⟩
  case rest =>
  obtain ⟨L, m, a, cap, rfl, hc⟩ := hcut
  obtain ⟨hm, hm60, hwf, hks⟩ := hc.out
  have HM := Lib.hid hm; have HWF := Lib.hid hwf; have HKS := Lib.hid hks
  have hcapm := (OwnR.slice (n := m) hks.sent (by rw [List.length_map, hm]))
  obtain ⟨S, ho, hs, hv⟩ := hks.air
  have hall := air_all S x L wc ho (by omega) (fun d hd => (HWF.out d hd).s)
  rw [← hm] at hall
  have HALL := Lib.hid hall
  have dm : ((m : Int) != (m : Int)) = false := by simp
  clear hm hwf hks hcapm ho hs hv hall hc HK5
  generalize wc = w6 at *
  go_wp2_with fail
  refine HALL.out.mono ?_
  rintro e w7 ⟨a7, c7, rfl, hat7, hb7⟩
  have HK7 := Lib.hid (HKS.out.keep hb7)
  clear hat7 hb7 HALL HKS
  go_upto_block 2 with fail
  go_cut [12] (fun b wx => ∃ q : KQ, b = .bool q.bt ∧ Hid (KB q.ds L q.bt ∧ KS w x q.ds (.slice a m cap) L wx))
  case first =>
    go_wp2_with fail
    go_loopw [12, 13] (fun b i wr => ∃ (j : Nat) (q : KQ), j ≤ n1 ∧ j ≤ 60 ∧ i = .int .i64 j ∧ b = .bool q.bt ∧ Hid (KB q.ds L q.bt ∧ KS w x q.ds (.slice a m cap) L wr)) (fun _ i _ => 60 - (intOf i).toNat)
    case atStart => exact ⟨0, ⟨false, L⟩, Nat.zero_le _, Nat.zero_le _, rfl, rfl, ⟨by show L.length ≤ 60; rw [← HM.out]; exact hm60, fun d hd => hd, fun _ => rfl⟩, HK7.out⟩
    case round =>
      obtain ⟨j, ⟨bt, ds⟩, hj, hj60, rfl, rfl, hrel⟩ := hrel
      by_cases hlt : j < n1 ∧ j < 60
      · obtain ⟨hlt, hlt2⟩ := hlt
        have hat := H1.out.keep hrel.out.2.lat
        obtain ⟨b, o, rfl, hc⟩ := hat.at_ (by omega)
        have hjl : j < rs.length := by rw [HL1.out]; exact hlt
        obtain ⟨r, hr⟩ : ∃ r, r = rs[j] := ⟨_, rfl⟩
        have hrj : rs[j]? = some r := by rw [hr]; exact List.getElem?_eq_getElem hjl
        have hmem : r ∈ rs := by rw [hr]; exact List.getElem_mem hjl
        have cr := hc j r hrj
        have i1 : (0 : Int) ≤ (j : Int) := by omega
        have i2 : (j : Int) < (n1 : Int) := by omega
        have HRJ := Lib.hid hrj; have HMEM := Lib.hid hmem
        obtain ⟨ra, rn, rcap, rz⟩ := r
        simp only at cr
        clear hat hc hjl hr hrj hmem
        by_cases hn : rn = 2
        · subst hn
          have hin := (H1.out.keep hrel.out.2.lat).ints _ HMEM.out
          simp only at hin
          have hrc := hin.row.le
          have hrm := hin.row.cap
          unfold maxLen at hrm
          obtain ⟨b2, o2, rfl, hz⟩ := hin.row.at_ (by decide)
          have z0 := hz 0 (by decide)
          have z1 := hz 1 (by decide)
          rw [Nat.add_zero] at z0
          obtain ⟨x0, hx0⟩ : ∃ x0, x0 = rz.getD 0 0 := ⟨_, rfl⟩
          obtain ⟨x1, hx1⟩ : ∃ x1, x1 = rz.getD 1 0 := ⟨_, rfl⟩
          rw [← hx0] at z0
          rw [← hx1] at z1
          have HX0 := Lib.hid hx0; have HX1 := Lib.hid hx1
          obtain ⟨S, ho, hs, hv⟩ := hrel.out.2.air
          have HO := Lib.hid ho; have HSS := Lib.hid hs; have HV := Lib.hid hv
          have hdl : ds.length ≤ 1000000 := by have := hrel.out.1.len; simp only at this; omega
          have HDL := Lib.hid hdl
          clear hin hz hx0 hx1 ho hs hv hdl
          have hcells : ∀ W, Lat w W → W.cell? ⟨b, o + j, none⟩ = some (.slice (some ⟨b2, o2, none⟩) 2 rcap) ∧ W.cell? ⟨b2, o2, none⟩ = some (.int .i64 x0) ∧ W.cell? ⟨b2, o2 + 1, none⟩ = some (.int .i64 x1) := fun W hW => by
            have hat := H1.out.keep hW
            obtain ⟨b', o', hab, hc⟩ := hat.at_ (by omega)
            injection hab with hab
            injection hab with e1 e2 _
            subst e1
            subst e2
            have hin := hat.ints _ HMEM.out
            obtain ⟨b', o', hab, hz⟩ := hin.row.at_ (show (2 : Nat) ≠ 0 from by decide)
            injection hab with hab
            injection hab with e1 e2 _
            subst e1
            subst e2
            have z0 := hz 0 (show 0 < 2 from by decide)
            have z1 := hz 1 (show 1 < 2 from by decide)
            rw [Nat.add_zero] at z0
            exact ⟨hc j _ HRJ.out, by rw [HX0.out]; exact z0, by rw [HX1.out]; exact z1⟩
          have HCELLS := Lib.hid hcells
          clear hcells
          by_cases h0 : x0 = 0
          · subst h0
            have hls := air_lose S x ds x1 wr HO.out HDL.out
            have hkb := hrel.out.1.lose x1
            simp only at hkb
            by_cases he : giE ds x1 = 0
            · rw [he, errv_zero rfl] at hls
              rw [decide_eq_true he, Bool.or_true] at hkb
              have HLS := Lib.hid hls; have HKB := Lib.hid hkb
              clear hls hkb he
              go_wp2_with fail
              refine HLS.out.mono ?_
              rintro e w8 ⟨rfl, hst⟩
              have HK8 := Lib.hid (hrel.out.2.next HSS.out HV.out hst)
              obtain ⟨cr, z0, z1⟩ := HCELLS.out _ HK8.out.lat
              clear hst
              go_wp2
              go_roundw
              case rel => exact ⟨j + 1, ⟨true, giD ds x1⟩, by omega, by omega, by go_num, rfl, HKB.out, HK8.out⟩
              case measure => simp [intOf]; omega
            · rw [errv_pos he] at hls
              rw [decide_eq_false he, Bool.or_false] at hkb
              have HLS := Lib.hid hls; have HKB := Lib.hid hkb
              clear hls hkb he
              go_wp2_with fail
              refine HLS.out.mono ?_
              rintro e w8 ⟨rfl, hst⟩
              have HK8 := Lib.hid (hrel.out.2.next HSS.out HV.out hst)
              obtain ⟨cr, z0, z1⟩ := HCELLS.out _ HK8.out.lat
              clear hst
              go_wp2
              go_roundw
              case rel => exact ⟨j + 1, ⟨bt, giD ds x1⟩, by omega, by omega, by go_num, rfl, HKB.out, HK8.out⟩
              case measure => simp [intOf]; omega
          by_cases h1 : x0 = 1
          · subst h1
            have hls := air_twice S x ds x1 wr HO.out
            have hkb := hrel.out.1.twice x1
            simp only at hkb
            by_cases he : twE ds x1 = 0
            · rw [he, errv_zero rfl] at hls
              rw [decide_eq_true he, Bool.or_true] at hkb
              have HLS := Lib.hid hls; have HKB := Lib.hid hkb
              clear hls hkb he h0
              go_wp2_with fail
              refine HLS.out.mono ?_
              rintro e w8 ⟨rfl, hst⟩
              have HK8 := Lib.hid (hrel.out.2.next HSS.out HV.out hst)
              clear hst cr z0 z1
              go_wp2
              go_roundw
              case rel => exact ⟨j + 1, ⟨true, twD ds x1⟩, by omega, by omega, by go_num, rfl, HKB.out, HK8.out⟩
              case measure => simp [intOf]; omega
            · rw [errv_pos he] at hls
              rw [decide_eq_false he, Bool.or_false] at hkb
              have HLS := Lib.hid hls; have HKB := Lib.hid hkb
              clear hls hkb he h0
              go_wp2_with fail
              refine HLS.out.mono ?_
              rintro e w8 ⟨rfl, hst⟩
              have HK8 := Lib.hid (hrel.out.2.next HSS.out HV.out hst)
              clear hst cr z0 z1
              go_wp2
              go_roundw
              case rel => exact ⟨j + 1, ⟨bt, twD ds x1⟩, by omega, by omega, by go_num, rfl, HKB.out, HK8.out⟩
              case measure => simp [intOf]; omega
          · have d0 : (x0 == 0) = false := by rw [beq_eq_false_iff_ne]; exact h0
            have d1 : (x0 == 1) = false := by rw [beq_eq_false_iff_ne]; exact h1
            clear h0 h1
            go_wp2
            go_roundw
            case rel => exact ⟨j + 1, ⟨bt, ds⟩, by omega, by omega, by go_num, rfl, hrel.out⟩
            case measure => simp [intOf]; omega
        · have dn : ((rn : Int) != 2) = true := by rw [bne_iff_ne]; omega
          clear hn
          go_wp2
          go_roundw
          case rel => exact ⟨j + 1, ⟨bt, ds⟩, by omega, by omega, by go_num, rfl, hrel.out⟩
          case measure => simp [intOf]; omega
      · by_cases hkn : j < n1
        · have hk3 : ¬ j < 60 := by omega
          clear hlt
          go_wp2_with fail
          go_meet
          case rel => exact ⟨⟨bt, ds⟩, rfl, hrel.out⟩
        · clear hlt
          go_wp2_with fail
          go_meet
          case rel => exact ⟨⟨bt, ds⟩, rfl, hrel.out⟩
  case rest =>
  obtain ⟨⟨bt, ds⟩, rfl, hc⟩ := hcut
  have hkc : KC ds L bt 0 := ⟨by have := hc.out.1.len; simp only at this; omega, hc.out.1.mem, fun hb => by rw [List.drop_zero]; exact hc.out.1.same hb⟩
  have hks := hc.out.2
  have HKC := Lib.hid hkc; have HKS := Lib.hid hks
  clear hkc hks hc HK7
  generalize wc = w8 at *
  go_wp2_with fail
  go_loopw [14] (fun i wr => ∃ j : Nat, j ≤ 60 ∧ i = .int .i64 j ∧ Hid (∃ ds, KC ds L bt j ∧ KS w x ds (.slice a m cap) L wr)) (fun i _ => 60 - (intOf i).toNat)
  case atStart => exact ⟨0, by omega, rfl, ds, HKC.out, HKS.out⟩
  case round =>
    obtain ⟨j, hj, rfl, hrel⟩ := hrel
    clear HKC HKS
    obtain ⟨ds, hkc, hks⟩ := hrel.out
    obtain ⟨S, ho, hs, hv⟩ := hks.air
    have hdl := hkc.len
    have hdw : ∀ d ∈ ds, I64 d.s := fun d hd => (HWF.out d (hkc.mem d hd)).s
    have hall := air_all S x ds wr ho (by omega) hdw
    have HKC := Lib.hid hkc; have HKS := Lib.hid hks; have HO := Lib.hid ho; have HSS := Lib.hid hs; have HV := Lib.hid hv
    obtain ⟨q, hq⟩ : ∃ q, q = ds.length := ⟨_, rfl⟩
    rw [← hq] at hall
    have HALL := Lib.hid hall; have HQ := Lib.hid hq
    clear hkc hks ho hs hv hrel hall
    by_cases hgo : j < 60 ∧ 0 < q
    · obtain ⟨hlt, hq0⟩ := hgo
      obtain ⟨d, ds', rfl⟩ : ∃ d ds', ds = d :: ds' := by
        cases ds with
        | nil => simp at hq; omega
        | cons d ds' => exact ⟨d, ds', rfl⟩
      have hgi := fun W h => air_give S x (d :: ds') 0 W h (by omega)
      have e0 : inA (d :: ds') 0 = true := by unfold inA; simp
      rw [show giE (d :: ds') 0 = 0 from by unfold giE; rw [if_pos e0], show giD (d :: ds') 0 = ds' from by unfold giD; rw [if_pos e0]; rfl, show giV (d :: ds') 0 = d from by unfold giV; rw [if_pos e0]; rfl, errv_zero rfl] at hgi
      have hdm : d ∈ L := HKC.out.mem d (List.mem_cons_self ..)
      have hkt := HKC.out.tail
      have hhead := HKC.out.head
      obtain ⟨s, t⟩ := d
      simp only [Dr.v] at hgi
      have HGI := Lib.hid hgi; have HDM := Lib.hid hdm; have HKT := Lib.hid hkt; have HHD := Lib.hid hhead
      have dq : decide ((0 : Int) < (q : Int)) = true := decide_eq_true (by omega)
      clear hgi hdm hkt hhead e0 hq HKC HQ hdl hdw
      go_wp2_with fail
      refine HALL.out.mono ?_
      rintro e w9 ⟨a9, c9, rfl, hat9, hb9⟩
      have HO9 := Lib.hid (HO.out.keep hb9); have HK9 := Lib.hid (HKS.out.keep hb9)
      clear hat9 hb9 HALL HO HKS
      go_wp2_with fail
      refine (HGI.out _ HO9.out).mono ?_
      rintro e w10 ⟨rfl, hst⟩
      have HK10 := Lib.hid (HK9.out.next HSS.out HV.out hst)
      clear hst HO9 HK9 HGI
      obtain ⟨W, hW⟩ : ∃ W, W = w10.alloc (.cells #[.int .i64 s, .string t] 30) := ⟨_, rfl⟩
      obtain ⟨g, hg⟩ : ∃ g, g = w10.heap.size := ⟨_, rfl⟩
      have HKW : Hid (KS w x ds' (.slice a m cap) L W) := Lib.hid (HK10.out.keep (by rw [hW]; exact Lat.alloc _ _))
      have k0 : W.cell? ⟨g, 0, none⟩ = some (.int .i64 s) := by rw [hW, hg]; simp
      have k1 : W.cell? ⟨g, 1, none⟩ = some (.string t) := by rw [hW, hg]; simp
      have hrows : ∀ W', Lat W W' → ∀ i e, L[i]? = some e → ∃ b, a = some ⟨b, 0, none⟩ ∧ W'.cell? ⟨b, i * 2, none⟩ = some (.int .i64 e.s) ∧ W'.cell? ⟨b, i * 2 + 1, none⟩ = some (.string e.t) := fun W' hW' i e he => own_cells (HKW.out.sent.keep hW') i e he
      have HROWS := Lib.hid hrows
      have HK0 := Lib.hid k0; have HK1 := Lib.hid k1
      clear hrows HK10 k0 k1
      go_upto_region 28 with fail
      rw [← hg, ← hW]
      clear hW hg
      have c0 := HK0.out
      have c1 := HK1.out
      have hbt : bt = true ∨ (bt = false ∧ j < m ∧ ∃ b, a = some ⟨b, 0, none⟩ ∧ W.cell? ⟨b, j * 2, none⟩ = some (.int .i64 s) ∧ W.cell? ⟨b, j * 2 + 1, none⟩ = some (.string t)) := by
        cases hb : bt with
        | true => exact .inl rfl
        | false =>
          have hLj := HHD.out hb
          have hjm : j < m := by rw [HM.out]; exact (List.getElem?_eq_some_iff.1 hLj).1
          exact .inr ⟨rfl, hjm, HROWS.out W (Lat.refl _) j _ hLj⟩
      clear HHD
      have i1 : (0 : Int) ≤ (j : Int) := by omega
      rcases hbt with rfl | ⟨rfl, hjm, b, rfl, r0, r1⟩
      rotate_left
      focus
        have dj : decide (m ≤ j) = false := decide_eq_false (by omega)
        have i2 : (j : Int) < (m : Int) := by omega
        go_quiet (fail)
        clear r0 r1 dj i2 hjm
      rotate_left
      focus
        go_quiet (fail)
      all_goals
        clear c0 c1
        go_wp2_with fail
        go_loopw [17, 18] (fun v i wx => ∃ r : Nat, r ≤ m ∧ i = .int .i64 r ∧ v = .bool (wasB L ⟨s, t⟩ r) ∧ Hid (Lat W wx)) (fun _ i _ => m - (intOf i).toNat)
        case atStart => exact ⟨0, Nat.zero_le _, rfl, rfl, Lat.drewN _ _⟩
        case round =>
          obtain ⟨r, hr, rfl, rfl, hrel⟩ := hrel
          by_cases hlt2 : r < m
          · have c0 := hrel.out.cell_at HK0.out
            have c1 := hrel.out.cell_at HK1.out
            have hrl : r < L.length := by rw [← HM.out]; exact hlt2
            obtain ⟨e, he⟩ : ∃ e, e = L.getD r ⟨0, .empty⟩ := ⟨_, rfl⟩
            have her : L[r]? = some e := by rw [he, List.getD_eq_getElem?_getD, List.getElem?_eq_getElem hrl]; rfl
            obtain ⟨b', hab, r0, r1⟩ := HROWS.out _ hrel.out r e her
            first | subst hab | (injection hab with hab; injection hab with hab _ _; subst hab)
            have i3 : (0 : Int) ≤ (r : Int) := by omega
            have i4 : (r : Int) < (m : Int) := by omega
            obtain ⟨es, et⟩ := e
            simp only at r0 r1
            have HE := Lib.hid he
            clear he her hrl
            by_cases hw : wasB L ⟨s, t⟩ r = true
            · have hw2 : wasB L ⟨s, t⟩ (r + 1) = true := wasB_mono hw _ (by omega)
              have HW2 := Lib.hid hw2
              clear hw2
              go_wp2_with fail
              go_quiet (fail)
              go_wp2
              go_roundw
              case rel => exact ⟨r + 1, by omega, by go_num, by rw [HW2.out], Lat.trans hrel.out (Lat.drewN _ _)⟩
              case measure => simp [intOf]; omega
            · have hw' : wasB L ⟨s, t⟩ r = false := by simpa using hw
              clear hw
              by_cases h1 : es = s
              · subst h1
                by_cases h2 : et = t
                · subst h2
                  have hw2 : wasB L ⟨es, et⟩ (r + 1) = true := wasB_yes HE.out.symm
                  have HW2 := Lib.hid hw2
                  clear hw2
                  go_wp2_with fail
                  go_quiet (fail)
                  go_wp2
                  go_roundw
                  case rel => exact ⟨r + 1, by omega, by go_num, by rw [HW2.out], Lat.trans hrel.out (Lat.drewN _ _)⟩
                  case measure => simp [intOf]; omega
                · have hw2 : wasB L ⟨es, t⟩ (r + 1) = false := by rw [wasB_no (by rw [← HE.out]; intro e; exact h2 (congrArg Dr.t e)), hw']
                  have d2 := bytes_ne h2
                  have HW2 := Lib.hid hw2
                  clear hw2 h2
                  go_wp2_with fail
                  go_quiet (fail)
                  go_wp2
                  go_roundw
                  case rel => exact ⟨r + 1, by omega, by go_num, by rw [HW2.out], Lat.trans hrel.out (Lat.drewN _ _)⟩
                  case measure => simp [intOf]; omega
              · have hw2 : wasB L ⟨s, t⟩ (r + 1) = false := by rw [wasB_no (by rw [← HE.out]; intro e; exact h1 (congrArg Dr.s e)), hw']
                have d2 : (es == s) = false := by rw [beq_eq_false_iff_ne]; exact h1
                have HW2 := Lib.hid hw2
                clear hw2 h1
                go_wp2_with fail
                go_quiet (fail)
                go_wp2
                go_roundw
                case rel => exact ⟨r + 1, by omega, by go_num, by rw [HW2.out], Lat.trans hrel.out (Lat.drewN _ _)⟩
                case measure => simp [intOf]; omega
          · obtain rfl : r = m := by omega
            have hw : wasB L ⟨s, t⟩ r = true := by rw [HM.out]; exact wasB_all HDM.out
            go_wp2
            go_roundw
            case rel => exact ⟨j + 1, by omega, by go_num, ds', HKT.out, HKW.out.keep hrel.out⟩
            case measure => simp [intOf]; omega
    · have hq0 : q = 0 := by omega
      clear hgo hq
      subst hq0
      by_cases hlt : j < 60
      · go_wp2_with fail
        refine HALL.out.mono ?_
        rintro e w9 ⟨a9, c9, rfl, hat9, hb9⟩
        have HO9 := Lib.hid (HO.out.keep hb9); have HK9 := Lib.hid (HKS.out.keep hb9)
        have hall := air_all S x ds w9 HO9.out (by omega) hdw
        rw [← HQ.out] at hall
        have HALL9 := Lib.hid hall
        clear hat9 hb9 HALL HO HKS hall HQ hdw
        go_wp2_with fail
        refine HALL9.out.mono ?_
        rintro e w10 ⟨a10, c10, rfl, hat10, hb10⟩
        go_wp2
        go_ret
        exact ⟨rfl, Lat.trans HK9.out.lat hb10⟩
      · clear HQ hdw
        go_wp2_with fail
        refine HALL.out.mono ?_
        rintro e w9 ⟨a9, c9, rfl, hat9, hb9⟩
        go_wp2
        go_ret
        exact ⟨rfl, Lat.trans HKS.out.lat hb9⟩
end Go.Proofs.Ytooepflfofgnnaa
