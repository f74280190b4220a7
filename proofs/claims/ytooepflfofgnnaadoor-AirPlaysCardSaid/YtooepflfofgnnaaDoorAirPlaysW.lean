/- The walk of AirPlays: it returns true, whatever is handed in. -/
import Derived.Test.YtooepflfofgnnaaDoorAirTwo
import Derived.Test.YtooepflfofgnnaaDoorSame
import Derived.Test.YtooepflfofgnnaaDoorSameInts
import Derived.Test.YtooepflfofgnnaaDoorGateC
import Derived.Deep.LoopGhost
import Derived.Deep.CutRange
import Derived.Deep.CutBlock
import Derived.Deep.Light
namespace Go.Proofs.YtooepflfofgnnaaDoor
open Go.ChangeShapes Go.WideShapes Go.ChangeAt Go.RowKit

set_option maxHeartbeats 8000000 in
set_option maxRecDepth 100000 in
theorem walk_airPlays (a0 : Option Addr) (n0 c0 : Nat) (rs : List Rw) (a1 : Option Addr) (n1 c1 : Nat) (ls : List Dr) (w : World) (hg : Hnd w) (h0 : IRowsAt w a0 n0 c0 rs) (h1 : DropsAt w a1 n1 c1 ls) :
    Calls Tryd.prog 5 #[.slice a0 n0 c0, .slice a1 n1 c1] w fun e w' => e = .returned (.bool true) ∧ Lat w w' := by
  have hl0 := h0.len
  have hl1 := h1.len
  have hle0 := h0.le
  have hcm0 := h0.cap
  have hle1 := h1.rows.le
  have hcm1 := h1.rows.cap
  unfold maxLen at hcm0 hcm1
  have HG := Lib.hid hg; have H0 := Lib.hid h0; have H1 := Lib.hid h1; have HL0 := Lib.hid hl0; have HL1 := Lib.hid hl1
  clear hg h0 h1 hl0 hl1
  go_enter Tryd.func5, Tryd.ntmps5
  go_wp2_with fail
  refine (air_new w).mono ?_
  rintro e w1 ⟨rfl, ho1, hb1⟩
  obtain ⟨x, hx⟩ : ∃ x, x = w.heap.size := ⟨_, rfl⟩
  obtain ⟨y, hy⟩ : ∃ y, y = w1.heap.size := ⟨_, rfl⟩
  rw [← hx] at ho1 ⊢
  have hlt1 := ho1.lt x rfl
  have hap : AP w x y (fun _ => False) [] [] (w1.alloc (.cells #[.slice none 0 0] 51)) := by
    refine ⟨hb1.trans (Lat.alloc _ _), _, fun k => k = y, ho1.keep (Lat.alloc _ _), ⟨fun k hk => by rw [hk, hy]; simp, rfl, by rw [hy]; simp, none, 0, by rw [hy]; simp, OwnR.nil _ _ _ _, fun k hk => by cases hk⟩, fun k a b => by omega, fun k a => by omega, fun k a => by have := hb1.size; omega, fun k a => a.elim⟩
  have HAP := Lib.hid hap
  clear ho1 hb1 hap hx hlt1
  go_upto_block 0 with fail
  rw [← hy]
  clear hy
  go_wp2_with fail
  go_loopg [7, 8] 151 (fun f at_ i wr => ∃ (j q : Nat), j ≤ n0 ∧ j ≤ 150 ∧ q ≤ n1 ∧ i = .int .i64 j ∧ at_ = .int .i64 q ∧ Hid (f + j = 151 ∧ ∃ ds, DW ds ∧ AP w x y (fun _ => False) ds ds wr))
  case atStart => exact ⟨0, 0, Nat.zero_le _, Nat.zero_le _, Nat.zero_le _, rfl, rfl, rfl, [], DW.nil, HAP.out⟩
  case round =>
    obtain ⟨j, q, hj, hj150, hq, rfl, rfl, hrel⟩ := hrel
    clear HAP
    obtain ⟨G, hGe⟩ : ∃ G : Nat, G = gk := ⟨_, rfl⟩
    have HGE := Lib.hid hGe
    clear hGe
    by_cases hgo : j < n0 ∧ j < 150
    · obtain ⟨hlt, hlt2⟩ := hgo
      have hj1 : j < rs.length := by rw [HL0.out]; exact hlt
      obtain ⟨⟨ra, rn, rcap, rz⟩, hr⟩ : ∃ r, rs[j]? = some r := ⟨_, List.getElem?_eq_getElem hj1⟩
      have hcells : ∀ W, Lat w W → ∃ b o, a0 = some ⟨b, o, none⟩ ∧ W.cell? ⟨b, o + j, none⟩ = some (.slice ra rn rcap) ∧ IntsAt W ra rn rcap rz := fun W hW => by
        have hat := H0.out.keep hW
        obtain ⟨b, o, hab, hc⟩ := hat.at_ (by omega)
        exact ⟨b, o, hab, hc j _ hr, hat.ints _ (List.mem_of_getElem? hr)⟩
      have HC := Lib.hid hcells
      obtain ⟨hf, ds, hdw, hks⟩ := hrel.out
      have HF := Lib.hid hf; have HDW := Lib.hid hdw; have HKS := Lib.hid hks
      have i1 : (0 : Int) ≤ (j : Int) := by omega
      have i2 : (j : Int) < (n0 : Int) := by omega
      have i3 : decide ((j : Int) < 150) = true := decide_eq_true (by omega)
      obtain ⟨W, hW⟩ : ∃ W, W = wr.alloc (.cells #[.int .i64 0, .int .i64 0] 52) := ⟨_, rfl⟩
      obtain ⟨g, hgb⟩ : ∃ g, g = wr.heap.size := ⟨_, rfl⟩
      have hblk : Blk W g 2 (fun _ => .int .i64 0) := by
        refine ⟨by rw [hW, hgb]; simp, fun k hk => ?_, fun k hk => by rw [hW, hgb]; simp⟩
        rw [hW, hgb, World.cell?_alloc_at _ _ _ _ rfl]
        match k, hk with
        | 0, _ => rfl
        | 1, _ => rfl
      have hkw : AP w x y (fun k => k = g) ds ds W := by rw [hW, hgb]; exact (hks.alloc _).weak (fun k hk => .inr hk)
      have hgl : w.heap.size ≤ g := by rw [hgb]; exact hks.lat.size
      have HB := Lib.hid hblk; have HKW := Lib.hid hkw
      clear hj1 hr hcells hrel hf hdw hks hblk hkw HKS
      go_upto_block 2 with fail
      rw [← hgb, ← hW]
      clear hW hgb
      go_cut [10] from 23 to 180 (fun _ wx => Hid (AP w x y (fun k => k = g) ds ds wx ∧ Blk wx g 2 (fun k => .int .i64 (rz.getD k 0))))
      case first =>
        go_wp2_with fail
        go_loopg [10] 3 (fun f i wr => ∃ m : Nat, m ≤ rn ∧ m ≤ 2 ∧ i = .int .i64 m ∧ Hid (f + m = 3 ∧ AP w x y (fun k => k = g) ds ds wr ∧ Blk wr g 2 (fun k => .int .i64 (if k < m then rz.getD k 0 else 0))))
        case atStart => exact ⟨0, Nat.zero_le _, Nat.zero_le _, rfl, rfl, HKW.out, HB.out⟩
        case round =>
          obtain ⟨m, hm, hm2, rfl, hrel⟩ := hrel
          obtain ⟨hf, hks, hblk⟩ := hrel.out
          obtain ⟨b, o, rfl, cr, hin⟩ := HC.out wr hks.lat
          have HKS := Lib.hid hks; have HBK := Lib.hid hblk; have HF3 := Lib.hid hf; have HIN := Lib.hid hin
          clear hrel hf hks hblk hin
          by_cases hgo : m < rn ∧ m < 2
          · obtain ⟨hm3, hm4⟩ := hgo
            obtain ⟨b2, o2, rfl, hz⟩ := HIN.out.row.at_ (by omega)
            have cz := hz m hm3
            have cg := HBK.out.cell m hm4
            have fg := HBK.out.free m hm4
            obtain ⟨z, hzz⟩ : ∃ z, z = rz.getD m 0 := ⟨_, rfl⟩
            rw [← hzz] at cz
            have k1 : (0 : Int) ≤ (m : Int) := by omega
            have k2 : (m : Int) < (rn : Int) := by omega
            have k3 : (m : Int) < 2 := by omega
            have k4 : decide ((m : Int) < 2) = true := decide_eq_true k3
            have hrc := HIN.out.row.le
            have hrm := HIN.out.row.cap
            unfold maxLen at hrm
            have HZZ := Lib.hid hzz
            have hnew : Blk (wr.setCell ⟨g, m, none⟩ (.int .i64 z)) g 2 (fun k => .int .i64 (if k < m + 1 then rz.getD k 0 else 0)) := by
              refine (HBK.out.set hm4 (.int .i64 z)).congr fun k hk => ?_
              by_cases e : k = m
              · rw [if_pos e, if_pos (by omega), e, HZZ.out]
              · rw [if_neg e]
                by_cases e2 : k < m
                · rw [if_pos e2, if_pos (by omega)]
                · rw [if_neg e2, if_neg (by omega)]
            have HNEW := Lib.hid hnew
            have HK2 := Lib.hid (HKS.out.set (p := ⟨g, m, none⟩) rfl hgl (.int .i64 z))
            clear hz hzz hnew
            go_wp2
            go_roundg (gk - 1)
            case measure => go_light; have := HF3.out; omega
            case rel => go_light; exact ⟨m + 1, by omega, by omega, by go_num, by have := HF3.out; omega, HK2.out, HNEW.out⟩
          · have hfin : Blk wr g 2 (fun k => .int .i64 (rz.getD k 0)) := by
              refine HBK.out.congr fun k hk => ?_
              by_cases e : k < m
              · rw [if_pos e]
              · rw [if_neg e]
                have hl := HIN.out.len
                have : rz.length ≤ k := by omega
                rw [List.getD_eq_getElem?_getD, List.getElem?_eq_none this]; rfl
            have HFIN := Lib.hid hfin
            clear hfin
            by_cases hlt3 : m < rn
            · have hlt4 : ¬ m < 2 := by omega
              have k4 : decide ((m : Int) < 2) = false := decide_eq_false (by omega)
              clear hgo
              go_wp2
              go_meet
              case rel => exact ⟨HKS.out, HFIN.out⟩
            · clear hgo
              go_wp2
              go_meet
              case rel => exact ⟨HKS.out, HFIN.out⟩
      case rest =>
      obtain ⟨hks, hblk⟩ := hcut.out
      have HKS := Lib.hid hks; have HBK := Lib.hid hblk
      clear hcut hks hblk HKW HB HC
      generalize wc = w3 at *
      obtain ⟨z0, hz0⟩ : ∃ z, z = rz.getD 0 0 := ⟨_, rfl⟩
      obtain ⟨z1, hz1⟩ : ∃ z, z = rz.getD 1 0 := ⟨_, rfl⟩
      have hg0 := HBK.out.cell 0 (by omega)
      have hg1 := HBK.out.cell 1 (by omega)
      rw [← hz0] at hg0
      rw [← hz1] at hg1
      clear HBK hz0 hz1
      obtain ⟨IB, hIB⟩ : ∃ b : Bool, b = inA ds z1 := ⟨_, rfl⟩
      have HIB := Lib.hid hIB
      have HG0 := Lib.hid hg0; have HG1 := Lib.hid hg1
      clear hIB hg0 hg1
      go_upto_region 12 with fail
      go_cut [11] from 23 to 180 (fun b wx => b = .bool IB ∧ Hid (Lat w3 wx))
      case first => as_aux_lemma =>
        have hg1 := HG1.out
        obtain ⟨S, T, hoS, hoT, _, _, _, _⟩ := HKS.out.two
        obtain ⟨ya, yc, hcy, _, _⟩ := hoT.row
        obtain ⟨n, hn⟩ : ∃ n, n = ds.length := ⟨_, rfl⟩
        rw [← hn] at hcy
        have hib := HIB.out
        unfold inA at hib
        rw [← hn] at hib
        have HNB := Lib.hid hib
        clear hoS hoT hn hib
        by_cases q0 : 0 ≤ z1
        · have d1 : decide (0 ≤ z1) = true := decide_eq_true q0
          by_cases q1 : z1 < n
          · have d2 : decide (z1 < (n : Int)) = true := decide_eq_true q1
            have d3 : IB = true := by rw [HNB.out]; exact decide_eq_true ⟨q0, q1⟩
            have D3 := Lib.hid d3
            clear d3
            go_quiet (fail)
            go_wp2_with fail
            go_meet
            case rel => exact ⟨by rw [D3.out], Lat.drewN _ _⟩
          · have d2 : decide (z1 < (n : Int)) = false := decide_eq_false q1
            have d3 : IB = false := by rw [HNB.out]; exact decide_eq_false (fun h => q1 h.2)
            have D3 := Lib.hid d3
            clear d3
            go_quiet (fail)
            go_wp2_with fail
            go_meet
            case rel => exact ⟨by rw [D3.out], Lat.drewN _ _⟩
        · have d1 : decide (0 ≤ z1) = false := decide_eq_false q0
          have d3 : IB = false := by rw [HNB.out]; exact decide_eq_false (fun h => q0 h.1)
          have D3 := Lib.hid d3
          clear d3
          go_quiet (fail)
          go_wp2_with fail
          go_meet
          case rel => exact ⟨by rw [D3.out], Lat.drewN _ _⟩
      case rest =>
      obtain ⟨rfl, hl4⟩ := hcut
      have HK4 := Lib.hid (HKS.out.keep hl4.out)
      have hg0 := hl4.out.cell_at HG0.out
      have hg1 := hl4.out.cell_at HG1.out
      clear HKS HG0 HG1 hl4
      generalize wc = w4 at *
      have HG0 := Lib.hid hg0; have HG1 := Lib.hid hg1
      go_upto_block 4 with fail
      go_cut [7, 12, 13, 14, 15, 16, 17] from 23 to 180 (fun at_ _ told _ _ _ _ wx => ∃ q2 : Nat, told = .bool true ∧ at_ = .int .i64 q2 ∧ q2 ≤ n1 ∧ Hid (∃ ds2, DW ds2 ∧ AP w x y (fun _ => False) ds2 ds2 wx))
      case first =>
        have hcase : (z0 = 0 ∨ z0 = 1 ∨ z0 = 2) ∨ z0 = 3 ∨ z0 = 4 ∨ ((z0 == 0) = false ∧ (z0 == 1) = false ∧ (z0 == 2) = false ∧ (z0 == 3) = false ∧ (z0 == 4) = false) := by
          by_cases a : z0 = 0 ∨ z0 = 1 ∨ z0 = 2
          · exact .inl a
          by_cases b : z0 = 3
          · exact .inr (.inl b)
          by_cases c : z0 = 4
          · exact .inr (.inr (.inl c))
          · refine .inr (.inr (.inr ⟨?_, ?_, ?_, ?_, ?_⟩)) <;> rw [beq_eq_false_iff_ne] <;> omega
        have h3 := HDW.out
        have HD3 := Lib.hid h3
        clear HDW h3
        rcases hcase with (rfl | rfl | rfl) | rfl | rfl | ⟨b0, b1, b2, b3, b4⟩
        rotate_right
        focus
          cases IB with
          | true =>
            obtain ⟨k, rfl, hk⟩ := inA_yes HIB.out.symm
            obtain ⟨T, hoT, hXT, hnT⟩ := HK4.out.swap.one
            obtain ⟨yb, yc, hcy, _, _, _, hnc, hcm, hcell⟩ := row_cells hoT hk
            obtain ⟨V, hV⟩ : ∃ V, V = giV ds k := ⟨_, rfl⟩
            have hd : ds[k]? = some V := by
              rw [hV]; unfold giV; rw [if_pos HIB.out.symm, Int.toNat_natCast, List.getD_eq_getElem?_getD, List.getElem?_eq_getElem hk]; rfl
            obtain ⟨l0, l1⟩ := hcell k V hd
            obtain ⟨E, hE⟩ : ∃ E, E = snE ds V := ⟨_, rfl⟩
            have etw : twE ds k = E := by unfold twE; rw [if_pos HIB.out.symm, ← hV, hE]
            have etd : twD ds k = snD ds V := by unfold twD; rw [if_pos HIB.out.symm, ← hV]
            have hsd := fun W h => refAirSend T y ds V W h
            rw [← hE] at hsd
            obtain ⟨n, hn⟩ : ∃ n, n = ds.length := ⟨_, rfl⟩
            rw [← hn] at hcy hk hnc
            have hVm : V ∈ ds := List.mem_of_getElem? hd
            obtain ⟨s, t⟩ := V
            simp only at l0 l1 hsd
            unfold maxLen at hcm
            have k1 : (0 : Int) ≤ (k : Int) := by omega
            have k2 : (k : Int) < (n : Int) := by omega
            have hg1 := HG1.out
            have HSD := Lib.hid hsd; have HNT := Lib.hid hnT; have HTW := Lib.hid etw; have HTD := Lib.hid etd; have HOT := Lib.hid hoT; have HXT := Lib.hid hXT
            have hwd : DropAt s t := HD3.out.wf _ hVm
            have HWD := Lib.hid hwd
            have hg0 := HG0.out
            have HL0 := Lib.hid l0; have HL1' := Lib.hid l1; have HCY := Lib.hid hcy
            clear hV hd hcell hE etw etd hsd hnT hoT hXT hn hVm hwd l0 l1 hcy
            go_upto_region 17 with fail
            have hF : w4.drew.cell? ⟨g, 1, none⟩ = some (.int .i64 k) := hg1
            have hGG : w4.drew.cell? ⟨y, 0, none⟩ = some (.slice (some ⟨yb, 0, none⟩) n yc) ∧ w4.drew.cell? ⟨yb, k * 2, none⟩ = some (.int .i64 s) ∧ w4.drew.cell? ⟨yb, k * 2 + 1, none⟩ = some (.string t) := ⟨HCY.out, HL0.out, HL1'.out⟩
            refine wp_region_gate (fun w' => w'.cell? ⟨g, 1, none⟩ = some (.int .i64 k)) (fun w' => w'.cell? ⟨y, 0, none⟩ = some (.slice (some ⟨yb, 0, none⟩) n yc) ∧ w'.cell? ⟨yb, k * 2, none⟩ = some (.int .i64 s) ∧ w'.cell? ⟨yb, k * 2 + 1, none⟩ = some (.string t)) 9 (by kernel_rfl) ?_
            have HOT6 := Lib.hid (HOT.out.keep (Lat.drew w4))
            have hdr : Lat w4 w4.drew := Lat.drew w4
            have HDR := Lib.hid hdr
            have HK6 := Lib.hid (HK4.out.keep hdr)
            have HNT6 : Hid (∀ (d1' : List Dr) (wy : World), AirStep T y d1' w4.drew wy → AP w y x (fun k => k = g) d1' ds wy) := Lib.hid (fun d1' wy h => HNT.out d1' wy (AirStep.ahead HDR.out h))
            clear hdr
            generalize w4.drew = w5 at *
            refine gate_takeF (i := 0) (v := ?_) rfl (by kernel_rfl) (by kernel_rfl) (by kernel_rfl) (fun _ _ _ h => h) (by decide) ⟨hF, fun _ => hGG⟩ (Or.inl ⟨by rfl, ?_⟩) ?_
            rotate_left
            · intro wq hSw; go_simp; rfl
            simp only [Act.put]
            refine gate_takeF (i := 1) (v := ?_) rfl (by kernel_rfl) (by kernel_rfl) (by kernel_rfl) (fun _ _ _ h => h) (by decide) ⟨hF, fun _ => hGG⟩ (Or.inl ⟨by rfl, ?_⟩) ?_
            rotate_left
            · intro wq hSw; go_simp; rfl
            simp only [Act.put]
            refine gate_takeF (i := 2) (v := ?_) rfl (by kernel_rfl) (by kernel_rfl) (by kernel_rfl) (fun _ _ _ h => h) (by decide) ⟨hF, fun _ => hGG⟩ (Or.inl ⟨by rfl, ?_⟩) ?_
            rotate_left
            · intro wq hSw; go_simp; rfl
            simp only [Act.put]
            refine gate_takeF (i := 3) (v := ?_) rfl (by kernel_rfl) (by kernel_rfl) (by kernel_rfl) (fun _ _ _ h => h) (by decide) ⟨hF, fun _ => hGG⟩ (Or.inl ⟨by rfl, ?_⟩) ?_
            rotate_left
            · intro wq hSw; go_simp; rfl
            simp only [Act.put]
            refine gate_takeC (i := 4) [7, 8] (v := ?_) rfl (by kernel_rfl) (by kernel_rfl) (by kernel_rfl) (fun _ _ _ h => h) (by decide) (by kernel_rfl) (by kernel_rfl) ⟨hF, fun _ => hGG⟩ (Or.inl ⟨by rfl, ?_⟩) ?_
            rotate_left
            · intro wq hSw; obtain ⟨s0, s1, s2, s3⟩ := hSw; go_simp; rfl
            simp only [Act.put]
            refine gate_takeF (i := 5) (v := ?_) rfl (by kernel_rfl) (by kernel_rfl) (by kernel_rfl) (fun _ _ _ h => h) (by decide) ⟨hF, fun _ => hGG⟩ (Or.inl ⟨by rfl, ?_⟩) ?_
            rotate_left
            · intro wq hSw; go_simp; rfl
            simp only [Act.put]
            refine gate_takeF (i := 6) (v := ?_) rfl (by kernel_rfl) (by kernel_rfl) (by kernel_rfl) (fun _ _ _ h => h) (by decide) ⟨hF, fun _ => hGG⟩ (Or.inl ⟨by rfl, ?_⟩) ?_
            rotate_left
            · intro wq hSw; go_simp; rfl
            simp only [Act.put]
            refine gate_takeF (i := 7) (v := ?_) rfl (by kernel_rfl) (by kernel_rfl) (by kernel_rfl) (fun _ _ _ h => h) (by decide) ⟨hF, fun _ => hGG⟩ (Or.inl ⟨by rfl, ?_⟩) ?_
            rotate_left
            · intro wq hSw; go_simp; rfl
            simp only [Act.put]
            refine gate_takeG (i := 8) (v := ?_) rfl (by kernel_rfl) (by kernel_rfl) (by kernel_rfl) (fun _ _ _ h => h) (by decide) (by kernel_rfl) (by kernel_rfl) ⟨hF, fun _ => hGG⟩ (Or.inl ⟨by rfl, ?_⟩) ?_
            rotate_left
            · intro wq hSw; obtain ⟨s0, s1, s2, s3⟩ := hSw; go_simp; rfl
            simp only [Act.put]
            refine gate_one (i := 9) (by kernel_rfl) rfl (fun K hK => ?_)
            go_simp
            refine (HSD.out _ HOT6.out).mono ?_
            rintro e w6 ⟨rfl, hst⟩
            have hF6 : w6.cell? ⟨g, 1, none⟩ = some (.int .i64 k) := hst.fr.cell_at hF (HXT.out _ rfl)
            have HK7 := Lib.hid (HNT6.out _ _ hst).swap
            refine hK _ _ (FG.past (by kernel_rfl) hF6) ?_
            clear hK K hF hGG hst HNT6 HOT6
            refine gate_takeF (i := 10) (v := ?_) rfl (by kernel_rfl) (by kernel_rfl) (by kernel_rfl) (fun _ _ _ h => h) (by decide) (FG.past (by kernel_rfl) hF6) (Or.inl ⟨by rfl, ?_⟩) ?_
            rotate_left
            · intro wq hSw; go_simp; rfl
            simp only [Act.put]
            refine gate_done (by kernel_rfl) ?_ _
            clear hg1
            simp only [List.getElem_toArray, List.getElem_cons_succ, List.getElem_cons_zero]
            go_simp
            obtain ⟨S, hoS, _, hnS⟩ := HK7.out.one
            have htw := air_twice S x ds k w6 hoS
            rw [HTW.out, HTD.out] at htw
            have HTW6 := Lib.hid htw; have HNS := Lib.hid hnS
            clear hoS hnS htw
            go_wp2_with fail
            refine HTW6.out.mono ?_
            rintro e w7 ⟨rfl, hst⟩
            have HK8 := Lib.hid (HNS.out _ _ hst)
            clear hst HNS HTW6
            go_wp2_with fail
            refine (sameErr_any E w7 (HG.out.keep HK8.out.lat)).mono ?_
            rintro e w8 ⟨rfl, hb8⟩
            have HK9 := Lib.hid (HK8.out.keep hb8)
            clear hb8
            go_wp2_with fail
            go_meet
            case rel => exact ⟨q, rfl, rfl, hq, _, HD3.out.send (d := ⟨s, t⟩) HWD.out, HK9.out.weak (fun k e => e.elim)⟩
          | false => as_aux_lemma =>
            have e1 : twE ds z1 = 1 := by unfold twE; rw [if_neg (by rw [← HIB.out]; simp)]
            have e2 : twD ds z1 = ds := by unfold twD; rw [if_neg (by rw [← HIB.out]; simp)]
            obtain ⟨S, hoS, _, hnS⟩ := HK4.out.one
            have htw := air_twice S x ds z1 w4 hoS
            rw [e1, e2] at htw
            have HTW := Lib.hid htw; have HNS := Lib.hid hnS
            have hg1 := HG1.out
            have hg0 := HG0.out
            clear e1 e2 hoS hnS htw
            go_wp2_with fail
            refine HTW.out.mono ?_
            rintro e w5 ⟨rfl, hst⟩
            have HK5 := Lib.hid (HNS.out _ _ hst)
            clear hst HNS HTW
            go_wp2_with fail
            refine (sameErr_any 1 w5 (HG.out.keep HK5.out.lat)).mono ?_
            rintro e w6 ⟨rfl, hb6⟩
            have HK6 := Lib.hid (HK5.out.keep hb6)
            clear hb6
            go_wp2_with fail
            go_meet
            case rel => exact ⟨q, rfl, rfl, hq, ds, HD3.out, HK6.out.weak (fun k e => e.elim)⟩
        rotate_right
        focus
          have e1 : giE ds z1 = if IB = true then 0 else 1 := by unfold giE; rw [← HIB.out]
          have e2 : giD ds z1 = if IB = true then ds.eraseIdx z1.toNat else ds := by unfold giD; rw [← HIB.out]
          cases IB with
          | true => as_aux_lemma =>
            obtain ⟨k, rfl, hk⟩ := inA_yes HIB.out.symm
            rw [if_pos rfl] at e1 e2
            rw [Int.toNat_natCast] at e2
            obtain ⟨T, hoT, hXT, hnT⟩ := HK4.out.swap.one
            have hout := refAirOut T y ds k w4 hoT hk (by have := HD3.out.len; omega)
            have HOUT := Lib.hid hout; have HNT := Lib.hid hnT; have HXT := Lib.hid hXT; have E1 := Lib.hid e1; have E2 := Lib.hid e2
            have hg1 := HG1.out
            have hg0 := HG0.out
            clear hoT hXT hnT hout e1 e2 hk
            go_wp2_with fail
            refine HOUT.out.mono ?_
            rintro e w5 ⟨⟨v, rfl⟩, hst⟩
            have HK5 := Lib.hid (HNT.out _ _ hst).swap
            have hg1 : w5.cell? ⟨g, 1, none⟩ = some (.int .i64 k) := hst.fr.cell_at HG1.out (HXT.out _ rfl)
            obtain ⟨S, hoS, _, hnS⟩ := HK5.out.one
            have hls := air_lose S x ds k w5 hoS (by have := HD3.out.len; omega)
            rw [E1.out, E2.out] at hls
            have HLS := Lib.hid hls; have HNS := Lib.hid hnS
            clear hst hoS hnS hls HOUT HNT hg0
            go_wp2_with fail
            refine HLS.out.mono ?_
            rintro e w6 ⟨rfl, hst⟩
            have HK6 := Lib.hid (HNS.out _ _ hst)
            clear hst HNS HLS
            go_wp2_with fail
            refine (sameErr_any 0 w6 (HG.out.keep HK6.out.lat)).mono ?_
            rintro e w7 ⟨rfl, hb7⟩
            have HK7 := Lib.hid (HK6.out.keep hb7)
            clear hb7
            go_wp2_with fail
            go_meet
            case rel => exact ⟨q, rfl, rfl, hq, _, (by have h := HD3.out.give (k : Int); rw [E2.out] at h; exact h), HK7.out.weak (fun k e => e.elim)⟩
          | false => as_aux_lemma =>
            rw [if_neg (by simp)] at e1 e2
            obtain ⟨S, hoS, _, hnS⟩ := HK4.out.one
            have hls := air_lose S x ds z1 w4 hoS (by have := HD3.out.len; omega)
            rw [e1, e2] at hls
            have HLS := Lib.hid hls; have HNS := Lib.hid hnS
            have hg1 := HG1.out
            have hg0 := HG0.out
            clear e1 e2 hoS hnS hls
            go_wp2_with fail
            refine HLS.out.mono ?_
            rintro e w5 ⟨rfl, hst⟩
            have HK5 := Lib.hid (HNS.out _ _ hst)
            clear hst HNS HLS
            go_wp2_with fail
            refine (sameErr_any 1 w5 (HG.out.keep HK5.out.lat)).mono ?_
            rintro e w6 ⟨rfl, hb6⟩
            have HK6 := Lib.hid (HK5.out.keep hb6)
            clear hb6
            go_wp2_with fail
            go_meet
            case rel => exact ⟨q, rfl, rfl, hq, ds, HD3.out, HK6.out.weak (fun k e => e.elim)⟩
        rotate_right
        focus
          have e1 : giE ds z1 = if IB = true then 0 else 1 := by unfold giE; rw [← HIB.out]
          have e2 : giD ds z1 = if IB = true then ds.eraseIdx z1.toNat else ds := by unfold giD; rw [← HIB.out]
          have e3 : giV ds z1 = if IB = true then ds.getD z1.toNat ⟨0, .empty⟩ else ⟨0, .empty⟩ := by unfold giV; rw [← HIB.out]
          have hap5 := HK4.out.alloc (.cells #[.int .i64 0, .string .empty] 24)
          have hb5 : Lat w4 (w4.alloc (.cells #[.int .i64 0, .string .empty] 24)) := Lat.alloc _ _
          obtain ⟨h, hh⟩ : ∃ h, h = w4.heap.size := ⟨_, rfl⟩
          have hwh : w.heap.size ≤ h := by rw [hh]; exact HK4.out.lat.size
          have HAP5 := Lib.hid hap5; have HB5 := Lib.hid hb5
          clear hap5 hb5
          cases IB with
          | true =>
            obtain ⟨k, rfl, hk⟩ := inA_yes HIB.out.symm
            rw [if_pos rfl] at e1 e2 e3
            rw [Int.toNat_natCast] at e2 e3
            obtain ⟨_, T0, _, hoT0, _, _, _, _⟩ := HK4.out.two
            obtain ⟨yb, yc, hcy, _, _, _, hnc, hcm, hcell⟩ := row_cells hoT0 hk
            obtain ⟨V, hV⟩ : ∃ V, V = ds.getD k ⟨0, .empty⟩ := ⟨_, rfl⟩
            have hd : ds[k]? = some V := by rw [hV, List.getD_eq_getElem?_getD, List.getElem?_eq_getElem hk]; rfl
            obtain ⟨l0, l1⟩ := hcell k V hd
            rw [← hV] at e3
            obtain ⟨n, hn⟩ : ∃ n, n = ds.length := ⟨_, rfl⟩
            rw [← hn] at hcy hnc
            have k2 : (k : Int) < (n : Int) := by omega
            obtain ⟨s, t⟩ := V
            simp only at l0 l1
            unfold maxLen at hcm
            have k1 : (0 : Int) ≤ (k : Int) := by omega
            obtain ⟨W5, hW5⟩ : ∃ W, W = w4.alloc (.cells #[.int .i64 0, .string { data := #[] }] 24) := ⟨_, rfl⟩
            have hGG : W5.drew.cell? ⟨y, 0, none⟩ = some (.slice (some ⟨yb, 0, none⟩) n yc) ∧ W5.drew.cell? ⟨g, 1, none⟩ = some (.int .i64 k) ∧ W5.drew.cell? ⟨yb, k * 2, none⟩ = some (.int .i64 s) ∧ W5.drew.cell? ⟨yb, k * 2 + 1, none⟩ = some (.string t) := by
              rw [hW5]; exact ⟨HB5.out.cell_at hcy, HB5.out.cell_at HG1.out, HB5.out.cell_at l0, HB5.out.cell_at l1⟩
            have hz : (W5.drew.cell? ⟨h, 0, none⟩ = some (.int .i64 0) ∧ W5.drew.cell? ⟨h, 1, none⟩ = some (.string .empty)) ∧ W5.drew.frozen? ⟨h, 0, none⟩ = false ∧ W5.drew.frozen? ⟨h, 1, none⟩ = false := by
              rw [hW5, hh]; exact ⟨⟨by simp, by simp; rfl⟩, by simp, by simp⟩
            have hap6 : AP w x y (fun k => k = g ∨ k = w4.heap.size) ds ds W5.drew := by rw [hW5]; exact HAP5.out.keep (Lat.drew _)
            have HGG := Lib.hid hGG; have HZ := Lib.hid hz; have HAP6 := Lib.hid hap6; have HH := Lib.hid hh; have E1 := Lib.hid e1; have E2 := Lib.hid e2; have E3 := Lib.hid e3; have HKL := Lib.hid hk
            clear hGG hz hap6 hh e1 e2 e3 hV hd hcell hoT0 hn hcy l0 l1 hk
            have hg0 := HG0.out
            go_upto_region 31 with fail
            rw [← HH.out, ← hW5]
            clear hW5 hg0
            refine wp_region_gate (fun _ => True) (fun w' => w'.cell? ⟨y, 0, none⟩ = some (.slice (some ⟨yb, 0, none⟩) n yc) ∧ w'.cell? ⟨g, 1, none⟩ = some (.int .i64 k) ∧ w'.cell? ⟨yb, k * 2, none⟩ = some (.int .i64 s) ∧ w'.cell? ⟨yb, k * 2 + 1, none⟩ = some (.string t)) 8 (by kernel_rfl) ?_
            have hGG := HGG.out
            generalize W5.drew = W6 at *
            refine gate_takeF (i := 0) (v := ?_) rfl (by kernel_rfl) (by kernel_rfl) (by kernel_rfl) (fun _ _ _ h => h) (by decide) ⟨trivial, fun _ => hGG⟩ (Or.inl ⟨by rfl, ?_⟩) ?_
            rotate_left
            · intro wq hSw; go_simp; rfl
            simp only [Act.put]
            refine gate_takeF (i := 1) (v := ?_) rfl (by kernel_rfl) (by kernel_rfl) (by kernel_rfl) (fun _ _ _ h => h) (by decide) ⟨trivial, fun _ => hGG⟩ (Or.inl ⟨by rfl, ?_⟩) ?_
            rotate_left
            · intro wq hSw; go_simp; rfl
            simp only [Act.put]
            refine gate_takeF (i := 2) (v := ?_) rfl (by kernel_rfl) (by kernel_rfl) (by kernel_rfl) (fun _ _ _ h => h) (by decide) ⟨trivial, fun _ => hGG⟩ (Or.inl ⟨by rfl, ?_⟩) ?_
            rotate_left
            · intro wq hSw; go_simp; rfl
            simp only [Act.put]
            refine gate_takeG (i := 3) (v := ?_) rfl (by kernel_rfl) (by kernel_rfl) (by kernel_rfl) (fun _ _ _ h => h) (by decide) (by kernel_rfl) (by kernel_rfl) ⟨trivial, fun _ => hGG⟩ (Or.inl ⟨by rfl, ?_⟩) ?_
            rotate_left
            · intro wq hSw; obtain ⟨_, s0, s1, s2, s3⟩ := hSw; go_simp; rfl
            simp only [Act.put]
            refine gate_takeF (i := 4) (v := ?_) rfl (by kernel_rfl) (by kernel_rfl) (by kernel_rfl) (fun _ _ _ h => h) (by decide) ⟨trivial, fun _ => hGG⟩ (Or.inl ⟨by rfl, ?_⟩) ?_
            rotate_left
            · intro wq hSw; go_simp; rfl
            simp only [Act.put]
            refine gate_takeG (i := 5) (v := ?_) rfl (by kernel_rfl) (by kernel_rfl) (by kernel_rfl) (fun _ _ _ h => h) (by decide) (by kernel_rfl) (by kernel_rfl) ⟨trivial, fun _ => hGG⟩ (Or.inl ⟨by rfl, ?_⟩) ?_
            rotate_left
            · intro wq hSw; obtain ⟨_, s0, s1, s2, s3⟩ := hSw; go_simp; rfl
            simp only [Act.put]
            refine gate_takeF (i := 6) (v := ?_) rfl (by kernel_rfl) (by kernel_rfl) (by kernel_rfl) (fun _ _ _ h => h) (by decide) ⟨trivial, fun _ => hGG⟩ (Or.inl ⟨by rfl, ?_⟩) ?_
            rotate_left
            · intro wq hSw; go_simp; rfl
            simp only [Act.put]
            refine gate_takeG (i := 7) (v := ?_) rfl (by kernel_rfl) (by kernel_rfl) (by kernel_rfl) (fun _ _ _ h => h) (by decide) (by kernel_rfl) (by kernel_rfl) ⟨trivial, fun _ => hGG⟩ (Or.inl ⟨by rfl, ?_⟩) ?_
            rotate_left
            · intro wq hSw; obtain ⟨_, s0, s1, s2, s3⟩ := hSw; go_simp; rfl
            simp only [Act.put]
            have zc0 := HZ.out.1.1
            have zc1 := HZ.out.1.2
            have zf0 := HZ.out.2.1
            have zf1 := HZ.out.2.2
            refine gate_one (i := 8) (by kernel_rfl) rfl (fun K hK => ?_)
            go_simp
            refine hK _ _ (FG.past (by kernel_rfl) trivial) ?_
            clear hK K zc0 zc1 zf0 zf1
            refine gate_done (by kernel_rfl) ?_ _
            have hngh : g ≠ h := fun e => by
              have h1 := HH.out
              have h2 := World.block_lt_of_cell? _ _ HG1.out
              simp only at h2
              omega
            have hap7 : AP w x y (fun k => k = g ∨ k = w4.heap.size) ds ds ((W6.setCell ⟨h, 0, none⟩ (.int .i64 s)).setCell ⟨h, 1, none⟩ (.string t)) := (HAP6.out.set (p := ⟨h, 0, none⟩) (.inr HH.out) hwh _).set (p := ⟨h, 1, none⟩) (.inr HH.out) hwh _
            have q2s := two_set' HZ.out.1.1 HZ.out.1.2 (.int .i64 s) (.string t)
            have hg7 : ((W6.setCell ⟨h, 0, none⟩ (.int .i64 s)).setCell ⟨h, 1, none⟩ (.string t)).cell? ⟨g, 1, none⟩ = some (.int .i64 k) := by
              rw [World.cell?_setCell_other _ _ _ _ (fun e => hngh (by injection e with e _ _; exact e.symm)), World.cell?_setCell_other _ _ _ _ (fun e => hngh (by injection e with e _ _; exact e.symm))]; exact hGG.2.1
            generalize (W6.setCell ⟨h, 0, none⟩ (.int .i64 s)).setCell ⟨h, 1, none⟩ (.string t) = W7 at *
            have HAP7 := Lib.hid hap7; have HQ := Lib.hid q2s; have HG7 := Lib.hid hg7
            clear hGG HGG HZ HAP6 HAP5 hap7 q2s hngh
            obtain ⟨T, hoT, hXT, hnT⟩ := HAP7.out.swap.one
            have hout := refAirOut T y ds k W7 hoT HKL.out (by have := HD3.out.len; omega)
            have HOUT := Lib.hid hout; have HXT := Lib.hid hXT; have HNT := Lib.hid hnT
            clear hoT hXT hnT hout
            try go_simp
            go_wp2_with fail
            refine HOUT.out.mono ?_
            rintro e w8 ⟨⟨v, rfl⟩, hst⟩
            have HK8 := Lib.hid (HNT.out _ _ hst).swap
            have hg1 : w8.cell? ⟨g, 1, none⟩ = some (.int .i64 k) := hst.fr.cell_at HG7.out (HXT.out _ (.inl rfl))
            have w0 : w8.cell? ⟨h, 0, none⟩ = some (.int .i64 s) := hst.fr.cell_at HQ.out.1 (HXT.out _ (.inr HH.out))
            have w1' : w8.cell? ⟨h, 1, none⟩ = some (.string t) := hst.fr.cell_at HQ.out.2 (HXT.out _ (.inr HH.out))
            obtain ⟨S, hoS, hXS, hnS⟩ := HK8.out.one
            have hgi := air_give S x ds k w8 hoS (by have := HD3.out.len; omega)
            rw [E1.out, E2.out, E3.out, Dr.v] at hgi
            have HGI := Lib.hid hgi; have HNS := Lib.hid hnS; have HXS := Lib.hid hXS; have HW0 := Lib.hid w0; have HW1 := Lib.hid w1'
            clear hst hoS hnS hXS hgi hg7 w0 w1' HQ HXT HNT HOUT
            go_wp2_with fail
            refine HGI.out.mono ?_
            rintro e w9 ⟨rfl, hst⟩
            have HK9 := Lib.hid (HNS.out _ _ hst)
            have w0 : w9.cell? ⟨h, 0, none⟩ = some (.int .i64 s) := hst.fr.cell_at HW0.out (HXS.out _ (.inr HH.out))
            have w1' : w9.cell? ⟨h, 1, none⟩ = some (.string t) := hst.fr.cell_at HW1.out (HXS.out _ (.inr HH.out))
            have b10 := Lat.alloc w9 (.cells #[.int .i64 s, .string t] 24)
            have v0 := b10.cell_at w0
            have v1 := b10.cell_at w1'
            have HK10 := Lib.hid (HK9.out.keep b10)
            have HV0 := Lib.hid v0; have HV1 := Lib.hid v1
            clear hst hg1 w0 w1' b10 v0 v1 HGI HNS HXS
            go_wp2_with fail
            refine (sameErr_any 0 _ (HG.out.keep HK10.out.lat)).mono ?_
            rintro e w11 ⟨rfl, hb11⟩
            have HK11 := Lib.hid (HK10.out.keep hb11)
            have u0 := hb11.cell_at HV0.out
            have u1 := hb11.cell_at HV1.out
            have t0 : w11.cell? ⟨w9.heap.size, 0, none⟩ = some (.int .i64 s) := hb11.cell_at (by simp)
            have t1 : w11.cell? ⟨w9.heap.size, 1, none⟩ = some (.string t) := hb11.cell_at (by simp)
            clear hb11 HV0 HV1
            go_wp2_with fail
            go_meet
            case rel => exact ⟨q, rfl, rfl, hq, _, (by have h := HD3.out.give (k : Int); rw [E2.out] at h; exact h), HK11.out.weak (fun k e => e.elim)⟩
          | false => as_aux_lemma =>
            rw [if_neg (by simp)] at e1 e2 e3
            obtain ⟨S, hoS, hXS, hnS⟩ := HAP5.out.one
            have hgi := air_give S x ds z1 _ hoS (by have := HD3.out.len; omega)
            rw [e1, e2, e3, Dr.v] at hgi
            have HGI := Lib.hid hgi; have HNS := Lib.hid hnS; have HXS := Lib.hid hXS; have HH := Lib.hid hh
            have hlg : g < w4.heap.size := World.block_lt_of_cell? _ _ HG1.out
            have hg1 : (w4.alloc (.cells #[.int .i64 0, .string { data := #[] }] 24)).cell? ⟨g, 1, none⟩ = some (.int .i64 z1) := HB5.out.cell_at HG1.out
            have hg0 : (w4.alloc (.cells #[.int .i64 0, .string { data := #[] }] 24)).cell? ⟨g, 0, none⟩ = some (.int .i64 3) := HB5.out.cell_at HG0.out
            have z0c : (w4.alloc (.cells #[.int .i64 0, .string .empty] 24)).cell? ⟨h, 0, none⟩ = some (.int .i64 0) ∧ (w4.alloc (.cells #[.int .i64 0, .string .empty] 24)).cell? ⟨h, 1, none⟩ = some (.string .empty) := by rw [hh]; exact ⟨by simp, by simp⟩
            have HZ := Lib.hid z0c
            clear e1 e2 e3 hoS hXS hnS hgi hh z0c
            go_wp2_with fail
            refine HGI.out.mono ?_
            rintro e w9 ⟨rfl, hst⟩
            have HK9 := Lib.hid (HNS.out _ _ hst)
            have w0 : w9.cell? ⟨h, 0, none⟩ = some (.int .i64 0) := hst.fr.cell_at HZ.out.1 (HXS.out _ (.inr HH.out))
            have w1' : w9.cell? ⟨h, 1, none⟩ = some (.string .empty) := hst.fr.cell_at HZ.out.2 (HXS.out _ (.inr HH.out))
            have b10 := Lat.alloc w9 (.cells #[.int .i64 0, .string .empty] 24)
            have v0 := b10.cell_at w0
            have v1 := b10.cell_at w1'
            rw [HH.out] at v0 v1
            have HK10 := Lib.hid (HK9.out.keep b10)
            have HV0 := Lib.hid v0; have HV1 := Lib.hid v1
            clear hst hg1 hg0 w0 w1' b10 v0 v1 HGI HNS HXS HZ
            go_wp2_with fail
            refine (sameErr_any 1 _ (HG.out.keep HK10.out.lat)).mono ?_
            rintro e w11 ⟨rfl, hb11⟩
            have HK11 := Lib.hid (HK10.out.keep hb11)
            have u0 := hb11.cell_at HV0.out
            have u1 := hb11.cell_at HV1.out
            have t0 : w11.cell? ⟨w9.heap.size, 0, none⟩ = some (.int .i64 0) := hb11.cell_at (by simp)
            have t1 : w11.cell? ⟨w9.heap.size, 1, none⟩ = some (.string .empty) := hb11.cell_at (by simp)
            clear hb11 HV0 HV1
            go_wp2_with fail
            go_meet
            case rel => exact ⟨q, rfl, rfl, hq, ds, HD3.out, HK11.out.weak (fun k e => e.elim)⟩
        all_goals
          by_cases hqn : q < n1
          · as_aux_lemma =>
            have hq1 : q < ls.length := by rw [HL1.out]; exact hqn
            obtain ⟨⟨s, t⟩, hd⟩ : ∃ d, ls[q]? = some d := ⟨_, List.getElem?_eq_getElem hq1⟩
            have hwd : DropAt s t := H1.out.wf _ (List.mem_of_getElem? hd)
            obtain ⟨lb, lo, rfl, hlc⟩ := (H1.out.keep HK4.out.lat).at_ (by omega)
            obtain ⟨l0, l1⟩ := hlc q _ hd
            simp only at l0 l1
            have hlb : lb < w4.heap.size := World.block_lt_of_cell? _ _ l0
            have hap5 := HK4.out.alloc (.cells #[.int .i64 s, .string t] 24)
            obtain ⟨T, hoT, hXT, hnT⟩ := hap5.swap.one
            have hsd := refAirSend T y ds ⟨s, t⟩ _ hoT
            obtain ⟨E, hE⟩ : ∃ E, E = snE ds ⟨s, t⟩ := ⟨_, rfl⟩
            simp only at hsd
            rw [← hE] at hsd
            have HSD := Lib.hid hsd; have HE := Lib.hid hE; have HXT := Lib.hid hXT; have HNT := Lib.hid hnT; have HWD := Lib.hid hwd
            have k1 : (0 : Int) ≤ (q : Int) := by omega
            have k2 : (q : Int) < (n1 : Int) := by omega
            obtain ⟨h, hh⟩ : ∃ h, h = w4.heap.size := ⟨_, rfl⟩
            have z0c : (w4.alloc (.cells #[.int .i64 s, .string t] 24)).cell? ⟨h, 0, none⟩ = some (.int .i64 s) ∧ (w4.alloc (.cells #[.int .i64 s, .string t] 24)).cell? ⟨h, 1, none⟩ = some (.string t) := by rw [hh]; exact ⟨by simp, by simp⟩
            have HZ := Lib.hid z0c
            have HH := Lib.hid hh
            clear hq1 hd hwd hlc hap5 hoT hXT hnT hsd hE z0c
            have hg0 := HG0.out
            go_wp2_with fail
            refine HSD.out.mono ?_
            rintro e w5 ⟨rfl, hst⟩
            have hap6 := (HNT.out _ _ hst).swap
            have m0 : w5.cell? ⟨h, 0, none⟩ = some (.int .i64 s) := hst.fr.cell_at HZ.out.1 (HXT.out _ (.inr hh))
            have m1 : w5.cell? ⟨h, 1, none⟩ = some (.string t) := hst.fr.cell_at HZ.out.2 (HXT.out _ (.inr hh))
            obtain ⟨S, hoS, hXS, hnS⟩ := hap6.one
            have hsd2 := air_send S x ds ⟨s, t⟩ w5 hoS
            simp only at hsd2
            rw [← HE.out] at hsd2
            have HSD2 := Lib.hid hsd2; have HNS := Lib.hid hnS
            rw [hh] at m0 m1
            clear hst hap6 hoS hXS hnS hsd2 HSD HNT HXT HZ hh hg0 l0 l1 hlb
            go_wp2_with fail
            refine HSD2.out.mono ?_
            rintro e w6 ⟨rfl, hst6⟩
            have HK7 := Lib.hid (HNS.out _ _ hst6)
            clear hst6 m0 m1 HNS HSD2
            go_wp2_with fail
            refine (sameErr_any E w6 (HG.out.keep HK7.out.lat)).mono ?_
            rintro e w7 ⟨rfl, hb7⟩
            have HK8 := Lib.hid (HK7.out.keep hb7)
            clear hb7 HK7
            go_wp2_with fail
            go_meet
            case rel => exact ⟨q + 1, rfl, by go_num, by omega, _, HD3.out.send HWD.out, HK8.out.weak (fun k e => e.elim)⟩
          · as_aux_lemma =>
            have hqn2 : decide (q < n1) = false := decide_eq_false hqn
            have hap5 := HK4.out.alloc (.cells #[.int .i64 0, .string .empty] 24)
            obtain ⟨T, hoT, hXT, hnT⟩ := hap5.swap.one
            have hsd := refAirSend T y ds ⟨0, .empty⟩ _ hoT
            obtain ⟨E, hE⟩ : ∃ E, E = snE ds ⟨0, .empty⟩ := ⟨_, rfl⟩
            simp only at hsd
            rw [← hE] at hsd
            have HSD := Lib.hid hsd; have HE := Lib.hid hE; have HXT := Lib.hid hXT; have HNT := Lib.hid hnT
            obtain ⟨h, hh⟩ : ∃ h, h = w4.heap.size := ⟨_, rfl⟩
            have z0c : (w4.alloc (.cells #[.int .i64 0, .string .empty] 24)).cell? ⟨h, 0, none⟩ = some (.int .i64 0) ∧ (w4.alloc (.cells #[.int .i64 0, .string .empty] 24)).cell? ⟨h, 1, none⟩ = some (.string .empty) := by rw [hh]; exact ⟨by simp, by simp⟩
            have HZ := Lib.hid z0c
            have HH := Lib.hid hh
            clear hap5 hoT hXT hnT hsd hE z0c
            have hg0 := HG0.out
            go_wp2_with fail
            refine HSD.out.mono ?_
            rintro e w5 ⟨rfl, hst⟩
            have hap6 := (HNT.out _ _ hst).swap
            have m0 : w5.cell? ⟨h, 0, none⟩ = some (.int .i64 0) := hst.fr.cell_at HZ.out.1 (HXT.out _ (.inr hh))
            have m1 : w5.cell? ⟨h, 1, none⟩ = some (.string .empty) := hst.fr.cell_at HZ.out.2 (HXT.out _ (.inr hh))
            obtain ⟨S, hoS, hXS, hnS⟩ := hap6.one
            have hsd2 := air_send S x ds ⟨0, .empty⟩ w5 hoS
            simp only at hsd2
            rw [← HE.out] at hsd2
            have HSD2 := Lib.hid hsd2; have HNS := Lib.hid hnS
            rw [hh] at m0 m1
            clear hst hap6 hoS hXS hnS hsd2 HSD HNT HXT HZ hh hg0
            go_wp2_with fail
            refine HSD2.out.mono ?_
            rintro e w6 ⟨rfl, hst6⟩
            have HK7 := Lib.hid (HNS.out _ _ hst6)
            clear hst6 m0 m1 HNS HSD2
            go_wp2_with fail
            refine (sameErr_any E w6 (HG.out.keep HK7.out.lat)).mono ?_
            rintro e w7 ⟨rfl, hb7⟩
            have HK8 := Lib.hid (HK7.out.keep hb7)
            clear hb7 HK7
            go_wp2_with fail
            go_meet
            case rel => exact ⟨q, rfl, rfl, hq, _, HD3.out.send drop_zero, HK8.out.weak (fun k e => e.elim)⟩
      case rest =>
      obtain ⟨q2, rfl, rfl, hq2, hc⟩ := hcut
      obtain ⟨ds2, hdw2, hks2⟩ := hc.out
      obtain ⟨n, hn⟩ : ∃ n, n = ds2.length := ⟨_, rfl⟩
      have hdl := hdw2.len
      rw [← hn] at hdl
      have HDW2 := Lib.hid hdw2; have HK5 := Lib.hid hks2; have HN := Lib.hid hn
      obtain ⟨S, T, hoS, hoT, _, _, _, _⟩ := hks2.two
      obtain ⟨ya, yc, hcy, hoy, _⟩ := hoT.row
      rw [← hn] at hcy hoy
      obtain ⟨ya', yc', hv, hry⟩ := OwnR.slice hoy (show (ds2.map Dr.row).length = n by rw [List.length_map, hn])
      injection hv with e1 e2 e3
      subst e1
      subst e3
      have HRY := Lib.hid hry; have HCY := Lib.hid hcy; have HOS := Lib.hid hoS
      have hwf : ∀ d ∈ ds2, I64 d.s := fun d hd => (hdw2.wf d hd).s
      have HWF := Lib.hid hwf
      have hyc := hry.le
      have hym := hry.cap
      unfold maxLen at hym
      clear hc hdw2 hks2 hn hoS hoT hcy hoy hry hwf HIB HG0 HG1 HK4 HDW
      generalize wc = w5 at *
      go_wp2_with fail
      go_loopg [18, 19] 61 (fun f v i wr => ∃ m : Nat, m ≤ n ∧ i = .int .i64 m ∧ Hid (f + m = 61 ∧ OwnInts wr w5.heap.size v ((ds2.map Dr.s).take m) ∧ Lat w5 wr))
      case atStart => exact ⟨0, Nat.zero_le _, rfl, rfl, by rw [List.take_zero]; exact Own.nil _ _ _, Lat.refl _⟩
      case round =>
        obtain ⟨m, hm, rfl, hrel⟩ := hrel
        obtain ⟨hf, hown, hlat⟩ := hrel.out
        have HF5 := Lib.hid hf; have HO := Lib.hid hown; have HLT := Lib.hid hlat
        have hcy := hlat.cell_at HCY.out
        clear hrel hf hown hlat
        by_cases hlt3 : m < n
        · obtain ⟨b, o, rfl, hcell⟩ := HRY.out.at_ (by omega)
          have hml : m < ds2.length := by rw [← HN.out]; exact hlt3
          obtain ⟨V, hV⟩ : ∃ V, V = ds2[m] := ⟨_, rfl⟩
          have hd : ds2[m]? = some V := by rw [hV]; exact List.getElem?_eq_getElem hml
          have hr2 : (ds2.map Dr.row)[m]? = some V.row := by rw [List.getElem?_map, hd]; rfl
          have c0 := HLT.out.cell_at ((hcell m _ hr2).2 0 _ rfl)
          rw [Nat.add_zero] at c0
          have hst : (ds2.map Dr.s).take (m + 1) = (ds2.map Dr.s).take m ++ [V.s] := by
            rw [List.take_succ_eq_append_getElem (by rw [List.length_map]; exact hml), List.getElem_map, ← hV]
          have hl : ((ds2.map Dr.s).take m).length < 1000000000000 := by rw [List.length_take]; omega
          obtain ⟨s, t⟩ := V
          simp only at c0 hst
          have HST := Lib.hid hst; have HL := Lib.hid hl
          have k1 : (0 : Int) ≤ (m : Int) := by omega
          have k2 : (m : Int) < (n : Int) := by omega
          clear hst hl hcell hd hV hml hr2
          go_wp2_with (at_builtin; refine app_int wr w5 _ rfl _ _ rfl _ _ s rfl HO.out rfl HL.out rfl HLT.out ?_; intro v' w7 hown' hb' _)
          go_roundg (gk - 1)
          case measure => go_light; have := HF5.out; omega
          case rel => go_light; exact ⟨m + 1, by omega, by go_num, by have := HF5.out; omega, by rw [HST.out]; exact hown', hb'⟩
        · obtain rfl : m = n := by omega
          have hfin : (ds2.map Dr.s).take m = ds2.map Dr.s := List.take_of_length_le (by rw [List.length_map, HN.out]; exact Nat.le_refl _)
          have hrl := HO.out
          rw [hfin] at hrl
          obtain ⟨sa, sc, rfl, hat⟩ := OwnInts.sliceN (n := m) hrl (fun z hz => by obtain ⟨d, hd, rfl⟩ := List.mem_map.1 hz; exact HWF.out d hd) (by rw [List.length_map, HN.out])
          have hall := air_all S x ds2 wr (HOS.out.keep HLT.out) (by have := HN.out; omega) HWF.out
          rw [← HN.out] at hall
          have HA := Lib.hid hat; have HALL := Lib.hid hall
          have HK6 := Lib.hid (HK5.out.keep HLT.out)
          clear hfin hrl hat hall HO
          go_wp2_with fail
          refine HALL.out.mono ?_
          rintro e w7 ⟨a7, c7, rfl, hat7, hb7⟩
          have HK7 := Lib.hid (HK6.out.keep hb7); have HA7 := Lib.hid (HA.out.keep hb7); have HT7 := Lib.hid hat7
          clear hat7 hb7 HALL HK6 HA
          go_wp2_with fail
          refine (sameInts_yes a7 m c7 _ sa sc _ HT7.out HA7.out).mono ?_
          rintro e w8 ⟨rfl, hb8⟩
          have HK8 := Lib.hid (HK7.out.keep hb8)
          clear hb8
          go_wp2
          go_roundg (G - 1)
          case measure => go_light; have := HF.out; have := HGE.out; omega
          case rel => go_light; exact ⟨j + 1, q2, by omega, by omega, hq2, by go_num, rfl, by have := HF.out; have := HGE.out; omega, ds2, HDW2.out, HK8.out⟩
    · by_cases hlt : j < n0
      · have hlt2 : ¬ j < 150 := by omega
        obtain ⟨_, ds, _, hks⟩ := hrel.out
        have HKS := Lib.hid hks.lat
        clear hgo hrel hks
        go_wp2
        go_ret
        exact ⟨rfl, HKS.out⟩
      · obtain ⟨_, ds, _, hks⟩ := hrel.out
        have HKS := Lib.hid hks.lat
        clear hgo hrel hks
        go_wp2
        go_ret
        exact ⟨rfl, HKS.out⟩
end Go.Proofs.YtooepflfofgnnaaDoor
