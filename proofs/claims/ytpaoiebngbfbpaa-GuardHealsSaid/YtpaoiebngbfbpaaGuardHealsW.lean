/- The walk of GuardHeals: it returns true, whatever it is asked. -/
import Derived.Test.YtpaoiebngbfbpaaGuardPl6
import Derived.Test.YtpaoiebngbfbpaaBoolsBlk
import Derived.Test.YtpaoiebngbfbpaaSameStrs
import Derived.Deep.CutRange
namespace Go.Proofs.Ytpaoiebngbfbpaa
open Go.ChangeShapes Go.WideShapes Go.ChangeAt Go.RowKit

theorem fact_L : addL [⟨#[97]⟩, ⟨#[98]⟩, ⟨#[99]⟩] 2 = [⟨#[97]⟩, ⟨#[98]⟩, ⟨#[99]⟩, ⟨#[3]⟩, ⟨#[99]⟩] := by kernel_rfl
theorem fact_E : addE [⟨#[97]⟩, ⟨#[98]⟩, ⟨#[99]⟩] 2 = 0 := by kernel_rfl

/-- what the law's loop has made behind k groups -/
def GInv (w2 : World) (g2 bz N : Nat) (at_ : Nat → Option Nat) (xs : List ByteArray) (b : Bool) (s : ByteArray) (k : Nat) (wx : World) : Prop :=
  Lat w2 wx ∧ Blk wx g2 N (fun j => .bool ((lkF at_ N k).getD j false)) ∧ Blk wx bz N (fun j => .string ((zF at_ xs b s k).getD j ByteArray.empty))
theorem GInv.skip {w2 wx : World} {g2 bz N : Nat} {at_ : Nat → Option Nat} {xs : List ByteArray} {b : Bool} {s : ByteArray} {k : Nat} (h : GInv w2 g2 bz N at_ xs b s k wx) (hn : at_ k = none) : GInv w2 g2 bz N at_ xs b s (k + 1) wx := by
  unfold GInv zF lkF
  rw [hn]; exact h
theorem GInv.keep {w2 wx wy : World} {g2 bz N : Nat} {at_ : Nat → Option Nat} {xs : List ByteArray} {b : Bool} {s : ByteArray} {k : Nat} (h : GInv w2 g2 bz N at_ xs b s k wx) (hb : Lat wx wy) : GInv w2 g2 bz N at_ xs b s k wy :=
  ⟨Lat.trans h.1 hb, h.2.1.keep hb, h.2.2.keep hb⟩
theorem Blk.other {w : World} {g n h : Nat} {F : Nat → Value} (hb : Blk w g n F) (hne : g ≠ h) (o : Nat) (v : Value) : Blk (w.setCell ⟨h, o, none⟩ v) g n F :=
  ⟨by simpa [World.setCell] using hb.lt, fun j hj => by rw [World.cell?_setCell_other _ _ _ _ (by intro e; injection e with e1 _ _; exact hne e1.symm)]; exact hb.cell j hj, fun j hj => by rw [World.frozen?_setCell]; exact hb.free j hj⟩
theorem GInv.lacks {w2 wx : World} {g2 bz N : Nat} {at_ : Nat → Option Nat} {xs : List ByteArray} {s : ByteArray} {k p : Nat} (h : GInv w2 g2 bz N at_ xs false s k wx) (hp : at_ k = some p) (hpN : p < N) (hg : w2.heap.size ≤ g2) (hne : bz ≠ g2) :
    GInv w2 g2 bz N at_ xs false s (k + 1) (wx.setCell ⟨g2, p, none⟩ (.bool true)) := by
  obtain ⟨h1, h2, h3⟩ := h
  unfold GInv zF lkF
  rw [hp]
  exact ⟨h1.setCell (p := ⟨g2, p, none⟩) hg _, blk_putB h2 (lkF_len _ _ _) hpN true, h3.other hne p _⟩
theorem GInv.both {w2 wx : World} {g2 bz N : Nat} {at_ : Nat → Option Nat} {xs : List ByteArray} {s : ByteArray} {k p : Nat} (h : GInv w2 g2 bz N at_ xs true s k wx) (hp : at_ k = some p) (hpN : p < N) (hg : w2.heap.size ≤ g2) (hz : w2.heap.size ≤ bz) (hne : bz ≠ g2) (hl : xs.length = N) :
    GInv w2 g2 bz N at_ xs true s (k + 1) ((wx.setCell ⟨g2, p, none⟩ (.bool true)).setCell ⟨bz, p, none⟩ (.string s)) := by
  obtain ⟨h1, h2, h3⟩ := h
  unfold GInv zF lkF
  rw [hp]
  refine ⟨(h1.setCell (p := ⟨g2, p, none⟩) hg _).setCell (p := ⟨bz, p, none⟩) hz _, (blk_putB h2 (lkF_len _ _ _) hpN true).other (fun e => hne e.symm) p _, ?_⟩
  have := blk_put (h3.other hne p (.bool true)) (by rw [zF_len, hl]) hpN s
  simpa using this

set_option maxHeartbeats 4000000 in
set_option maxRecDepth 100000 in
theorem walk_guardHeals (a : Option Addr) (n cap : Nat) (ls : List ByteArray) (e : Int) (ga : Option Addr) (gn gc : Nat) (zs : List Int) (s : ByteArray) (w : World) (h : StrsAt w a n cap ls) (_ : (Lit.int .i64 e).wf = true) (hz : IntsAt w ga gn gc zs) (hs : s.size ≤ maxLen) :
    Calls Try.prog 3 #[.slice a n cap, .int .i64 e, .slice ga gn gc, .string s] w fun x w' => x = .returned (.bool true) ∧ Lat w w' := by
  have hlen := h.len
  have hb0 : Lat w (w.alloc (.cells #[.string ⟨#[97]⟩, .string ⟨#[98]⟩, .string ⟨#[99]⟩] 9)) := Lat.alloc _ _
  have hat0 : StrsAt (w.alloc (.cells #[.string ⟨#[97]⟩, .string ⟨#[98]⟩, .string ⟨#[99]⟩] 9)) (some ⟨w.heap.size, 0, none⟩) 3 3 [⟨#[97]⟩, ⟨#[98]⟩, ⟨#[99]⟩] := by
    have h2 := strs_new w [⟨#[97]⟩, ⟨#[98]⟩, ⟨#[99]⟩] 9 (by decide) (fun s hs => by
      have : s.size = 1 := by
        rcases List.mem_cons.1 hs with rfl | hs
        · rfl
        rcases List.mem_cons.1 hs with rfl | hs
        · rfl
        rw [List.mem_singleton.1 hs]; rfl
      unfold maxLen; omega)
    simpa using h2
  have k0 := add_any _ 3 3 _ 2 _ hat0
  rw [fact_E, fact_L, errv_zero rfl] at k0
  have k1 := fun W (hW : Lat w W) => add_any a n cap ls e W (h.keep hW)
  have H := Lib.hid h; have HZ := Lib.hid hz; have HK0 := Lib.hid k0; have HB0 := Lib.hid hb0; have HK1 := Lib.hid k1
  clear h hz k0 hb0 k1 hat0
  go_enter Try.func3, Try.ntmps3
  go_wp2_with fail
  refine HK0.out.mono ?_
  rintro x w1 ⟨⟨fa, fk, fc, rfl, hf⟩, hb1⟩
  obtain rfl : fk = 5 := by rw [← hf.len]; rfl
  obtain ⟨fb, fo, rfl, hfc⟩ := hf.row.at_ (by omega)
  have q3 : w1.cell? ⟨fb, fo + 3, none⟩ = some (.string ⟨#[3]⟩) := hfc 3 (by omega)
  have q4 : w1.cell? ⟨fb, fo + 4, none⟩ = some (.string ⟨#[99]⟩) := hfc 4 (by omega)
  have HB1 := Lib.hid (Lat.trans HB0.out hb1)
  clear hf hfc hb1
  go_wp2_with fail
  refine (HK1.out _ HB1.out).mono ?_
  clear q3 q4
  by_cases h0 : addE ls e = 0
  · obtain ⟨c1, c2, c3, c4⟩ := addE_zero h0
    obtain ⟨f, rfl⟩ : ∃ f : Nat, e = f := ⟨e.toNat, by omega⟩
    have hck := chk_ok c1
    have hal : addL ls f = addS ls f := by unfold addL; rw [if_pos h0, Int.toNat_natCast]
    rw [h0, hal, errv_zero rfl]
    rw [Int.toNat_natCast] at c4
    have hG := grps_pos ls.length f hck.pos (by omega)
    have hxl := addS_length ls f
    have hxs := addS_sizes hck f
    have hnone := none_all hck (by omega) (by omega) c4
    have hgone := fun b hb => gone_all (zs := zs) (b := b) (s := s) hck (by omega) (by omega) c4 hb
    have hatp := fun g p hg h => atF_at (zs := zs) (n := ls.length) (f := f) (g := g) (p := p) (by omega) hg h
    have hgl := fun g => grps_lt ls.length f g (by omega)
    have hm8 := hck.eight
    have hn1 := hck.pos
    rw [hlen] at hG hxl hnone hgone hatp hgl c4 hn1
    obtain ⟨m, hm⟩ : ∃ m, m = szAt ls 0 := ⟨_, rfl⟩
    rw [← hm] at hgone hxs hm8
    obtain ⟨G, hGd⟩ : ∃ G, G = grps n f := ⟨_, rfl⟩
    rw [← hGd] at hG hxl hnone hgone hatp hgl c4
    obtain ⟨N, hN⟩ : ∃ N, N = n + G := ⟨_, rfl⟩
    rw [← hN] at hxl hnone hgone hatp c4
    obtain ⟨xs, hxs0⟩ : ∃ xs, xs = addS ls f := ⟨_, rfl⟩
    rw [← hxs0] at hxl hxs hnone hgone ⊢
    rintro x w2 ⟨⟨xa, xk, xc, rfl, hx⟩, hb2⟩
    obtain rfl : xk = N := by rw [← hx.len]; exact hxl
    obtain ⟨xb, xo, rfl, hxc⟩ := hx.row.at_ (by omega)
    have HX := Lib.hid hx; have HB2 := Lib.hid (Lat.trans HB1.out hb2); have HNO := Lib.hid hnone; have HGO := Lib.hid hgone; have HAP := Lib.hid hatp; have HGL := Lib.hid hgl; have HXL := Lib.hid hxl; have HXS := Lib.hid hxs; have HN := Lib.hid hN
    have e2 : decide (xk ≤ n) = false := decide_eq_false (by omega)
    have e3 : decide ((f : Int) < 1) = false := decide_eq_false (by omega)
    have e4 : decide ((16 : Int) < (xk : Int)) = false := decide_eq_false (by omega)
    have e5 : decide ((n : Int) < 1) = false := decide_eq_false (by omega)
    clear hx hb2 hnone hgone hatp hgl hxl hxs hxs0 hGd hm hal h0 c1 hck hlen hxc HK0 HB0 HK1 hN
    have hxN : n < xk := by have := HN.out; omega
    go_wp2_with (at_make; refine wpList_make_blk _ rfl _ _ 29 rfl 4 (.bool false) 1 Try.underlying29 info_boolT rfl xk rfl rfl (by omega) (by unfold maxLen; omega) ?_)
    intro g1 w3 hg1 hblk hb3
    have hL1 := bools_blk (blk_falses hblk) List.length_replicate (by omega)
    have k3 := Heal_all _ xk xc xs (some ⟨g1, 0, none⟩) xk xk _ (f : Int) w3 (HX.out.keep hb3) hL1
    rw [HNO.out.1, HNO.out.2, errv_zero rfl] at k3
    have HK3 := Lib.hid k3; have HB3 := Lib.hid hb3
    clear hg1 hblk hb3 hL1 k3
    go_wp2_with fail
    refine HK3.out.mono ?_
    rintro x w4 ⟨⟨ya, yk, yc, rfl, hy⟩, hb4⟩
    obtain rfl : n = yk := by rw [← hy.len]; exact H.out.len.symm
    have HY := Lib.hid hy; have HB4 := Lib.hid (Lat.trans HB3.out hb4)
    clear hy hb4 HK3
    go_wp2_with fail
    refine (sameStrs_yes ya n yc ls a cap _ HY.out (H.out.keep (Lat.trans HB2.out HB4.out))).mono ?_
    rintro x w5 ⟨rfl, hb5⟩
    have HB5 := Lib.hid (Lat.trans HB4.out hb5)
    clear hb5 HY
    -- LOOP
    go_wp2_with (at_make; refine wpList_make_blk _ rfl _ _ 29 rfl 4 (.bool false) 1 Try.underlying29 info_boolT rfl xk rfl rfl (by omega) (by unfold maxLen; omega) ?_)
    intro g2 w6 hg2 hblk2 hb6
    have hg2l : w2.heap.size ≤ g2 := by rw [hg2]; exact HB5.out.size
    have hL6 : Lat w2 w6 := Lat.trans HB5.out hb6
    have hlm : (xs.map Value.string).length = xk := by rw [List.length_map]; exact HXL.out
    have hrow := RowAt.ofStrs (HX.out.keep hL6)
    have HBLK2 := Lib.hid (blk_falses hblk2); have HL6 := Lib.hid hL6; have HLM := Lib.hid hlm; have HROW := Lib.hid hrow
    have hg2w := hblk2.lt
    clear hg2 hblk2 hb6 hL6 hlm hrow
    go_wp2_with (at_builtin; refine wpList_appM w6 w6 w6.heap.size rfl (.tmp 91) (.tmp 92) 22 rfl 9 (.string .empty) 16 Try.underlying22 info_string rfl (by decide) (.slice none 0 0) [] rfl (Own.nil _ _ _) (some ⟨xb, xo, none⟩) xk xc (xs.map Value.string) rfl HLM.out HROW.out (fun u hu => by obtain ⟨s, _, rfl⟩ := List.mem_map.1 hu; rfl) (by simp; omega) rfl (Lat.refl _) ?_; intro v' w7 hown hb7 _)
    rw [List.nil_append] at hown
    obtain ⟨az, cz, rfl⟩ := own_len hown HLM.out
    obtain ⟨bz, rfl, hbz, -, hkc, hkm, hblkz⟩ := blk_strs hown (by rw [HXL.out]; omega)
    rw [HXL.out] at hblkz
    have hzl : w2.heap.size ≤ bz := Nat.le_trans HL6.out.size hbz
    have hne : bz ≠ g2 := by omega
    obtain ⟨b, hb⟩ : ∃ b, b = decide (s.size = m) := ⟨_, rfl⟩
    have HINV : Hid (GInv w2 g2 bz xk (atF zs n f) xs b s 0 w7) := ⟨Lat.trans HL6.out hb7, HBLK2.out.keep hb7, hblkz⟩
    have hbm : b = true → s.size = m := fun h => by rw [hb] at h; exact of_decide_eq_true h
    have dB : ((s.size : Int) == (m : Int)) = b := by
      rw [hb]
      by_cases h : s.size = m
      · rw [decide_eq_true h, beq_iff_eq]; omega
      · rw [decide_eq_false h, beq_eq_false_iff_ne]; omega
    have hfin := HGO.out b hbm
    have HFIN := Lib.hid hfin
    have hx0 : w2.cell? ⟨xb, xo, none⟩ = some (.string (xs.getD 0 ByteArray.empty)) := by
      obtain ⟨b', o', ha, hc⟩ := HX.out.row.at_ (by omega)
      injection ha with ha
      injection ha with ha1 ha2 _
      subst ha1
      subst ha2
      exact hc 0 (by omega)
    have hz0 : (xs.getD 0 ByteArray.empty).size = m := szAt_mem HXS.out 0 (by rw [HXL.out]; omega)
    obtain ⟨x0, hx00⟩ : ∃ x0, x0 = xs.getD 0 ByteArray.empty := ⟨_, rfl⟩
    rw [← hx00] at hx0 hz0
    have HX0 := Lib.hid hx0; have HZ0 := Lib.hid hz0; have HBM := Lib.hid hbm
    have hsI : s.size ≤ 9223372036854775807 := by unfold maxLen at hs; omega
    have hGN : (xk : Int) - (n : Int) = (G : Int) := by have := HN.out; omega
    have hgn := HZ.out.row.le
    have hgc := HZ.out.row.cap
    unfold maxLen at hgc
    have hzlen := HZ.out.len
    have HZL := Lib.hid hzlen
    clear hown hb7 hbz hblkz hfin hb hbm hx00 hx0 hz0 hs hg2w hzlen
    go_wp2
    go_loopw [18, 19] (fun g _ wx => ∃ k : Nat, k ≤ G ∧ g = .int .i64 k ∧ Hid (GInv w2 g2 bz xk (atF zs n f) xs b s k wx)) (fun g _ _ => 20 - (intOf g).toNat)
    case atStart => exact ⟨0, Nat.zero_le _, rfl, HINV.out⟩
    case round =>
      obtain ⟨k, hk, rfl, hrel⟩ := hrel
      by_cases hlt : k < G
      · have hq0 := (HGL.out k).1 hlt
        obtain ⟨q, hq⟩ : ∃ q, q = k * f := ⟨_, rfl⟩
        rw [← hq] at hq0
        have hmul : (k : Int) * (f : Int) = (q : Int) := by rw [hq]; exact (Int.natCast_mul k f).symm
        have hA := HAP.out k
        have c0 := hrel.out.1.cell_at HX0.out
        obtain ⟨z, hz⟩ : ∃ z, z = zs.getD k 0 := ⟨_, rfl⟩
        have hat : atF zs n f k = if k < gn ∧ 0 ≤ z ∧ z ≤ (f : Int) then some (if z = (f : Int) ∨ n ≤ q + z.toNat then n + k else q + z.toNat) else none := by unfold atF; rw [HZL.out, ← hz, ← hq]
        by_cases hkn : k < gn
        · have hzw : -9223372036854775808 ≤ z ∧ z ≤ 9223372036854775807 := by
            rw [hz]; exact HZ.out.wf _ (getD_mem zs k (by rw [HZL.out]; exact hkn))
          obtain ⟨gb, go, rfl, hgcell⟩ := (HZ.out.keep (Lat.trans HB2.out hrel.out.1)).row.at_ (by omega)
          have cz1 := hgcell k hkn
          rw [← hz] at cz1
          have dk : decide (gn ≤ k) = false := decide_eq_false (by omega)
          clear hgcell hz hq
          by_cases hneg : z < 0
          · have hno : atF zs n f k = none := by rw [hat, if_neg (by omega)]
            have hnx := hrel.out.skip hno
            have HNX := Lib.hid hnx
            have d1 : decide (z < 0) = true := decide_eq_true hneg
            clear hat hA hno hnx hrel
            go_wp2
            go_roundw
            case rel => exact ⟨k + 1, by omega, by go_num, HNX.out⟩
            case measure => simp [intOf]; omega
          · have d1 : decide (z < 0) = false := decide_eq_false hneg
            by_cases hbig : (f : Int) < z
            · have hno : atF zs n f k = none := by rw [hat, if_neg (by omega)]
              have hnx := hrel.out.skip hno
              have HNX := Lib.hid hnx
              have d2 : decide ((f : Int) < z) = true := decide_eq_true hbig
              clear hat hA hno hnx hrel
              go_wp2
              go_roundw
              case rel => exact ⟨k + 1, by omega, by go_num, HNX.out⟩
              case measure => simp [intOf]; omega
            · have d2 : decide ((f : Int) < z) = false := decide_eq_false hbig
              obtain ⟨zn, rfl⟩ : ∃ zn : Nat, z = zn := ⟨z.toNat, by omega⟩
              rw [if_pos ⟨hkn, by omega, by omega⟩, Int.toNat_natCast] at hat
              have hzf : zn ≤ f := by omega
              by_cases hzf2 : zn = f
              · subst hzf2
                rw [if_pos (.inl rfl)] at hat
                have d3 : ((zn : Int) == (zn : Int)) = true := beq_self_eq_true _
                obtain ⟨p, hp⟩ : ∃ p, p = n + k := ⟨_, rfl⟩
                rw [← hp] at hat
                have hpN := (hA p hlt hat).1
                have hpI : (n : Int) + (k : Int) = (p : Int) := by rw [hp]; exact (Int.natCast_add n k).symm
                have hpi : (p : Int) < (xk : Int) := by omega
                have cL := hrel.out.2.1.cell p hpN
                have fL := hrel.out.2.1.free p hpN
                cases b with
                | true =>
                  have cZ := (hrel.out.2.2.other hne p (.bool true)).cell p hpN
                  have fZ := (hrel.out.2.2.other hne p (.bool true)).free p hpN
                  have hnx := hrel.out.both hat hpN hg2l hzl hne HXL.out
                  have HNX := Lib.hid hnx; have HZ0' := Lib.hid HZ0.out
                  have c0' : (wr.setCell ⟨g2, p, none⟩ (.bool true)).cell? ⟨xb, xo, none⟩ = some (.string x0) := by
                    rw [World.cell?_setCell_other _ _ _ _ (by intro e; injection e with e1 _ _; have := World.block_lt_of_cell? _ _ HX0.out; simp at this; omega)]; exact c0
                  have hzm : x0.size = m := HZ0.out
                  clear hat hA hrel hnx hp 
                  go_wp2
                  go_roundw
                  case rel => exact ⟨k + 1, by omega, by go_num, HNX.out⟩
                  case measure => simp [intOf]; omega
                | false =>
                  have hnx := hrel.out.lacks hat hpN hg2l hne
                  have HNX := Lib.hid hnx
                  have c0' : (wr.setCell ⟨g2, p, none⟩ (.bool true)).cell? ⟨xb, xo, none⟩ = some (.string x0) := by
                    rw [World.cell?_setCell_other _ _ _ _ (by intro e; injection e with e1 _ _; have := World.block_lt_of_cell? _ _ HX0.out; simp at this; omega)]; exact c0
                  have hzm : x0.size = m := HZ0.out
                  clear hat hA hrel hnx hp 
                  go_wp2
                  go_roundw
                  case rel => exact ⟨k + 1, by omega, by go_num, HNX.out⟩
                  case measure => simp [intOf]; omega
              · have d3 : ((zn : Int) == (f : Int)) = false := beq_eq_false_iff_ne.2 (by omega)
                by_cases hov : n ≤ q + zn
                · rw [if_pos (.inr hov)] at hat
                  obtain ⟨qz, hqz⟩ : ∃ x, x = q + zn := ⟨_, rfl⟩
                  have hqI : (q : Int) + (zn : Int) = (qz : Int) := by rw [hqz]; exact (Int.natCast_add q zn).symm
                  have d4 : decide (n ≤ qz) = true := decide_eq_true (by omega)
                  obtain ⟨p, hp⟩ : ∃ p, p = n + k := ⟨_, rfl⟩
                  rw [← hp] at hat
                  have hpN := (hA p hlt hat).1
                  have hpI : (n : Int) + (k : Int) = (p : Int) := by rw [hp]; exact (Int.natCast_add n k).symm
                  have hpi : (p : Int) < (xk : Int) := by omega
                  have cL := hrel.out.2.1.cell p hpN
                  have fL := hrel.out.2.1.free p hpN
                  cases b with
                  | true =>
                    have cZ := (hrel.out.2.2.other hne p (.bool true)).cell p hpN
                    have fZ := (hrel.out.2.2.other hne p (.bool true)).free p hpN
                    have hnx := hrel.out.both hat hpN hg2l hzl hne HXL.out
                    have HNX := Lib.hid hnx; have HZ0' := Lib.hid HZ0.out
                    have c0' : (wr.setCell ⟨g2, p, none⟩ (.bool true)).cell? ⟨xb, xo, none⟩ = some (.string x0) := by
                      rw [World.cell?_setCell_other _ _ _ _ (by intro e; injection e with e1 _ _; have := World.block_lt_of_cell? _ _ HX0.out; simp at this; omega)]; exact c0
                    have hzm : x0.size = m := HZ0.out
                    clear hat hA hrel hnx hp hqz
                    go_wp2
                    go_roundw
                    case rel => exact ⟨k + 1, by omega, by go_num, HNX.out⟩
                    case measure => simp [intOf]; omega
                  | false =>
                    have hnx := hrel.out.lacks hat hpN hg2l hne
                    have HNX := Lib.hid hnx
                    have c0' : (wr.setCell ⟨g2, p, none⟩ (.bool true)).cell? ⟨xb, xo, none⟩ = some (.string x0) := by
                      rw [World.cell?_setCell_other _ _ _ _ (by intro e; injection e with e1 _ _; have := World.block_lt_of_cell? _ _ HX0.out; simp at this; omega)]; exact c0
                    have hzm : x0.size = m := HZ0.out
                    clear hat hA hrel hnx hp hqz
                    go_wp2
                    go_roundw
                    case rel => exact ⟨k + 1, by omega, by go_num, HNX.out⟩
                    case measure => simp [intOf]; omega
                · rw [if_neg (by omega)] at hat
                  obtain ⟨p, hp⟩ : ∃ p, p = q + zn := ⟨_, rfl⟩
                  rw [← hp] at hat
                  have hpN := (hA p hlt hat).1
                  have hpI : (q : Int) + (zn : Int) = (p : Int) := by rw [hp]; exact (Int.natCast_add q zn).symm
                  have d4 : decide (n ≤ p) = false := decide_eq_false (by omega)
                  have hpi : (p : Int) < (xk : Int) := by omega
                  have cL := hrel.out.2.1.cell p hpN
                  have fL := hrel.out.2.1.free p hpN
                  cases b with
                  | true =>
                    have cZ := (hrel.out.2.2.other hne p (.bool true)).cell p hpN
                    have fZ := (hrel.out.2.2.other hne p (.bool true)).free p hpN
                    have hnx := hrel.out.both hat hpN hg2l hzl hne HXL.out
                    have HNX := Lib.hid hnx; have HZ0' := Lib.hid HZ0.out
                    have c0' : (wr.setCell ⟨g2, p, none⟩ (.bool true)).cell? ⟨xb, xo, none⟩ = some (.string x0) := by
                      rw [World.cell?_setCell_other _ _ _ _ (by intro e; injection e with e1 _ _; have := World.block_lt_of_cell? _ _ HX0.out; simp at this; omega)]; exact c0
                    have hzm : x0.size = m := HZ0.out
                    clear hat hA hrel hnx hp 
                    go_wp2
                    go_roundw
                    case rel => exact ⟨k + 1, by omega, by go_num, HNX.out⟩
                    case measure => simp [intOf]; omega
                  | false =>
                    have hnx := hrel.out.lacks hat hpN hg2l hne
                    have HNX := Lib.hid hnx
                    have c0' : (wr.setCell ⟨g2, p, none⟩ (.bool true)).cell? ⟨xb, xo, none⟩ = some (.string x0) := by
                      rw [World.cell?_setCell_other _ _ _ _ (by intro e; injection e with e1 _ _; have := World.block_lt_of_cell? _ _ HX0.out; simp at this; omega)]; exact c0
                    have hzm : x0.size = m := HZ0.out
                    clear hat hA hrel hnx hp 
                    go_wp2
                    go_roundw
                    case rel => exact ⟨k + 1, by omega, by go_num, HNX.out⟩
                    case measure => simp [intOf]; omega
        · have hno : atF zs n f k = none := by rw [hat, if_neg (by omega)]
          have hnx := hrel.out.skip hno
          have HNX := Lib.hid hnx
          have dk : decide (gn ≤ k) = true := decide_eq_true (by omega)
          clear hat hA hno hnx hrel hz hq
          go_wp2
          go_roundw
          case rel => exact ⟨k + 1, by omega, by go_num, HNX.out⟩
          case measure => simp [intOf]; omega
      · obtain rfl : k = G := by omega
        have hinv := hrel.out
        have hzz := strs_blk hinv.2.2 (by rw [zF_len, HXL.out]) hkc hkm (fun u hu => by rw [zF_sizes _ _ _ _ m HXS.out HBM.out _ u hu]; unfold maxLen; omega)
        have k6 := Heal_all _ xk cz _ (some ⟨g2, 0, none⟩) xk xk _ (f : Int) wr hzz (bools_blk hinv.2.1 (lkF_len _ _ _) (by omega))
        rw [HFIN.out.1, HFIN.out.2, errv_zero rfl] at k6
        have HK6 := Lib.hid k6; have HLZ := Lib.hid (Lat.trans HB2.out hinv.1)
        clear hrel hinv hzz k6
        go_wp2_with fail
        refine HK6.out.mono ?_
        rintro x w8 ⟨⟨ra, rk, rc, rfl, hr⟩, hb8⟩
        obtain rfl : n = rk := by rw [← hr.len]; exact H.out.len.symm
        have HR := Lib.hid hr; have HB8 := Lib.hid (Lat.trans HLZ.out hb8)
        clear hr hb8 HK6
        go_wp2_with fail
        refine (sameStrs_yes ra n rc ls a cap _ HR.out (H.out.keep HB8.out)).mono ?_
        rintro x w9 ⟨rfl, hb9⟩
        have HB9 := Lib.hid (Lat.trans HB8.out hb9)
        clear hb9 HR
        go_wp2_with fail
        go_ret
        exact ⟨rfl, HB9.out⟩
  · rw [errv_pos h0]
    clear HK0 HB0 HK1
    rintro x w2 ⟨⟨xa, xk, xc, rfl, -⟩, hb2⟩
    have HB2 := Lib.hid (Lat.trans HB1.out hb2)
    clear h0 hb2 hlen
    go_wp2_with fail
    go_ret
    exact ⟨rfl, HB2.out⟩
end Go.Proofs.Ytpaoiebngbfbpaa
