/- The contract of (*peel.Peeler).learn. -/
import Derived.Test.YtcpookgbneoilaaDoorPeelL
import Derived.Test.YtcpookgbneoilaaDoorGate
import Derived.Test.YtcpookgbneoilaaDoorOwnRS
import Derived.Deep.LoopGhost
namespace Go.Proofs.YtcpookgbneoilaaDoor
open Go.ChangeShapes Go.WideShapes Go.ChangeAt Go.RowKit

/-- A box of two cells made behind wx. -/
structure BX (wx : World) (X : Nat) (u v : Value) (W : World) : Prop where
  lat : Lat wx W
  lo : wx.heap.size ≤ X
  lt : X < W.heap.size
  c0 : W.cell? ⟨X, 0, none⟩ = some u
  c1 : W.cell? ⟨X, 1, none⟩ = some v
  f0 : W.frozen? ⟨X, 0, none⟩ = false
  f1 : W.frozen? ⟨X, 1, none⟩ = false
theorem BX.new (wx : World) (u v : Value) (t : TypeId) : BX wx wx.heap.size u v (wx.alloc (.cells #[u, v] t)) := ⟨Lat.alloc _ _, Nat.le_refl _, by simp, by simp, by simp, by simp, by simp⟩
theorem BX.keep {wx W W' : World} {X : Nat} {u v : Value} (h : BX wx X u v W) (hb : Lat W W') : BX wx X u v W' :=
  ⟨h.lat.trans hb, h.lo, Nat.lt_of_lt_of_le h.lt hb.size, hb.cell_at h.c0, hb.cell_at h.c1, hb.free_at h.lt h.f0, hb.free_at h.lt h.f1⟩
theorem BX.put {wx W : World} {X : Nat} {u v : Value} (h : BX wx X u v W) (u' v' : Value) : BX wx X u' v' ((W.setCell ⟨X, 0, none⟩ u').setCell ⟨X, 1, none⟩ v') := by
  have q := two_put h.c0 h.c1 u' v'
  exact ⟨(h.lat.setCell (p := ⟨X, 0, none⟩) h.lo _).setCell (p := ⟨X, 1, none⟩) h.lo _, h.lo, by simp [World.setCell]; exact h.lt, q.1, q.2, by rw [World.frozen?_setCell, World.frozen?_setCell]; exact h.f0, by rw [World.frozen?_setCell, World.frozen?_setCell]; exact h.f1⟩
theorem info_wait : (Tryd.prog.info? 74).map (fun i => (i.zero, i.size, i.bytes)) = some (some (.agg #[.slice none 0 0, .string { data := #[] }]), 2, 40) := by kernel_rfl

theorem leftW_succ (K : Kn) (L : List Wt) (j : Nat) (x : Wt) (h : L[j]? = some x) : leftW K (L.take (j + 1)) = if some1 (wout K x) = true then leftW K (L.take j) ++ [wout K x] else leftW K (L.take j) := by
  unfold leftW
  rw [List.take_add_one, h, List.map_append, List.filter_append]
  cases hs : some1 (wout K x) <;> simp [hs]
theorem leftW_len (K : Kn) (L : List Wt) : (leftW K L).length ≤ L.length := by
  unfold leftW
  refine Nat.le_trans (List.length_filter_le _ _) ?_
  rw [List.length_map]; exact Nat.le_refl _

/-- one more waits -/
theorem WtsAt.app {wr W1 w6 : World} {u4 v6 : Value} {B : Nat} {rs : List (List Value)} {L : List Wt} {ya : Option Addr} {yn yc : Nat} {yi : List Int} {yd : Bts} (hws : WtsAt wr (fun i => u4.ownBlock = some i) (fun i => B ≤ i) rs L) (hlw : Lat wr W1) (hol : ∀ i, u4.ownBlock = some i → B ≤ i ∧ i < wr.heap.size)
    (hn : yn = yi.length) (hyi : IntsAt W1 ya yn yc yi) (hyb : ∀ b o, ya = some ⟨b, o, none⟩ → wr.heap.size ≤ b) (hB : B ≤ wr.heap.size) (hs6 : AppStep W1 w6 u4 v6) (hb6 : Below B W1 w6) :
    WtsAt w6 (fun i => v6.ownBlock = some i) (fun i => B ≤ i) (rs ++ [[.slice ya yn yc, .string (S yd)]]) (L ++ [(yi, yd)]) := by
  subst hn
  have hf : Fr (fun i => u4.ownBlock = some i) W1 w6 := ⟨hb6.os, hb6.tape, hb6.output, hs6.size, fun k hk hne => hs6.block k hk (fun e => hne e.symm)⟩
  have hv6 : ∀ i, i < W1.heap.size → v6.ownBlock = some i → u4.ownBlock = some i := fun i hi e => by
    rcases hs6.loc with h | ⟨g, h, hg⟩
    · rw [← h]; exact e
    · rw [h] at e; injection e with e; omega
  have h1 : WtsAt W1 (fun i => u4.ownBlock = some i ∨ v6.ownBlock = some i) (fun i => B ≤ i) rs L := (hws.keep hlw).off (fun i hi _ e => e.elim id (hv6 i hi)) (fun i _ hi _ => hi)
  have h2 := h1.push (r := [.slice ya yi.length yc, .string (S yd)]) (x := (yi, yd)) ⟨ya, yc, rfl, hyi, fun hn b o e h => by
    have hb := hyb b o e
    rcases h with h | h
    · have := (hol b h).2; omega
    · have := (hol b (hv6 b (hyi.blk hn e) h)).2; omega, fun hn b o e => Nat.le_trans hB (hyb b o e)⟩
  exact (h2.fr hf (fun i _ e _ => .inl e)).off (fun i _ _ e => .inr e) (fun i _ e _ => e)
/-- what is known and waits behind it -/
def lrnK (k : Nat) (K : Kn) (L : List Wt) : Kn := (learnF (k + 1) K L []).1
def lrnL (k : Nat) (K : Kn) (L : List Wt) : List Wt := (learnF (k + 1) K L []).2.1
def lrnO (k : Nat) (K : Kn) (L : List Wt) : List Int := ((learnF (k + 1) K L []).2.2).mergeSort fun x y => decide (x ≤ y)

set_option maxHeartbeats 4000000 in
set_option maxRecDepth 100000 in
theorem learn_any (G : Nat → Prop) (p k m : Nat) (K : Kn) (T : List Int) (L : List Wt) (w : World) (h : PeelO G p k m K T L w) (hk : k ≤ 16) (hm : m ≤ 8) :
    Calls Tryd.prog 36 #[.pointer (some ⟨p, 0, none⟩)] w fun e w' => ∃ oa oc, e = .returned (.slice oa (lrnO k K L).length oc) ∧ IntsAt w' oa (lrnO k K L).length oc (lrnO k K L) ∧ PeelStep G p k m (lrnK k K L) T (lrnL k K L) w w' := by
  obtain ⟨kb, tb, a0, cap0, h⟩ := h
  have hstart : PeelIn (GG G w w (.slice none 0 0)) p kb tb k m K T L a0 cap0 w := h.grow (fun i hi => ⟨h.lt i hi, .inl hi, by simp [Value.ownBlock]⟩) (fun _ hi => hi.1)
  obtain ⟨R, hR⟩ : ∃ R, R = learnF (k + 1) K L [] := ⟨_, rfl⟩
  have hu := unkC_le K k
  have HG : Hid (G p) := h.gp
  have HMP : Hid (w.cell? ⟨p, 2, none⟩ = some (.map (some kb)) ∧ w.cell? ⟨p, 3, none⟩ = some (.map (some tb))) := ⟨h.c2, h.c3⟩
  have HGK : Hid (G kb) := h.gk
  have HS := Lib.hid hstart; have HR := Lib.hid hR; have HU : Hid (unkC K k < k + 1) := Nat.lt_succ_of_le hu
  clear h hstart hR hu
  go_enter Tryd.func36, Tryd.ntmps36
  go_wp2
  go_loopg [3] (k + 1) (fun f v wr => ∃ (K1 : Kn) (L1 : List Wt) (out : List Int) (a : Option Addr) (cap : Nat), Hid (unkC K1 k < f ∧ learnF f K1 L1 out = R ∧ OwnInts wr w.heap.size v out ∧ out.length + unkC K1 k ≤ k ∧ (∀ z ∈ out, 0 ≤ z ∧ z < (k : Int)) ∧ Fr G w wr ∧ PeelIn (GG G w wr v) p kb tb k m K1 T L1 a cap wr))
  case atStart => exact ⟨K, L, [], a0, cap0, HU.out, HR.out.symm, Own.nil _ _ _, by have := HU.out; simp; omega, by simp, Fr.refl _ _, HS.out⟩
  case round =>
    obtain ⟨K1, L1, out, a, cap, hrel⟩ := hrel
    obtain ⟨hu, hlf, hown, hol, hoz, hfr, hp⟩ := hrel.out
    obtain ⟨f, rfl⟩ : ∃ f, gk = f + 1 := ⟨gk - 1, by omega⟩
    obtain ⟨n, hn⟩ : ∃ n, n = L1.length := ⟨_, rfl⟩
    have hn60 : n ≤ 60 := by have := hp.most; have := hp.tk.most; omega
    obtain ⟨rows, hro, hrw⟩ := hp.row
    obtain ⟨a', cap', he, hat⟩ := OwnR.slice hro (show rows.length = n by rw [hrw.1, hn])
    injection he with e1 e2 e3
    subst e1
    subst e3
    have hcl := hat.cap
    have hcle := hat.le
    unfold maxLen at hcl
    have c4 := hp.c4
    have c2 := hp.c2
    have fp := hp.free
    rw [← hn] at c4
    have HUU := Lib.hid hu; have HLF := Lib.hid hlf; have HOW := Lib.hid hown; have HOL := Lib.hid hol; have HOZ := Lib.hid hoz; have HFR := Lib.hid hfr; have HP := Lib.hid hp; have HN := Lib.hid hn; have HRW := Lib.hid hrw; have HAT := Lib.hid hat; have HC2 := Lib.hid c2; have HC4 := Lib.hid c4; have HFP := Lib.hid fp
    clear hrel hu hlf hown hol hoz hfr hp hn hro hrw hat e2 c2 fp
    obtain ⟨wo, hwo⟩ : ∃ wo : World, wo = wr := ⟨_, rfl⟩
    subst hwo
    go_wp2
    go_loopw [4, 13] (fun v i wx => ∃ j : Nat, j ≤ n ∧ i = .int .i64 j ∧ Hid (Lat wo wx ∧ ∃ rs, OwnR wx wo.heap.size 74 2 v rs ∧ WtsAt wx (fun i => v.ownBlock = some i) (fun i => wo.heap.size ≤ i) rs (leftW K1 (L1.take j)))) (fun _ i _ => n - (intOf i).toNat)
    case atStart => exact ⟨0, Nat.zero_le _, rfl, Lat.refl _, [], OwnR.nil _ _ _ _, WtsAt.nil _ _ _⟩
    case round =>
      obtain ⟨j, hj, rfl, hrel⟩ := hrel
      obtain ⟨hlat, rs, hor, hws⟩ := hrel.out
      by_cases hlt : j < n
      · obtain ⟨b, o, rfl, hcell⟩ := (HAT.out.keep hlat).at_ (by omega)
        have hjl : j < L1.length := by rw [← HN.out]; exact hlt
        obtain ⟨x, hx⟩ : ∃ x, x = L1[j] := ⟨_, rfl⟩
        have hx2 : L1[j]? = some x := by rw [hx]; exact List.getElem?_eq_getElem hjl
        have hxm : x ∈ L1 := by rw [hx]; exact List.getElem_mem hjl
        have hls := leftW_succ K1 L1 j x hx2
        have hrn : rs.length ≤ j := by
          rw [hws.1]
          refine Nat.le_trans (leftW_len _ _) ?_
          rw [List.length_take]; omega
        obtain ⟨r, hr, hwt⟩ := (HRW.out.fr (Fr.lat hlat : Fr (fun _ => False) wo wr) (fun _ _ e => e.elim)).2 j x hx2
        obtain ⟨xa, xc, rfl, hxi, _, _⟩ := hwt.ex
        have c0 := (hcell j _ hr).2 0 _ rfl
        have c1 := (hcell j _ hr).2 1 _ rfl
        rw [Nat.add_zero] at c0
        rw [← Nat.add_assoc] at c1
        have hkw := HP.out.kn.keep hlat
        have hc2w := hlat.cell_at HC2.out
        have hw0 := HP.out.ok.wo hxm
        have hx16 := HP.out.ok.len x hxm
        have hxo := HP.out.ok.of x hxm
        have hxd := HP.out.ok.data x hxm
        have hkk := HP.out.ok.kn
        obtain ⟨xi, xd⟩ := x
        simp only at c0 c1 hxi hx16 hxo hxd
        obtain ⟨yi, yd, hy⟩ : ∃ yi yd, wout K1 (xi, xd) = (yi, yd) := ⟨_, _, rfl⟩
        have hwc : ∀ W, Lat wr W → Calls Tryd.prog 56 #[.pointer (some ⟨p, 0, none⟩), .agg #[.slice xa xi.length xc, .string (S xd)]] W fun e w' => ∃ a' c', e = .returned (.agg #[.slice a' yi.length c', .string (S yd)]) ∧ IntsAt w' a' yi.length c' yi ∧ (∀ b o, a' = some ⟨b, o, none⟩ → W.heap.size ≤ b) ∧ Lat W w' := fun W hW => by
          have := without_any p kb k m K1 xa xi.length xc xi xd W (hW.cell_at hc2w) (hkw.keep hW) hk (hxi.keep hW) (by omega) hxo hkk hxd hm
          rw [hy] at this; exact this
        rw [hy] at hls hw0
        obtain ⟨xn, hxn⟩ : ∃ xn, xn = xi.length := ⟨_, rfl⟩
        obtain ⟨yn, hyn⟩ : ∃ yn, yn = yi.length := ⟨_, rfl⟩
        rw [← hxn, ← hyn] at hwc
        rw [← hxn] at c0
        have hs1 : some1 (yi, yd) = decide (0 < yn) := by rw [hyn]; rfl
        rw [hs1] at hls
        have hbx := BX.new wr (.slice xa xn xc) (.string (S xd)) 74
        have HLAT := Lib.hid hlat; have HOR := Lib.hid hor; have HWS := Lib.hid hws; have HLS := Lib.hid hls; have HRN := Lib.hid hrn; have HWC := Lib.hid hwc; have HBX := Lib.hid hbx; have HYN := Lib.hid hyn
        have i1 : (0 : Int) ≤ (j : Int) := by omega
        have i2 : (j : Int) < (n : Int) := by omega
        clear hrel hlat hor hws hcell hjl hx hx2 hxm hls hrn hr hwt hxi hkw hc2w hw0 hx16 hxo hxd hkk hy hwc hxn hyn hs1 hbx
        go_upto_region 6 with fail
        obtain ⟨W0, hW0⟩ : ∃ W0, W0 = wr.alloc (.cells #[.slice xa xn xc, .string (S xd)] 74) := ⟨_, rfl⟩
        have hb0 := HBX.out
        rw [← hW0] at hb0
        rw [← hW0]
        obtain ⟨X, hX⟩ : ∃ X, X = wr.heap.size := ⟨_, rfl⟩
        rw [← hX] at hb0
        rw [← hX]
        have q0 := hb0.c0
        have q1 := hb0.c1
        have HB0 := Lib.hid hb0
        have HX := Lib.hid hX
        clear hW0 HBX hb0 c0 c1 hX
        go_upto_region 7 with (go_at_call 56; refine (HWC.out W0 HB0.out.lat).mono ?_; rintro e w5 ⟨ya, yc, rfl, hyi, hyb, hb5⟩; have h5 := HB0.out.keep hb5; have t0 := h5.c0; have t1 := h5.c1; have t2 := h5.f0; have t3 := h5.f1)
        obtain ⟨W1, hW1⟩ : ∃ W1, W1 = (w5.setCell ⟨X, 0, none⟩ (.slice ya yn yc)).setCell ⟨X, 1, none⟩ (.string (S yd)) := ⟨_, rfl⟩
        have hb1 := h5.put (.slice ya yn yc) (.string (S yd))
        have hX0 : X < W0.heap.size := HB0.out.lt
        have hfx : Fr (fun i => i = X) w5 W1 := by rw [hW1]; exact (Fr.set (S := fun i => i = X) w5 ⟨X, 0, none⟩ _ rfl).then_set ⟨X, 1, none⟩ _ (.inl rfl)
        have hyi1 : IntsAt W1 ya yn yc yi := hyi.fr hfx (fun hn b o e h => by have := hyb b o e; omega)
        rw [← hW1] at hb1
        rw [← hW1]
        have hlw := hb1.lat
        have hwl : wo.heap.size ≤ wr.heap.size := HLAT.out.size
        have hol := HOR.out.lt
        have q0 := hb1.c0
        have q1 := hb1.c1
        have HB1 := Lib.hid hb1; have HYI := Lib.hid hyi1; have HYB := Lib.hid hyb; have HLW := Lib.hid hlw; have HOL := Lib.hid hol; have HX0 := Lib.hid hX0
        clear hW1 hb1 hfx hyi1 hyi hyb hb5 h5 t0 t1 t2 t3 hlw hol hX0
        by_cases hy0 : 0 < yn
        · have d0 : decide ((0 : Int) < (yn : Int)) = true := decide_eq_true (by omega)
          have hls : leftW K1 (L1.take (j + 1)) = leftW K1 (L1.take j) ++ [(yi, yd)] := by rw [HLS.out, decide_eq_true hy0, if_pos rfl]
          have HLS2 := Lib.hid hls
          have hrl : rs.length < 1000000000000 := by have := HRN.out; omega
          have HRL := Lib.hid hrl
          have hsz : wo.heap.size ≤ W1.heap.size := Nat.le_trans hwl HLW.out.size
          have HSZ := Lib.hid hsz
          clear hls hrl hsz HLS
          go_wp2_with (at_builtin; refine appR W1 wo.heap.size rfl (.tmp 24) (.tmp 26) 65 rfl 74 _ 2 40 Tryd.underlying65 info_wait rfl (by decide) (by decide) _ _ _ rfl (HOR.out.keep HLW.out) rfl rfl (fun u hu => by simp at hu; rcases hu with rfl | rfl <;> rfl) HRL.out HSZ.out ?_; intro v6 w6 hown6 hb6 hs6)
          have hs7 : AppStep W1 w6 u4 v6 := hs6
          have HS7 := Lib.hid hs7; have HB6 := Lib.hid hb6; have HO6 := Lib.hid hown6
          clear hs6 hs7 hb6 hown6
          go_roundw
          case rel => exact ⟨j + 1, by omega, by go_num, Below.trans (HLAT.out.trans HLW.out) HB6.out, _, HO6.out, by rw [HLS2.out]; exact HWS.out.app HLW.out HOL.out HYN.out HYI.out (fun b o e => by have := HYB.out b o e; have := HB0.out.lat.size; omega) hwl HS7.out HB6.out⟩
          case measure => simp [intOf]; omega
        · have d0 : decide ((0 : Int) < (yn : Int)) = false := decide_eq_false (by omega)
          have hls : leftW K1 (L1.take (j + 1)) = leftW K1 (L1.take j) := by rw [HLS.out, decide_eq_false hy0, if_neg (by decide)]
          have HLS2 := Lib.hid hls
          clear hls HLS
          go_wp2
          go_roundw
          case rel => exact ⟨j + 1, by omega, by go_num, HLAT.out.trans HLW.out, rs, HOR.out.keep HLW.out, by rw [HLS2.out]; exact HWS.out.keep HLW.out⟩
          case measure => simp [intOf]; omega
      · obtain rfl : j = n := by omega
        have ht : L1.take j = L1 := List.take_of_length_le (by rw [HN.out]; exact Nat.le_refl _)
        rw [ht] at hws
        have hll := hws.1
        obtain ⟨ll, hlld⟩ : ∃ ll, ll = rs.length := ⟨_, rfl⟩
        obtain ⟨la, lc, rfl, hrat⟩ := OwnR.slice hor hlld.symm
        have hlm := leftW_len K1 L1
        have hp2 := HP.out.left (fun i hi => (Own.lt HOW.out i hi).2) HFR.out.size hlat hor hws (by omega)
        have c4w := hlat.cell_at HC4.out
        have fpw := hlat.free_at (HP.out.lt _ HP.out.gp) HFP.out
        obtain ⟨W2, hW2⟩ : ∃ W2, W2 = wr.setCell ⟨p, 4, none⟩ (.slice la ll lc) := ⟨_, rfl⟩
        rw [← hW2] at hp2
        have hfr2 : Fr G w W2 := by
          rw [hW2]; exact (HFR.out.next hlat).then_set ⟨p, 4, none⟩ _ (.inl HG.out)
        have hown2 : OwnInts W2 w.heap.size u3 out := by
          rw [hW2]
          exact Own.grown (Own.keep HOW.out hlat) (row := some p) ⟨rfl, rfl, rfl, by simp [World.setCell], fun i hi hne => Below.heap_setCell _ _ _ _ (fun e => hne (by rw [e]))⟩ (fun g hg e => by
            injection e with e
            have := HP.out.gp
            exact this.2.2 (by rw [e]; exact hg))
        have HP2 := Lib.hid hp2; have HF2 := Lib.hid hfr2; have HO2 := Lib.hid hown2; have HLLD : Hid ((leftW K1 L1).length = ll) := by show _ = _; omega
        have hl60 : ll ≤ 60 := by have := HN.out; omega
        clear hrel hor hws hll hlld hrat hlm hp2 hfr2 hown2 hlat ht
        go_upto_region 11 with fail
        rw [← hW2]
        clear hW2 c4w fpw
        obtain ⟨rows2, hro2, hrw2⟩ := HP2.out.row
        rw [HLLD.out] at hro2
        obtain ⟨la', lc', he, hrat2⟩ := OwnR.slice hro2 (show rows2.length = ll by rw [hrw2.1]; exact HLLD.out)
        injection he with e1 _ e3
        subst e1
        subst e3
        have hix := indexW _ _ la ll lc rows2 (leftW K1 L1) W2 hrat2 hrw2 (by omega)
        have HIX := Lib.hid hix; have HRAT2 := Lib.hid hrat2; have HRW2 := Lib.hid hrw2
        clear hro2 hrw2 hrat2 hix
        go_upto_region 12 with (go_at_call 57; refine HIX.out.mono ?_; rintro e w3 ⟨r, rfl, hr, hb3⟩)
        have HB3 := Lib.hid hb3
        have hp3 := HP2.out.gg hb3
        have ho3 := Own.keep HO2.out hb3
        have hf3 := HF2.out.next hb3
        rcases hr with ⟨rfl, hno⟩ | ⟨i, x, rfl, hx, h1, hbf⟩
        · have hfin : (K1, leftW K1 L1, out) = R := by
            rw [← HLF.out]
            show _ = learnF (f + 1) K1 L1 out
            unfold learnF
            rw [find_no hno]
          have hol : out.length ≤ 1000000 := by have := HOL.out; omega
          have HP3 := Lib.hid hp3; have HO3 := Lib.hid ho3; have HF3 := Lib.hid hf3; have HFIN := Lib.hid hfin; have HOL2 := Lib.hid hol
          clear hno hp3 ho3 hf3 hb3 hfin hol
          go_wp2_with (go_at_call 55; refine (sort_fr w.heap.size u3 out w3 HO3.out HOL2.out).mono ?_; rintro e w4 ⟨rfl, hown4, hf4⟩)
          have hlo : lrnO k K L = out.mergeSort fun x y => decide (x ≤ y) := by unfold lrnO; rw [← HR.out, ← HFIN.out]
          have hlk : lrnK k K L = K1 := by unfold lrnK; rw [← HR.out, ← HFIN.out]
          have hlL : lrnL k K L = leftW K1 L1 := by unfold lrnL; rw [← HR.out, ← HFIN.out]
          obtain ⟨oa, oc, hv, hoat⟩ := OwnInts.slice hown4 (fun z hz => by
            have := HOZ.out z ((List.mergeSort_perm _ _).mem_iff.1 hz)
            omega)
          have hown3 := Own.lt HO3.out
          go_ret
          have h9 := (HP3.out.fr hf4 (fun i hi e => hi.2.2 e)).grow (G' := GG G w w4 u3) (fun i hi => ⟨Nat.lt_of_lt_of_le hi.1 hf4.size, hi.2⟩) (fun i hi => hi.1)
          refine ⟨oa, oc, ?_, ?_, ?_, ⟨GG G w w4 u3, ⟨kb, tb, la, lc, ?_⟩, fun i hi => hi.2.1⟩, ⟨h9.c2.trans HMP.out.1.symm, h9.c3.trans HMP.out.2.symm⟩⟩
          · rw [hlo]; exact congrArg Ending.returned hv
          · rw [hlo]; exact hoat
          · exact HF3.out.trans hf4 (fun i hi e => by have := (hown3 i e).1; omega)
          · rw [hlk, hlL]
            exact h9
        · have hfd := find_at hx h1 hbf
          obtain ⟨hxm, z, hz, hKz⟩ := leftW_one hfd
          have hnext : learnF f (updK K1 z x.2) (leftW K1 L1) (out ++ [z]) = R := by
            rw [← HLF.out]
            show _ = learnF (f + 1) K1 L1 out
            rw [learnF, hfd]
            simp only [hz]
            rfl
          have hok := hp3.ok
          have hzr := hok.of x hxm z (by rw [hz]; exact List.mem_singleton.2 rfl)
          have hxl := hok.data x hxm
          have hun := unkC_upd (k := k) (K := K1) x.2 hzr hKz
          have hil : i < ll := by rw [← HLLD.out]; exact (List.getElem?_eq_some_iff.1 hx).1
          obtain ⟨r2, hr2, hwt2⟩ := (HRW2.out.keep hb3).2 i x hx
          obtain ⟨za, zc, rfl, hzi, _, _⟩ := hwt2.ex
          obtain ⟨lb, lo, hla, hcell2⟩ := (HRAT2.out.keep hb3).at_ (show ll ≠ 0 by omega)
          have d0 := (hcell2 i _ hr2).2 0 _ rfl
          have d1 := (hcell2 i _ hr2).2 1 _ rfl
          rw [Nat.add_zero] at d0
          rw [← Nat.add_assoc] at d1
          have hzle := hzi.row.le
          have hzcm := hzi.row.cap
          unfold maxLen at hzcm
          obtain ⟨zb, zo, hza, hzc⟩ := hzi.row.at_ (by rw [hz]; simp)
          have d2 := hzc 0 (by rw [hz]; simp)
          rw [hz] at d0 d2 hzle
          rw [hza] at d0
          have d2 : w3.cell? ⟨zb, zo, none⟩ = some (.int .i64 z) := d2
          have d3 := hp3.c2
          obtain ⟨xd, hxd⟩ : ∃ xd, xd = x.2 := ⟨_, rfl⟩
          rw [← hxd] at hnext hxl hun d1
          obtain ⟨w5, hrun, hkn5, hfr5⟩ := (hp3.kn.keep (Lat.drew w3)).store hk z hzr.1 hzr.2 hKz xd
          have hp5 : PeelIn (GG G w w5 u3) p kb tb k m (updK K1 z xd) T (leftW K1 L1) la lc w5 := ((hp3.gg (Lat.drew w3)).know hkn5 hfr5 (hok.upd hzr hxl)).grow (fun i hi => ⟨Nat.lt_of_lt_of_le hi.1 hfr5.size, hi.2⟩) (fun _ hi => hi.1)
          have hkbn : ∀ g, u3.ownBlock = some g → g ≠ kb := fun g hg e => hp3.gk.2.2 (by rw [← e]; exact hg)
          have ho5 : OwnInts w5 w.heap.size u3 out := Own.grown (Own.keep ho3 (Lat.drew w3)) (row := some kb) ⟨hfr5.os, hfr5.tape, hfr5.output, hfr5.size, fun i hi hne => hfr5.block i hi (fun e => hne (by rw [e]))⟩ (fun g hg e => hkbn g hg (Option.some.inj e).symm)
          have hf5 : Fr G w w5 := (hf3.next (Lat.drew w3)).trans hfr5 (fun i _ e => by rw [e]; exact HGK.out)
          have hzbk : zb ≠ kb := fun e => by
            have := hwt2.ex
            obtain ⟨a2, c2, h1, h2, h3, h4⟩ := this
            injection h1 with h1 _
            injection h1 with h1 _ _
            exact h3 (by rw [hz]; simp) zb zo (by rw [← h1, hza]) (.inr (.inl e))
          have hlbk : lb ≠ kb := fun e => (hp3.own lb (by rw [hla]; rfl)).2.2.1 e
          have hn5 : 0 ≤ w5.heap.size := Nat.zero_le _
          have e0 : w5.cell? ⟨lb, lo + i * 2, none⟩ = some (.slice (some ⟨zb, zo, none⟩) [z].length zc) := hfr5.cell_at (show w3.drew.cell? _ = _ from d0) hlbk
          have e2 : w5.cell? ⟨zb, zo, none⟩ = some (.int .i64 z) := hfr5.cell_at (show w3.drew.cell? _ = _ from d2) hzbk
          subst hla
          have e0 : w5.cell? ⟨lb, lo + i * 2, none⟩ = some (.slice (some ⟨zb, zo, none⟩) 1 zc) := e0
          have hF : w3.drew.cell? ⟨p, 2, none⟩ = some (.map (some kb)) ∧ w3.drew.cell? ⟨lb, lo + i * 2, none⟩ = some (.slice (some ⟨zb, zo, none⟩) 1 zc) ∧ w3.drew.cell? ⟨lb, lo + i * 2 + 1, none⟩ = some (.string (S xd)) ∧ w3.drew.cell? ⟨zb, zo, none⟩ = some (.int .i64 z) := ⟨d3, d0, d1, d2⟩
          have hF5 : w5.cell? ⟨p, 2, none⟩ = some (.map (some kb)) ∧ w5.cell? ⟨lb, lo + i * 2, none⟩ = some (.slice (some ⟨zb, zo, none⟩) 1 zc) ∧ w5.cell? ⟨lb, lo + i * 2 + 1, none⟩ = some (.string (S xd)) ∧ w5.cell? ⟨zb, zo, none⟩ = some (.int .i64 z) := ⟨hp5.c2, e0, hfr5.cell_at hF.2.2.1 hlbk, e2⟩
          have i1 : (0 : Int) ≤ (i : Int) := by omega
          have i2 : (i : Int) < (ll : Int) := by omega
          have dn : decide ((i : Int) < 0) = false := decide_eq_false (by omega)
          have HF := Lib.hid hF; have HF5 := Lib.hid hF5; have HP5 := Lib.hid hp5; have HO5 := Lib.hid ho5; have HFR5 := Lib.hid hf5; have HNX := Lib.hid hnext; have HUN := Lib.hid hun; have HZR := Lib.hid hzr; have HRUN := Lib.hid hrun
          have hol : out.length < 1000000 := by have := HOL.out; omega
          have hws : w.heap.size ≤ w5.heap.size := hf5.size
          have HOL2 := Lib.hid hol; have HWS := Lib.hid hws
          clear hx h1 hbf hfd hxm hz hKz hnext hok hxl hun hr2 hwt2 hzi hcell2 hzc hxd hp3 ho3 hf3 hb3 hkn5 hfr5 hp5 ho5 hf5 hkbn hzbk hlbk hn5 d0 d1 d2 d3 e0 e2 hrun hol hws hF hF5 hza hzr
          go_upto_region 15 with fail
          have hF := HF.out
          refine wp_region_gate (fun w' => w'.cell? ⟨p, 2, none⟩ = some (.map (some kb)) ∧ w'.cell? ⟨lb, lo + i * 2, none⟩ = some (.slice (some ⟨zb, zo, none⟩) 1 zc) ∧ w'.cell? ⟨lb, lo + i * 2 + 1, none⟩ = some (.string (S xd)) ∧ w'.cell? ⟨zb, zo, none⟩ = some (.int .i64 z)) (fun _ => True) 1000 (by kernel_rfl) ?_
          refine gate_takeF (i := 0) (v := ?_) rfl (by kernel_rfl) (by kernel_rfl) (by kernel_rfl) (fun _ _ _ h => h) (by decide) ⟨hF, fun _ => trivial⟩ (Or.inl ⟨by rfl, ?_⟩) ?_
          rotate_left
          · intro wq hSw; obtain ⟨s0, s1, s2, s3⟩ := hSw; go_simp; rfl
          simp only [Act.put]
          refine gate_takeF (i := 1) (v := ?_) rfl (by kernel_rfl) (by kernel_rfl) (by kernel_rfl) (fun _ _ _ h => h) (by decide) ⟨hF, fun _ => trivial⟩ (Or.inl ⟨by rfl, ?_⟩) ?_
          rotate_left
          · intro wq hSw; obtain ⟨s0, s1, s2, s3⟩ := hSw; go_simp; rfl
          simp only [Act.put]
          refine gate_takeF (i := 2) (v := ?_) rfl (by kernel_rfl) (by kernel_rfl) (by kernel_rfl) (fun _ _ _ h => h) (by decide) ⟨hF, fun _ => trivial⟩ (Or.inl ⟨by rfl, ?_⟩) ?_
          rotate_left
          · intro wq hSw; obtain ⟨s0, s1, s2, s3⟩ := hSw; go_simp; rfl
          simp only [Act.put]
          refine gate_takeF (i := 3) (v := ?_) rfl (by kernel_rfl) (by kernel_rfl) (by kernel_rfl) (fun _ _ _ h => h) (by decide) ⟨hF, fun _ => trivial⟩ (Or.inl ⟨by rfl, ?_⟩) ?_
          rotate_left
          · intro wq hSw; obtain ⟨s0, s1, s2, s3⟩ := hSw; go_simp; rfl
          simp only [Act.put]
          refine gate_takeF (i := 4) (v := ?_) rfl (by kernel_rfl) (by kernel_rfl) (by kernel_rfl) (fun _ _ _ h => h) (by decide) ⟨hF, fun _ => trivial⟩ (Or.inl ⟨by rfl, ?_⟩) ?_
          rotate_left
          · intro wq hSw; obtain ⟨s0, s1, s2, s3⟩ := hSw; go_simp; rfl
          simp only [Act.put]
          refine gate_takeF (i := 5) (v := ?_) rfl (by kernel_rfl) (by kernel_rfl) (by kernel_rfl) (fun _ _ _ h => h) (by decide) ⟨hF, fun _ => trivial⟩ (Or.inl ⟨by rfl, ?_⟩) ?_
          rotate_left
          · intro wq hSw; obtain ⟨s0, s1, s2, s3⟩ := hSw; go_simp; rfl
          simp only [Act.put]
          refine gate_takeF (i := 6) (v := ?_) rfl (by kernel_rfl) (by kernel_rfl) (by kernel_rfl) (fun _ _ _ h => h) (by decide) ⟨hF, fun _ => trivial⟩ (Or.inl ⟨by rfl, ?_⟩) ?_
          rotate_left
          · intro wq hSw; obtain ⟨s0, s1, s2, s3⟩ := hSw; go_simp; rfl
          simp only [Act.put]
          refine gate_takeF (i := 7) (v := ?_) rfl (by kernel_rfl) (by kernel_rfl) (by kernel_rfl) (fun _ _ _ h => h) (by decide) ⟨hF, fun _ => trivial⟩ (Or.inl ⟨by rfl, ?_⟩) ?_
          rotate_left
          · intro wq hSw; obtain ⟨s0, s1, s2, s3⟩ := hSw; go_simp; rfl
          simp only [Act.put]
          refine gate_takeF (i := 8) (v := ?_) rfl (by kernel_rfl) (by kernel_rfl) (by kernel_rfl) (fun _ _ _ h => h) (by decide) ⟨hF, fun _ => trivial⟩ (Or.inl ⟨by rfl, ?_⟩) ?_
          rotate_left
          · intro wq hSw; obtain ⟨s0, s1, s2, s3⟩ := hSw; go_simp; rfl
          simp only [Act.put]
          refine gate_takeF (i := 9) (v := ?_) rfl (by kernel_rfl) (by kernel_rfl) (by kernel_rfl) (fun _ _ _ h => h) (by decide) ⟨hF, fun _ => trivial⟩ (Or.inl ⟨by rfl, ?_⟩) ?_
          rotate_left
          · intro wq hSw; obtain ⟨s0, s1, s2, s3⟩ := hSw; go_simp; rfl
          simp only [Act.put]
          refine gate_takeF (i := 10) (v := ?_) rfl (by kernel_rfl) (by kernel_rfl) (by kernel_rfl) (fun _ _ _ h => h) (by decide) ⟨hF, fun _ => trivial⟩ (Or.inl ⟨by rfl, ?_⟩) ?_
          rotate_left
          · intro wq hSw; obtain ⟨s0, s1, s2, s3⟩ := hSw; go_simp; rfl
          simp only [Act.put]
          refine gate_takeF (i := 11) (v := ?_) rfl (by kernel_rfl) (by kernel_rfl) (by kernel_rfl) (fun _ _ _ h => h) (by decide) ⟨hF, fun _ => trivial⟩ (Or.inl ⟨by rfl, ?_⟩) ?_
          rotate_left
          · intro wq hSw; obtain ⟨s0, s1, s2, s3⟩ := hSw; go_simp; rfl
          simp only [Act.put]
          refine gate_takeF (i := 12) (v := ?_) rfl (by kernel_rfl) (by kernel_rfl) (by kernel_rfl) (fun _ _ _ h => h) (by decide) ⟨hF, fun _ => trivial⟩ (Or.inl ⟨by rfl, ?_⟩) ?_
          rotate_left
          · intro wq hSw; obtain ⟨s0, s1, s2, s3⟩ := hSw; go_simp; rfl
          simp only [Act.put]
          refine gate_takeF (i := 13) (v := ?_) rfl (by kernel_rfl) (by kernel_rfl) (by kernel_rfl) (fun _ _ _ h => h) (by decide) ⟨hF, fun _ => trivial⟩ (Or.inl ⟨by rfl, ?_⟩) ?_
          rotate_left
          · intro wq hSw; obtain ⟨s0, s1, s2, s3⟩ := hSw; go_simp; rfl
          simp only [Act.put]
          refine gate_takeF (i := 14) (v := ?_) rfl (by kernel_rfl) (by kernel_rfl) (by kernel_rfl) (fun _ _ _ h => h) (by decide) ⟨hF, fun _ => trivial⟩ (Or.inl ⟨by rfl, ?_⟩) ?_
          rotate_left
          · intro wq hSw; obtain ⟨s0, s1, s2, s3⟩ := hSw; go_simp; rfl
          simp only [Act.put]
          refine gate_takeF (i := 15) (v := ?_) rfl (by kernel_rfl) (by kernel_rfl) (by kernel_rfl) (fun _ _ _ h => h) (by decide) ⟨hF, fun _ => trivial⟩ (Or.inl ⟨by rfl, ?_⟩) ?_
          rotate_left
          · intro wq hSw; obtain ⟨s0, s1, s2, s3⟩ := hSw; go_simp; rfl
          simp only [Act.put]
          refine gate_one (i := 16) (by kernel_rfl) rfl (fun K hK => ?_)
          have hrun := HRUN.out
          go_simp
          have hF' := HF5.out
          refine hK _ _ ⟨hF', fun _ => trivial⟩ ?_
          clear hK K hF hF' hrun
          refine gate_done (by kernel_rfl) ?_ _
          have k0 := HF5.out.2.1
          have k1 := HF5.out.2.2.2
          go_wp2_with (at_builtin; refine app_intL w5 w.heap.size rfl (.tmp 56) (.tmp 64) rfl _ _ z rfl HO5.out rfl HOL2.out HWS.out ?_; intro v' w6 hown' hf6 hloc)
          have hf6 : Fr (fun j => u3.ownBlock = some j) w5 w6 := hf6
          have hloc : ∀ i, v'.ownBlock = some i → u3.ownBlock = some i ∨ w5.heap.size ≤ i := hloc
          have hp6 := HP5.out.other hf6 hloc
          have hfr6 : Fr G w w6 := HFR5.out.trans hf6 (fun i hi e => by have := (Own.lt HO5.out i e).1; omega)
          have HP6 := Lib.hid hp6; have HF6 := Lib.hid hfr6; have HO6 := Lib.hid hown'
          clear hp6 hfr6 hown' hf6 hloc
          go_roundg f
          case measure => omega
          case rel => exact ⟨updK K1 z xd, leftW K1 L1, out ++ [z], _, lc, by have := HUN.out; have := HUU.out; omega, HNX.out, HO6.out, by rw [List.length_append, List.length_singleton]; have := HUN.out; have := HOL.out; omega, fun y hy => by
            rcases List.mem_append.1 hy with h | h
            · exact HOZ.out y h
            · rw [List.mem_singleton.1 h]; exact HZR.out, HF6.out, HP6.out⟩
end Go.Proofs.YtcpookgbneoilaaDoor
