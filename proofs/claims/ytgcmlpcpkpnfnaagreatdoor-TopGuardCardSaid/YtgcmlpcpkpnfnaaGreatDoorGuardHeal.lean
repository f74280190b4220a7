/- guard.Heal of blocks whose number may be: what it answers, group by group. -/
import Derived.Test.YtgcmlpcpkpnfnaaGreatDoorHealOwn
import Derived.Test.YtgcmlpcpkpnfnaaGreatDoorGateAll
import Derived.Deep.LoopGhost
import Derived.Deep.CutRange
import Derived.Deep.CutBlock
import Derived.Deep.Light
namespace Go.Proofs.YtgcmlpcpkpnfnaaGreatDoor
open Go.ChangeShapes Go.WideShapes Go.ChangeAt Go.RowKit

/-- what lacks of group g -/
def lkG (lk : List Bool) (n e g : Nat) : List Bool := grpAt lk n e g ++ [lk.getD (n + g) false]
def gsG (xs : List ByteArray) (n e g : Nat) : List ByteArray := grpAt xs n e g ++ [xs.getD (n + g) ByteArray.empty]
def hlG (xs : List ByteArray) (lk : List Bool) (m n e g : Nat) : List ByteArray := (hlS m (gsG xs n e g) (lkG lk n e g)).take (grpAt xs n e g).length
/-- the first error of the groups from g on -/
def hgE (xs : List ByteArray) (lk : List Bool) (m n e : Nat) : Nat → Nat → Nat
  | 0, _ => 0
  | f + 1, g => if hlE m (gsG xs n e g) (lkG lk n e g) = 0 then hgE xs lk m n e f (g + 1) else hlE m (gsG xs n e g) (lkG lk n e g)
/-- the blocks of the first groups -/
def hgS (xs : List ByteArray) (lk : List Bool) (m n e : Nat) : Nat → List ByteArray
  | 0 => []
  | g + 1 => hgS xs lk m n e g ++ hlG xs lk m n e g

theorem hgS_le (xs : List ByteArray) (lk : List Bool) (m n e : Nat) (he : e ≤ 16) : ∀ g, (hgS xs lk m n e g).length ≤ g * 16
  | 0 => Nat.zero_le _
  | g + 1 => by
    have ih := hgS_le xs lk m n e he g
    have h1 : (hlG xs lk m n e g).length ≤ (grpAt xs n e g).length := List.length_take_le _ _
    have h2 : (grpAt xs n e g).length ≤ e := List.length_take_le _ _
    rw [hgS, List.length_append]
    omega

set_option maxHeartbeats 4000000 in
set_option maxRecDepth 100000 in
theorem Heal_go (a : Option Addr) (N cap : Nat) (xs : List ByteArray) (a2 : Option Addr) (c2 : Nat) (lk : List Bool) (e : Nat) (w : World) (h : StrsAt w a N cap xs) (hb : BoolsAt w a2 N c2 lk) (hok : chk xs = 0) (he : 1 ≤ e) (he2 : e ≤ 16) (hd : dat N e ≠ 0) :
    Calls Tryz.prog 16 #[.slice a N cap, .slice a2 N c2, .int .i64 e] w fun x w' => (∃ v, x = .returned (.tuple #[v, errv (hgE xs lk (szAt xs 0) (dat N e) e (grps (dat N e) e) 0)]) ∧
      (hgE xs lk (szAt xs 0) (dat N e) e (grps (dat N e) e) 0 = 0 → OwnStrs w' w.heap.size v (hgS xs lk (szAt xs 0) (dat N e) e (grps (dat N e) e))) ∧ (hgE xs lk (szAt xs 0) (dat N e) e (grps (dat N e) e) 0 ≠ 0 → v = .slice none 0 0)) ∧ Lat w w' := by
  have hck := chk_ok hok
  have hl := h.len
  have hl2 := hb.len
  have hNc := h.row.le
  have hNc2 := hb.row.le
  have hcm := h.row.cap
  have hcm2 := hb.row.cap
  unfold maxLen at hcm hcm2
  have hN16 : N ≤ 16 := by have := hck.most; omega
  have hN1 : 1 ≤ N := by have := hck.pos; omega
  obtain ⟨b, off, rfl, -⟩ := h.row.at_ (by omega)
  obtain ⟨b2, off2, rfl, -⟩ := hb.row.at_ (by omega)
  have hds := dat_spec N e hd
  have hda := fun W => data_any N e W hN1 (by omega) he he2
  obtain ⟨n, hn⟩ : ∃ n, n = dat N e := ⟨_, rfl⟩
  rw [← hn] at hd hds hda ⊢
  have hgr := fun W => groups_any n e W (by omega) he he2
  obtain ⟨G, hG⟩ : ∃ G, G = grps n e := ⟨_, rfl⟩
  have hGl := fun g => grps_lt n e g he
  rw [← hG] at hds hgr hGl ⊢
  have hns : n + G = N := hds.1
  have d0 : ((n : Int) == 0) = false := by simp; omega
  have hm8 := hck.eight
  obtain ⟨m, hm⟩ : ∃ m, m = szAt xs 0 := ⟨_, rfl⟩
  have hsz := add_sizes hck
  rw [← hm] at hm8 hsz ⊢
  have H1 := Lib.hid h; have H2 := Lib.hid hb; have HK := Lib.hid hok; have HDA := Lib.hid hda; have HGR := Lib.hid hgr; have HGL := Lib.hid hGl; have HSZ := Lib.hid hsz; have HN := Lib.hid hns; have HLL := Lib.hid hl; have HLL2 := Lib.hid hl2
  clear h hb hok hck hl hl2 hda hgr hGl hsz hm hds hn hG hns
  obtain ⟨Z, hZ⟩ : ∃ Z, Z = hgE xs lk m n e G 0 := ⟨_, rfl⟩
  rw [← hZ]
  have HZ := Lib.hid hZ
  clear hZ
  go_enter Tryz.func16, Tryz.ntmps16
  go_wp2_with (first
    | (go_at_call 22; refine (check_ok _ N cap xs _ H1.out HK.out).mono ?_; rintro x w1 ⟨rfl, hb1⟩)
    | (go_at_call 23; refine (dblocks_yes e _ (by omega) (by omega)).mono ?_; rintro x w2 ⟨rfl, rfl⟩)
    | (go_at_call 42; refine (HDA.out _).mono ?_; rintro x w2 ⟨rfl, rfl⟩)
    | (go_at_call 24; refine (HGR.out _).mono ?_; rintro x w2 ⟨rfl, rfl⟩))
  have HB1 := Lib.hid hb1
  clear hb1
  go_loopg [10, 11, 12, 13, 14, 15, 43] (G + 1) (fun f out _ _ _ _ _ i wr => ∃ g : Nat, g ≤ G ∧ i = .int .i64 g ∧ Hid (f + g = G + 1 ∧ hgE xs lk m n e (G - g) g = Z ∧ OwnStrs wr w.heap.size out (hgS xs lk m n e g) ∧ Lat w wr))
  case atStart => exact ⟨0, Nat.zero_le _, rfl, rfl, HZ.out.symm, Own.nil _ _ _, HB1.out⟩
  case round =>
    obtain ⟨g, hg, rfl, hrel⟩ := hrel
    by_cases hlt : g < G
    · obtain ⟨hf, hz, hown, hlat⟩ := hrel.out
      have hge : g * e < n := (HGL.out g).1 hlt
      have hp1 : (g + 1) * e = g * e + e := Nat.succ_mul g e
      obtain ⟨q, hq⟩ : ∃ q, q = g * e := ⟨_, rfl⟩
      rw [← hq] at hge hp1
      obtain ⟨t, ht⟩ : ∃ t, t = min e (n - q) := ⟨_, rfl⟩
      have ht1 : 1 ≤ t := by omega
      have ht16 : t ≤ 16 := by omega
      obtain ⟨tq, hto⟩ : ∃ tq, tq = q + t := ⟨_, rfl⟩
      have hN := HN.out
      have hqt : q ≤ tq := by omega
      have hton : tq ≤ n := by omega
      have htoN : tq ≤ N := by omega
      have hq16 : q ≤ 16 := by omega
      have hqlt : q < tq := by omega
      have htq16 : tq ≤ 16 := by omega
      have htqc : tq ≤ cap := by omega
      have htqc2 : tq ≤ c2 := by omega
      have hg16 : g ≤ 16 := by omega
      have hn16 : n ≤ 16 := by omega
      have hng : n + g < N := by omega
      obtain ⟨ng, hng2⟩ : ∃ x, x = n + g := ⟨_, rfl⟩
      have HNG : Hid (IntKind.i64.wrap ((n : Int) + (g : Int)) = (ng : Int)) := by
        have h2 : IntKind.i64.wrap ((n : Int) + (g : Int)) = (n : Int) + (g : Int) := IntWalk.i64_in _ (by omega)
        have h3 : ((n + g : Nat) : Int) = (n : Int) + (g : Int) := Int.natCast_add n g
        rw [← hng2] at h3
        exact h2.trans h3.symm
      have hngN : ng < N := by omega
      have hng0 : (0 : Int) ≤ (ng : Int) := by omega
      have hngI : (ng : Int) < (N : Int) := by omega
      have HTT : Hid (tq - q = t) := by show tq - q = t; omega
      have E12 : Hid (wrap64 ((g : Int) * (e : Int)) = (q : Int)) := wrap_q g e q hq hq16
      have E13 : Hid ((if wrap64 (((g : Int) + 1) * (e : Int)) < (n : Int) then wrap64 (((g : Int) + 1) * (e : Int)) else (n : Int)) = (tq : Int)) := wrap_tq g e q n t tq hq ht hto hge hn16 he2
      have hgs : StrsAt wr (some ⟨b, off + q, none⟩) t (cap - q) (grpAt xs n e g) := grp_strs (H1.out.keep hlat) (by omega) e g hq ht hge
      have hgb : BoolsAt wr (some ⟨b2, off2 + q, none⟩) t (c2 - q) (grpAt lk n e g) := grp_bools (H2.out.keep hlat) (by omega) e g hq ht hge
      obtain ⟨xz, hxz⟩ : ∃ x, x = xs.getD (n + g) ByteArray.empty := ⟨_, rfl⟩
      obtain ⟨lz, hlz⟩ : ∃ x, x = lk.getD (n + g) false := ⟨_, rfl⟩
      have hcx : wr.cell? ⟨b, off + ng, none⟩ = some (.string xz) := by
        obtain ⟨b', o', ha, hc⟩ := (H1.out.keep hlat).row.at_ (by omega)
        injection ha with ha
        injection ha with ha1 ha2 _
        subst ha1
        subst ha2
        rw [hxz]; rw [hng2]; exact hc (n + g) hng
      have hcl : wr.cell? ⟨b2, off2 + ng, none⟩ = some (.bool lz) := by
        obtain ⟨b', o', ha, hc⟩ := (H2.out.keep hlat).row.at_ (by omega)
        injection ha with ha
        injection ha with ha1 ha2 _
        subst ha1
        subst ha2
        rw [hlz]; rw [hng2]; exact hc (n + g) hng
      have hgl1 := hgs.len
      have hgl2 := hgb.len
      have hms : (grpAt xs n e g).map Value.string ++ [.string xz] = (gsG xs n e g).map Value.string := by unfold gsG; rw [List.map_append, hxz]; rfl
      have hmb : (grpAt lk n e g).map Value.bool ++ [.bool lz] = (lkG lk n e g).map Value.bool := by unfold lkG; rw [List.map_append, hlz]; rfl
      have hgsl : (gsG xs n e g).length = t + 1 := by unfold gsG; rw [List.length_append, hgl1]; rfl
      have hlkl : (lkG lk n e g).length = t + 1 := by unfold lkG; rw [List.length_append, hgl2]; rfl
      have hgss : ∀ s ∈ gsG xs n e g, s.size = m := fun s hs => by
        rcases List.mem_append.1 hs with hs | hs
        · exact HSZ.out s (List.mem_of_mem_take (List.mem_of_mem_drop (List.mem_of_mem_take hs)))
        · rw [List.mem_singleton.1 hs]
          refine HSZ.out _ ?_
          rw [List.getD_eq_getElem?_getD, List.getElem?_eq_getElem (by have := HLL.out; omega)]
          exact List.getElem_mem _
      have HML1 : Hid (((grpAt xs n e g).map Value.string).length = t) := by show _ = _; rw [List.length_map]; exact hgl1
      have HML2 : Hid (((grpAt lk n e g).map Value.bool).length = t) := by show _ = _; rw [List.length_map]; exact hgl2
      have HHSL : Hid ((hlS m (gsG xs n e g) (lkG lk n e g)).length = t + 1) := by show _ = _; rw [hlS_length]; exact hgsl
      have hhl : hlG xs lk m n e g = (hlS m (gsG xs n e g) (lkG lk n e g)).take t := by unfold hlG; rw [hgl1]
      have HF := Lib.hid hf; have HZZ := Lib.hid hz; have HO := Lib.hid hown; have HLT := Lib.hid hlat
      have HGS := Lib.hid hgs; have HGB := Lib.hid hgb; have HCX := Lib.hid hcx; have HCL := Lib.hid hcl; have HGL1 := Lib.hid hgl1; have HGL2 := Lib.hid hgl2; have HMS := Lib.hid hms; have HMB := Lib.hid hmb
      have HGSL := Lib.hid hgsl; have HLKL := Lib.hid hlkl; have HGSS := Lib.hid hgss; have HHL := Lib.hid hhl; have HTO := Lib.hid hto
      clear hng2 hng hrel hf hz hown hlat hp1 hgs hgb hcx hcl hgl1 hgl2 hms hmb hgsl hlkl hgss hhl hq ht hN hto hxz hlz
      go_upto_region 16 with fail
      rw [E13.out, E12.out]
      -- REGION 16
      go_cut [14, 15] from 44 to 91 (fun x er wx => HealEnd wr wx x er (hlE m (gsG xs n e g) (lkG lk n e g)) t (hlS m (gsG xs n e g) (lkG lk n e g)))
      case first =>
        have hF : Lat wr wr.drew := Lat.drew wr
        refine wp_region_gate (fun W => Lat wr W) (fun _ => True) 1000 (by kernel_rfl) ?_
        obtain ⟨w0, hw0⟩ : ∃ x, x = wr.drew := ⟨_, rfl⟩
        rw [← hw0] at hF ⊢
        clear hw0
        refine gate_takeF (i := 0) (v := ?_) rfl (by kernel_rfl) (by kernel_rfl) (by kernel_rfl) (fun _ _ _ h => h) (by decide) ⟨hF, fun _ => trivial⟩ (Or.inl ⟨by rfl, ?_⟩) ?_
        rotate_left
        · intro wq hSw; go_simp; rfl
        simp only [Act.put]
        refine gate_takeF (i := 1) (v := ?_) rfl (by kernel_rfl) (by kernel_rfl) (by kernel_rfl) (fun _ _ _ h => h) (by decide) ⟨hF, fun _ => trivial⟩ (Or.inl ⟨by rfl, ?_⟩) ?_
        rotate_left
        · intro wq hSw; go_simp; rfl
        simp only [Act.put]
        refine gate_takeF (i := 2) (v := ?_) rfl (by kernel_rfl) (by kernel_rfl) (by kernel_rfl) (fun _ _ _ h => h) (by decide) ⟨hF, fun _ => trivial⟩ (Or.inl ⟨by rfl, ?_⟩) ?_
        rotate_left
        · intro wq hSw; go_simp; rfl
        simp only [Act.put]
        refine gate_takeF (i := 3) (v := ?_) rfl (by kernel_rfl) (by kernel_rfl) (by kernel_rfl) (fun _ _ _ h => h) (by decide) ⟨hF, fun _ => trivial⟩ (Or.inl ⟨by rfl, ?_⟩) ?_
        rotate_left
        · intro wq hSw; have h0q : (0 : Int) ≤ (q : Int) := (by omega); have h1q : (q : Int) ≤ (tq : Int) := (by omega); have hcq : ¬ cap = q := (by omega); have hcq2 : ¬ c2 = q := (by omega); have hwq := IntWalk.wrap64_in (q : Int) (by omega); go_simp; rfl
        simp only [Act.put]
        refine gate_takeF (i := 5) (v := ?_) rfl (by kernel_rfl) (by kernel_rfl) (by kernel_rfl) (fun _ _ _ h => h) (by decide) ⟨hF, fun _ => trivial⟩ (Or.inl ⟨by rfl, ?_⟩) ?_
        rotate_left
        · intro wq hSw; go_simp; rfl
        simp only [Act.put]
        refine gate_takeF (i := 6) (v := ?_) rfl (by kernel_rfl) (by kernel_rfl) (by kernel_rfl) (fun _ _ _ h => h) (by decide) ⟨hF, fun _ => trivial⟩ (Or.inl ⟨by rfl, ?_⟩) ?_
        rotate_left
        · intro wq hSw; go_simp; rfl
        simp only [Act.put]
        refine gate_takeF (i := 7) (v := ?_) rfl (by kernel_rfl) (by kernel_rfl) (by kernel_rfl) (fun _ _ _ h => h) (by decide) ⟨hF, fun _ => trivial⟩ (Or.inl ⟨by rfl, ?_⟩) ?_
        rotate_left
        · intro wq hSw; go_simp; rfl
        simp only [Act.put]
        refine gate_takeF (i := 8) (v := ?_) rfl (by kernel_rfl) (by kernel_rfl) (by kernel_rfl) (fun _ _ _ h => h) (by decide) ⟨hF, fun _ => trivial⟩ (Or.inl ⟨by rfl, ?_⟩) ?_
        rotate_left
        · intro wq hSw; go_simp; rfl
        simp only [Act.put]
        refine gate_takeF (i := 9) (v := ?_) rfl (by kernel_rfl) (by kernel_rfl) (by kernel_rfl) (fun _ _ _ h => h) (by decide) ⟨hF, fun _ => trivial⟩ (Or.inl ⟨by rfl, ?_⟩) ?_
        rotate_left
        · intro wq hSw; have hwq : IntKind.i64.wrap ((n : Int) + (g : Int)) = (ng : Int) := HNG.out; go_simp; rfl
        simp only [Act.put]
        refine gate_takeF (i := 10) (v := ?_) rfl (by kernel_rfl) (by kernel_rfl) (by kernel_rfl) (fun _ _ _ h => h) (by decide) ⟨hF, fun _ => trivial⟩ (Or.inl ⟨by rfl, ?_⟩) ?_
        rotate_left
        · intro wq hSw; have cx := hSw.cell_at HCX.out; have cl := hSw.cell_at HCL.out; go_simp; rfl
        simp only [Act.put]
        refine gate_takeF (i := 13) (v := ?_) rfl (by kernel_rfl) (by kernel_rfl) (by kernel_rfl) (fun _ _ _ h => h) (by decide) ⟨hF, fun _ => trivial⟩ (Or.inl ⟨by rfl, ?_⟩) ?_
        rotate_left
        · intro wq hSw; go_simp; rfl
        simp only [Act.put]
        refine gate_takeF (i := 14) (v := ?_) rfl (by kernel_rfl) (by kernel_rfl) (by kernel_rfl) (fun _ _ _ h => h) (by decide) ⟨hF, fun _ => trivial⟩ (Or.inl ⟨by rfl, ?_⟩) ?_
        rotate_left
        · intro wq hSw; go_simp; rfl
        simp only [Act.put]
        refine gate_takeF (i := 15) (v := ?_) rfl (by kernel_rfl) (by kernel_rfl) (by kernel_rfl) (fun _ _ _ h => h) (by decide) ⟨hF, fun _ => trivial⟩ (Or.inl ⟨by rfl, ?_⟩) ?_
        rotate_left
        · intro wq hSw; go_simp; rfl
        simp only [Act.put]
        refine gate_takeF (i := 16) (v := ?_) rfl (by kernel_rfl) (by kernel_rfl) (by kernel_rfl) (fun _ _ _ h => h) (by decide) ⟨hF, fun _ => trivial⟩ (Or.inl ⟨by rfl, ?_⟩) ?_
        rotate_left
        · intro wq hSw; have h0q : (0 : Int) ≤ (q : Int) := (by omega); have h1q : (q : Int) ≤ (tq : Int) := (by omega); have hcq : ¬ cap = q := (by omega); have hcq2 : ¬ c2 = q := (by omega); have hwq := IntWalk.wrap64_in (q : Int) (by omega); go_simp; rfl
        simp only [Act.put]
        refine gate_takeF (i := 18) (v := ?_) rfl (by kernel_rfl) (by kernel_rfl) (by kernel_rfl) (fun _ _ _ h => h) (by decide) ⟨hF, fun _ => trivial⟩ (Or.inl ⟨by rfl, ?_⟩) ?_
        rotate_left
        · intro wq hSw; go_simp; rfl
        simp only [Act.put]
        refine gate_takeF (i := 19) (v := ?_) rfl (by kernel_rfl) (by kernel_rfl) (by kernel_rfl) (fun _ _ _ h => h) (by decide) ⟨hF, fun _ => trivial⟩ (Or.inl ⟨by rfl, ?_⟩) ?_
        rotate_left
        · intro wq hSw; go_simp; rfl
        simp only [Act.put]
        refine gate_takeF (i := 20) (v := ?_) rfl (by kernel_rfl) (by kernel_rfl) (by kernel_rfl) (fun _ _ _ h => h) (by decide) ⟨hF, fun _ => trivial⟩ (Or.inl ⟨by rfl, ?_⟩) ?_
        rotate_left
        · intro wq hSw; go_simp; rfl
        simp only [Act.put]
        refine gate_takeF (i := 21) (v := ?_) rfl (by kernel_rfl) (by kernel_rfl) (by kernel_rfl) (fun _ _ _ h => h) (by decide) ⟨hF, fun _ => trivial⟩ (Or.inl ⟨by rfl, ?_⟩) ?_
        rotate_left
        · intro wq hSw; go_simp; rfl
        simp only [Act.put]
        refine gate_takeF (i := 22) (v := ?_) rfl (by kernel_rfl) (by kernel_rfl) (by kernel_rfl) (fun _ _ _ h => h) (by decide) ⟨hF, fun _ => trivial⟩ (Or.inl ⟨by rfl, ?_⟩) ?_
        rotate_left
        · intro wq hSw; have hwq : IntKind.i64.wrap ((n : Int) + (g : Int)) = (ng : Int) := HNG.out; go_simp; rfl
        simp only [Act.put]
        refine gate_takeF (i := 23) (v := ?_) rfl (by kernel_rfl) (by kernel_rfl) (by kernel_rfl) (fun _ _ _ h => h) (by decide) ⟨hF, fun _ => trivial⟩ (Or.inl ⟨by rfl, ?_⟩) ?_
        rotate_left
        · intro wq hSw; have cx := hSw.cell_at HCX.out; have cl := hSw.cell_at HCL.out; go_simp; rfl
        simp only [Act.put]
        simp only [List.getElem_toArray, List.getElem_cons_succ, List.getElem_cons_zero, List.setIfInBounds_toArray, List.set_cons_succ, List.set_cons_zero]
        rw [HTT.out]
        refine gate_all (rs := [4, 11, 24]) (by kernel_rfl) (by simp) ?_
        refine GateAll.cons rfl (fun K hK => ?_) ?_
        · go_simp
          refine (clone_str _ t _ (grpAt xs n e g) w0 (HGS.out.keep hF) ht1 (by omega)).mono ?_
          rintro y w4 ⟨v4, rfl, o4, b4⟩
          have l4 := Lat.trans hF b4
          have o4 := Own.mono o4 (hF).size
          obtain ⟨a4, c4, rfl⟩ := own_len o4 HML1.out
          refine hK _ _ ⟨l4, fun _ => trivial⟩ ?_
          clear hK K
          refine gate_all (rs := [11, 24]) (by kernel_rfl) (by simp) ?_
          refine GateAll.cons rfl (fun K hK => ?_) ?_
          · go_simp
            have b11 : Lat w4 (w4.alloc (.cells #[.string xz] 9)) := Lat.alloc _ _
            have o11 : Own (w4.alloc (.cells #[.string xz] 9)) wr.heap.size 9 (.slice (some ⟨w4.heap.size, 0, none⟩) 1 1) [.string xz] := own_one w4 wr.heap.size 9 (.string xz) (l4).size
            have o4 := o4.keep b11
            have l11 := Lat.trans l4 b11
            obtain ⟨g11, hg11⟩ : ∃ x, x = w4.heap.size := ⟨_, rfl⟩
            obtain ⟨w11, hw11⟩ : ∃ x, x = w4.alloc (.cells #[.string xz] 9) := ⟨_, rfl⟩
            rw [← hw11] at b11 o11 l11 o4 ⊢
            rw [← hg11] at o11 ⊢
            clear hw11 hg11
            refine hK _ _ ⟨l11, fun _ => trivial⟩ ?_
            clear hK K
            refine gate_all (rs := [12, 24]) (by kernel_rfl) (by simp) ?_
            refine GateAll.cons rfl (fun K hK => ?_) ?_
            · obtain ⟨a12, c12, w12, hrun, o12, gr12⟩ := app_own (P := Tryz.prog) w11 wr.heap.size 22 22 9 (.string .empty) 16 Tryz.underlying22 info_string rfl (by decide) o4 o11 rfl HML1.out (by omega) (l11).size
              have l12 := lat_grown l11 gr12 (fun k hk => (Own.lt o4 k hk).1)
              refine app_step rfl (.tmp 60) (.tmp 67) 22 rfl (.slice a4 t c4) (.slice (some ⟨g11, 0, none⟩) 1 1) _ rfl rfl hrun ?_
              refine hK _ _ ⟨l12, fun _ => trivial⟩ ?_
              clear hK K
              refine gate_all (rs := [17, 24]) (by kernel_rfl) (by simp) ?_
              refine GateAll.cons rfl (fun K hK => ?_) ?_
              · go_simp
                refine (clone_bool _ t _ (grpAt lk n e g) w12 (HGB.out.keep l12) ht1 (by omega)).mono ?_
                rintro y w17 ⟨v17, rfl, o17, b17⟩
                have l17 := Lat.trans l12 b17
                have o17 := Own.mono o17 (l12).size
                have o12 := o12.keep b17
                obtain ⟨a17, c17, rfl⟩ := own_len o17 HML2.out
                refine hK _ _ ⟨l17, fun _ => trivial⟩ ?_
                clear hK K
                refine gate_all (rs := [24]) (by kernel_rfl) (by simp) ?_
                refine GateAll.cons rfl (fun K hK => ?_) ?_
                · go_simp
                  have b24 : Lat w17 (w17.alloc (.cells #[.bool lz] 4)) := Lat.alloc _ _
                  have o24 : Own (w17.alloc (.cells #[.bool lz] 4)) wr.heap.size 4 (.slice (some ⟨w17.heap.size, 0, none⟩) 1 1) [.bool lz] := own_one w17 wr.heap.size 4 (.bool lz) (l17).size
                  have o12 := o12.keep b24
                  have o17 := o17.keep b24
                  have l24 := Lat.trans l17 b24
                  obtain ⟨g24, hg24⟩ : ∃ x, x = w17.heap.size := ⟨_, rfl⟩
                  obtain ⟨w24, hw24⟩ : ∃ x, x = w17.alloc (.cells #[.bool lz] 4) := ⟨_, rfl⟩
                  rw [← hw24] at b24 o24 l24 o12 o17 ⊢
                  rw [← hg24] at o24 ⊢
                  clear hw24 hg24
                  refine hK _ _ ⟨l24, fun _ => trivial⟩ ?_
                  clear hK K
                  refine gate_all (rs := [25]) (by kernel_rfl) (by simp) ?_
                  refine GateAll.cons rfl (fun K hK => ?_) ?_
                  · obtain ⟨a25, c25, w25, hrun, o25, gr25⟩ := app_own (P := Tryz.prog) w24 wr.heap.size 45 45 4 (.bool false) 1 Tryz.underlying45 info_boolT rfl (by decide) o17 o24 rfl HML2.out (by omega) (l24).size
                    have l25 := lat_grown l24 gr25 (fun k hk => (Own.lt o17 k hk).1)
                    have o12 := Own.grown o12 gr25 (Own.apart o12 o17 (by decide))
                    refine app_step rfl (.tmp 73) (.tmp 80) 45 rfl (.slice a17 t c17) (.slice (some ⟨g24, 0, none⟩) 1 1) _ rfl rfl hrun ?_
                    refine hK _ _ ⟨l25, fun _ => trivial⟩ ?_
                    clear hK K
                    refine gate_all (rs := [26]) (by kernel_rfl) (by simp) ?_
                    refine GateAll.cons rfl (fun K hK => ?_) ?_
                    · rw [HMS.out] at o12
                      rw [HMB.out] at o25
                      obtain ⟨bk, rfl, hB26, hL26, hkc26, hcm26, hbk26⟩ := blk_strs o12 (by rw [HGSL.out]; omega)
                      obtain ⟨hL25, hbo25⟩ := bools_at o25
                      rw [HGSL.out] at hbk26
                      rw [HLKL.out] at hbo25
                      clear hL26 hL25
                      go_simp
                      refine (heal_any bk (t + 1) _ (gsG xs n e g) m _ _ (lkG lk n e g) w25 hbk26 HGSL.out hkc26 hcm26 (by omega) hm8 HGSS.out hbo25 (by omega)).mono ?_
                      rintro y w26 ⟨hy, hb26, bel26⟩
                      have l26 : Lat wr w26 := Below.trans l25 (bel26.mono hB26)
                      have hen := heal_end (E := hlE m (gsG xs n e g) (lkG lk n e g)) HHSL.out hkc26 hcm26 hb26 l26
                      obtain ⟨XV, hXV⟩ : ∃ x, x = (if hlE m (gsG xs n e g) (lkG lk n e g) = 0 then Value.slice (some ⟨bk, 0, none⟩) (t + 1 - 1) c12 else .slice none 0 0) := ⟨_, rfl⟩
                      obtain ⟨EV, hEV⟩ : ∃ x, x = errv (hlE m (gsG xs n e g) (lkG lk n e g)) := ⟨_, rfl⟩
                      rw [← hXV, ← hEV] at hy hen
                      subst hy
                      have hend := Lib.hid hen
                      clear hen hXV hEV
                      clear o12 o25 hbk26 hbo25 hb26 bel26
                      refine hK _ _ ⟨l26, fun _ => trivial⟩ ?_
                      clear hK K
                      refine gate_takeF (i := 27) (v := ?_) rfl (by kernel_rfl) (by kernel_rfl) (by kernel_rfl) (fun _ _ _ h => h) (by decide) ⟨l26, fun _ => trivial⟩ (Or.inl ⟨by rfl, ?_⟩) ?_
                      rotate_left
                      · intro wq hSw; go_simp; rfl
                      simp only [Act.put]
                      refine gate_takeF (i := 28) (v := ?_) rfl (by kernel_rfl) (by kernel_rfl) (by kernel_rfl) (fun _ _ _ h => h) (by decide) ⟨l26, fun _ => trivial⟩ (Or.inl ⟨by rfl, ?_⟩) ?_
                      rotate_left
                      · intro wq hSw; go_simp; rfl
                      simp only [Act.put]
                      refine gate_takeF (i := 29) (v := ?_) rfl (by kernel_rfl) (by kernel_rfl) (by kernel_rfl) (fun _ _ _ h => h) (by decide) ⟨l26, fun _ => trivial⟩ (Or.inl ⟨by rfl, ?_⟩) ?_
                      rotate_left
                      · intro wq hSw; go_simp; rfl
                      simp only [Act.put]
                      refine gate_takeF (i := 30) (v := ?_) rfl (by kernel_rfl) (by kernel_rfl) (by kernel_rfl) (fun _ _ _ h => h) (by decide) ⟨l26, fun _ => trivial⟩ (Or.inl ⟨by rfl, ?_⟩) ?_
                      rotate_left
                      · intro wq hSw; go_simp; rfl
                      simp only [Act.put]
                      refine gate_takeF (i := 31) (v := ?_) rfl (by kernel_rfl) (by kernel_rfl) (by kernel_rfl) (fun _ _ _ h => h) (by decide) ⟨l26, fun _ => trivial⟩ (Or.inl ⟨by rfl, ?_⟩) ?_
                      rotate_left
                      · intro wq hSw; go_simp; rfl
                      simp only [Act.put]
                      refine gate_done (by kernel_rfl) ?_ _
                      simp only [List.getElem_toArray, List.getElem_cons_succ, List.getElem_cons_zero]
                      go_wp2
                      go_meet
                      case rel => exact hend.out
                    exact GateAll.nil
                  exact GateAll.nil
                exact GateAll.nil
              refine GateAll.cons rfl (fun K hK => ?_) ?_
              · go_simp
                have b24 : Lat w12 (w12.alloc (.cells #[.bool lz] 4)) := Lat.alloc _ _
                have o24 : Own (w12.alloc (.cells #[.bool lz] 4)) wr.heap.size 4 (.slice (some ⟨w12.heap.size, 0, none⟩) 1 1) [.bool lz] := own_one w12 wr.heap.size 4 (.bool lz) (l12).size
                have o12 := o12.keep b24
                have l24 := Lat.trans l12 b24
                obtain ⟨g24, hg24⟩ : ∃ x, x = w12.heap.size := ⟨_, rfl⟩
                obtain ⟨w24, hw24⟩ : ∃ x, x = w12.alloc (.cells #[.bool lz] 4) := ⟨_, rfl⟩
                rw [← hw24] at b24 o24 l24 o12 ⊢
                rw [← hg24] at o24 ⊢
                clear hw24 hg24
                refine hK _ _ ⟨l24, fun _ => trivial⟩ ?_
                clear hK K
                refine gate_all (rs := [17]) (by kernel_rfl) (by simp) ?_
                refine GateAll.cons rfl (fun K hK => ?_) ?_
                · go_simp
                  refine (clone_bool _ t _ (grpAt lk n e g) w24 (HGB.out.keep l24) ht1 (by omega)).mono ?_
                  rintro y w17 ⟨v17, rfl, o17, b17⟩
                  have l17 := Lat.trans l24 b17
                  have o17 := Own.mono o17 (l24).size
                  have o12 := o12.keep b17
                  have o24 := o24.keep b17
                  obtain ⟨a17, c17, rfl⟩ := own_len o17 HML2.out
                  refine hK _ _ ⟨l17, fun _ => trivial⟩ ?_
                  clear hK K
                  refine gate_all (rs := [25]) (by kernel_rfl) (by simp) ?_
                  refine GateAll.cons rfl (fun K hK => ?_) ?_
                  · obtain ⟨a25, c25, w25, hrun, o25, gr25⟩ := app_own (P := Tryz.prog) w17 wr.heap.size 45 45 4 (.bool false) 1 Tryz.underlying45 info_boolT rfl (by decide) o17 o24 rfl HML2.out (by omega) (l17).size
                    have l25 := lat_grown l17 gr25 (fun k hk => (Own.lt o17 k hk).1)
                    have o12 := Own.grown o12 gr25 (Own.apart o12 o17 (by decide))
                    refine app_step rfl (.tmp 73) (.tmp 80) 45 rfl (.slice a17 t c17) (.slice (some ⟨g24, 0, none⟩) 1 1) _ rfl rfl hrun ?_
                    refine hK _ _ ⟨l25, fun _ => trivial⟩ ?_
                    clear hK K
                    refine gate_all (rs := [26]) (by kernel_rfl) (by simp) ?_
                    refine GateAll.cons rfl (fun K hK => ?_) ?_
                    · rw [HMS.out] at o12
                      rw [HMB.out] at o25
                      obtain ⟨bk, rfl, hB26, hL26, hkc26, hcm26, hbk26⟩ := blk_strs o12 (by rw [HGSL.out]; omega)
                      obtain ⟨hL25, hbo25⟩ := bools_at o25
                      rw [HGSL.out] at hbk26
                      rw [HLKL.out] at hbo25
                      clear hL26 hL25
                      go_simp
                      refine (heal_any bk (t + 1) _ (gsG xs n e g) m _ _ (lkG lk n e g) w25 hbk26 HGSL.out hkc26 hcm26 (by omega) hm8 HGSS.out hbo25 (by omega)).mono ?_
                      rintro y w26 ⟨hy, hb26, bel26⟩
                      have l26 : Lat wr w26 := Below.trans l25 (bel26.mono hB26)
                      have hen := heal_end (E := hlE m (gsG xs n e g) (lkG lk n e g)) HHSL.out hkc26 hcm26 hb26 l26
                      obtain ⟨XV, hXV⟩ : ∃ x, x = (if hlE m (gsG xs n e g) (lkG lk n e g) = 0 then Value.slice (some ⟨bk, 0, none⟩) (t + 1 - 1) c12 else .slice none 0 0) := ⟨_, rfl⟩
                      obtain ⟨EV, hEV⟩ : ∃ x, x = errv (hlE m (gsG xs n e g) (lkG lk n e g)) := ⟨_, rfl⟩
                      rw [← hXV, ← hEV] at hy hen
                      subst hy
                      have hend := Lib.hid hen
                      clear hen hXV hEV
                      clear o12 o25 hbk26 hbo25 hb26 bel26
                      refine hK _ _ ⟨l26, fun _ => trivial⟩ ?_
                      clear hK K
                      refine gate_takeF (i := 27) (v := ?_) rfl (by kernel_rfl) (by kernel_rfl) (by kernel_rfl) (fun _ _ _ h => h) (by decide) ⟨l26, fun _ => trivial⟩ (Or.inl ⟨by rfl, ?_⟩) ?_
                      rotate_left
                      · intro wq hSw; go_simp; rfl
                      simp only [Act.put]
                      refine gate_takeF (i := 28) (v := ?_) rfl (by kernel_rfl) (by kernel_rfl) (by kernel_rfl) (fun _ _ _ h => h) (by decide) ⟨l26, fun _ => trivial⟩ (Or.inl ⟨by rfl, ?_⟩) ?_
                      rotate_left
                      · intro wq hSw; go_simp; rfl
                      simp only [Act.put]
                      refine gate_takeF (i := 29) (v := ?_) rfl (by kernel_rfl) (by kernel_rfl) (by kernel_rfl) (fun _ _ _ h => h) (by decide) ⟨l26, fun _ => trivial⟩ (Or.inl ⟨by rfl, ?_⟩) ?_
                      rotate_left
                      · intro wq hSw; go_simp; rfl
                      simp only [Act.put]
                      refine gate_takeF (i := 30) (v := ?_) rfl (by kernel_rfl) (by kernel_rfl) (by kernel_rfl) (fun _ _ _ h => h) (by decide) ⟨l26, fun _ => trivial⟩ (Or.inl ⟨by rfl, ?_⟩) ?_
                      rotate_left
                      · intro wq hSw; go_simp; rfl
                      simp only [Act.put]
                      refine gate_takeF (i := 31) (v := ?_) rfl (by kernel_rfl) (by kernel_rfl) (by kernel_rfl) (fun _ _ _ h => h) (by decide) ⟨l26, fun _ => trivial⟩ (Or.inl ⟨by rfl, ?_⟩) ?_
                      rotate_left
                      · intro wq hSw; go_simp; rfl
                      simp only [Act.put]
                      refine gate_done (by kernel_rfl) ?_ _
                      simp only [List.getElem_toArray, List.getElem_cons_succ, List.getElem_cons_zero]
                      go_wp2
                      go_meet
                      case rel => exact hend.out
                    exact GateAll.nil
                  exact GateAll.nil
                exact GateAll.nil
              exact GateAll.nil
            refine GateAll.cons rfl (fun K hK => ?_) ?_
            · go_simp
              have b24 : Lat w11 (w11.alloc (.cells #[.bool lz] 4)) := Lat.alloc _ _
              have o24 : Own (w11.alloc (.cells #[.bool lz] 4)) wr.heap.size 4 (.slice (some ⟨w11.heap.size, 0, none⟩) 1 1) [.bool lz] := own_one w11 wr.heap.size 4 (.bool lz) (l11).size
              have o4 := o4.keep b24
              have o11 := o11.keep b24
              have l24 := Lat.trans l11 b24
              obtain ⟨g24, hg24⟩ : ∃ x, x = w11.heap.size := ⟨_, rfl⟩
              obtain ⟨w24, hw24⟩ : ∃ x, x = w11.alloc (.cells #[.bool lz] 4) := ⟨_, rfl⟩
              rw [← hw24] at b24 o24 l24 o4 o11 ⊢
              rw [← hg24] at o24 ⊢
              clear hw24 hg24
              refine hK _ _ ⟨l24, fun _ => trivial⟩ ?_
              clear hK K
              refine gate_all (rs := [12]) (by kernel_rfl) (by simp) ?_
              refine GateAll.cons rfl (fun K hK => ?_) ?_
              · obtain ⟨a12, c12, w12, hrun, o12, gr12⟩ := app_own (P := Tryz.prog) w24 wr.heap.size 22 22 9 (.string .empty) 16 Tryz.underlying22 info_string rfl (by decide) o4 o11 rfl HML1.out (by omega) (l24).size
                have l12 := lat_grown l24 gr12 (fun k hk => (Own.lt o4 k hk).1)
                have o24 := Own.grown o24 gr12 (Own.apart o24 o4 (by decide))
                refine app_step rfl (.tmp 60) (.tmp 67) 22 rfl (.slice a4 t c4) (.slice (some ⟨g11, 0, none⟩) 1 1) _ rfl rfl hrun ?_
                refine hK _ _ ⟨l12, fun _ => trivial⟩ ?_
                clear hK K
                refine gate_all (rs := [17]) (by kernel_rfl) (by simp) ?_
                refine GateAll.cons rfl (fun K hK => ?_) ?_
                · go_simp
                  refine (clone_bool _ t _ (grpAt lk n e g) w12 (HGB.out.keep l12) ht1 (by omega)).mono ?_
                  rintro y w17 ⟨v17, rfl, o17, b17⟩
                  have l17 := Lat.trans l12 b17
                  have o17 := Own.mono o17 (l12).size
                  have o12 := o12.keep b17
                  have o24 := o24.keep b17
                  obtain ⟨a17, c17, rfl⟩ := own_len o17 HML2.out
                  refine hK _ _ ⟨l17, fun _ => trivial⟩ ?_
                  clear hK K
                  refine gate_all (rs := [25]) (by kernel_rfl) (by simp) ?_
                  refine GateAll.cons rfl (fun K hK => ?_) ?_
                  · obtain ⟨a25, c25, w25, hrun, o25, gr25⟩ := app_own (P := Tryz.prog) w17 wr.heap.size 45 45 4 (.bool false) 1 Tryz.underlying45 info_boolT rfl (by decide) o17 o24 rfl HML2.out (by omega) (l17).size
                    have l25 := lat_grown l17 gr25 (fun k hk => (Own.lt o17 k hk).1)
                    have o12 := Own.grown o12 gr25 (Own.apart o12 o17 (by decide))
                    refine app_step rfl (.tmp 73) (.tmp 80) 45 rfl (.slice a17 t c17) (.slice (some ⟨g24, 0, none⟩) 1 1) _ rfl rfl hrun ?_
                    refine hK _ _ ⟨l25, fun _ => trivial⟩ ?_
                    clear hK K
                    refine gate_all (rs := [26]) (by kernel_rfl) (by simp) ?_
                    refine GateAll.cons rfl (fun K hK => ?_) ?_
                    · rw [HMS.out] at o12
                      rw [HMB.out] at o25
                      obtain ⟨bk, rfl, hB26, hL26, hkc26, hcm26, hbk26⟩ := blk_strs o12 (by rw [HGSL.out]; omega)
                      obtain ⟨hL25, hbo25⟩ := bools_at o25
                      rw [HGSL.out] at hbk26
                      rw [HLKL.out] at hbo25
                      clear hL26 hL25
                      go_simp
                      refine (heal_any bk (t + 1) _ (gsG xs n e g) m _ _ (lkG lk n e g) w25 hbk26 HGSL.out hkc26 hcm26 (by omega) hm8 HGSS.out hbo25 (by omega)).mono ?_
                      rintro y w26 ⟨hy, hb26, bel26⟩
                      have l26 : Lat wr w26 := Below.trans l25 (bel26.mono hB26)
                      have hen := heal_end (E := hlE m (gsG xs n e g) (lkG lk n e g)) HHSL.out hkc26 hcm26 hb26 l26
                      obtain ⟨XV, hXV⟩ : ∃ x, x = (if hlE m (gsG xs n e g) (lkG lk n e g) = 0 then Value.slice (some ⟨bk, 0, none⟩) (t + 1 - 1) c12 else .slice none 0 0) := ⟨_, rfl⟩
                      obtain ⟨EV, hEV⟩ : ∃ x, x = errv (hlE m (gsG xs n e g) (lkG lk n e g)) := ⟨_, rfl⟩
                      rw [← hXV, ← hEV] at hy hen
                      subst hy
                      have hend := Lib.hid hen
                      clear hen hXV hEV
                      clear o12 o25 hbk26 hbo25 hb26 bel26
                      refine hK _ _ ⟨l26, fun _ => trivial⟩ ?_
                      clear hK K
                      refine gate_takeF (i := 27) (v := ?_) rfl (by kernel_rfl) (by kernel_rfl) (by kernel_rfl) (fun _ _ _ h => h) (by decide) ⟨l26, fun _ => trivial⟩ (Or.inl ⟨by rfl, ?_⟩) ?_
                      rotate_left
                      · intro wq hSw; go_simp; rfl
                      simp only [Act.put]
                      refine gate_takeF (i := 28) (v := ?_) rfl (by kernel_rfl) (by kernel_rfl) (by kernel_rfl) (fun _ _ _ h => h) (by decide) ⟨l26, fun _ => trivial⟩ (Or.inl ⟨by rfl, ?_⟩) ?_
                      rotate_left
                      · intro wq hSw; go_simp; rfl
                      simp only [Act.put]
                      refine gate_takeF (i := 29) (v := ?_) rfl (by kernel_rfl) (by kernel_rfl) (by kernel_rfl) (fun _ _ _ h => h) (by decide) ⟨l26, fun _ => trivial⟩ (Or.inl ⟨by rfl, ?_⟩) ?_
                      rotate_left
                      · intro wq hSw; go_simp; rfl
                      simp only [Act.put]
                      refine gate_takeF (i := 30) (v := ?_) rfl (by kernel_rfl) (by kernel_rfl) (by kernel_rfl) (fun _ _ _ h => h) (by decide) ⟨l26, fun _ => trivial⟩ (Or.inl ⟨by rfl, ?_⟩) ?_
                      rotate_left
                      · intro wq hSw; go_simp; rfl
                      simp only [Act.put]
                      refine gate_takeF (i := 31) (v := ?_) rfl (by kernel_rfl) (by kernel_rfl) (by kernel_rfl) (fun _ _ _ h => h) (by decide) ⟨l26, fun _ => trivial⟩ (Or.inl ⟨by rfl, ?_⟩) ?_
                      rotate_left
                      · intro wq hSw; go_simp; rfl
                      simp only [Act.put]
                      refine gate_done (by kernel_rfl) ?_ _
                      simp only [List.getElem_toArray, List.getElem_cons_succ, List.getElem_cons_zero]
                      go_wp2
                      go_meet
                      case rel => exact hend.out
                    exact GateAll.nil
                  exact GateAll.nil
                exact GateAll.nil
              exact GateAll.nil
            exact GateAll.nil
          refine GateAll.cons rfl (fun K hK => ?_) ?_
          · go_simp
            have b24 : Lat w4 (w4.alloc (.cells #[.bool lz] 4)) := Lat.alloc _ _
            have o24 : Own (w4.alloc (.cells #[.bool lz] 4)) wr.heap.size 4 (.slice (some ⟨w4.heap.size, 0, none⟩) 1 1) [.bool lz] := own_one w4 wr.heap.size 4 (.bool lz) (l4).size
            have o4 := o4.keep b24
            have l24 := Lat.trans l4 b24
            obtain ⟨g24, hg24⟩ : ∃ x, x = w4.heap.size := ⟨_, rfl⟩
            obtain ⟨w24, hw24⟩ : ∃ x, x = w4.alloc (.cells #[.bool lz] 4) := ⟨_, rfl⟩
            rw [← hw24] at b24 o24 l24 o4 ⊢
            rw [← hg24] at o24 ⊢
            clear hw24 hg24
            refine hK _ _ ⟨l24, fun _ => trivial⟩ ?_
            clear hK K
            refine gate_all (rs := [11]) (by kernel_rfl) (by simp) ?_
            refine GateAll.cons rfl (fun K hK => ?_) ?_
            · go_simp
              have b11 : Lat w24 (w24.alloc (.cells #[.string xz] 9)) := Lat.alloc _ _
              have o11 : Own (w24.alloc (.cells #[.string xz] 9)) wr.heap.size 9 (.slice (some ⟨w24.heap.size, 0, none⟩) 1 1) [.string xz] := own_one w24 wr.heap.size 9 (.string xz) (l24).size
              have o4 := o4.keep b11
              have o24 := o24.keep b11
              have l11 := Lat.trans l24 b11
              obtain ⟨g11, hg11⟩ : ∃ x, x = w24.heap.size := ⟨_, rfl⟩
              obtain ⟨w11, hw11⟩ : ∃ x, x = w24.alloc (.cells #[.string xz] 9) := ⟨_, rfl⟩
              rw [← hw11] at b11 o11 l11 o4 o24 ⊢
              rw [← hg11] at o11 ⊢
              clear hw11 hg11
              refine hK _ _ ⟨l11, fun _ => trivial⟩ ?_
              clear hK K
              refine gate_all (rs := [12]) (by kernel_rfl) (by simp) ?_
              refine GateAll.cons rfl (fun K hK => ?_) ?_
              · obtain ⟨a12, c12, w12, hrun, o12, gr12⟩ := app_own (P := Tryz.prog) w11 wr.heap.size 22 22 9 (.string .empty) 16 Tryz.underlying22 info_string rfl (by decide) o4 o11 rfl HML1.out (by omega) (l11).size
                have l12 := lat_grown l11 gr12 (fun k hk => (Own.lt o4 k hk).1)
                have o24 := Own.grown o24 gr12 (Own.apart o24 o4 (by decide))
                refine app_step rfl (.tmp 60) (.tmp 67) 22 rfl (.slice a4 t c4) (.slice (some ⟨g11, 0, none⟩) 1 1) _ rfl rfl hrun ?_
                refine hK _ _ ⟨l12, fun _ => trivial⟩ ?_
                clear hK K
                refine gate_all (rs := [17]) (by kernel_rfl) (by simp) ?_
                refine GateAll.cons rfl (fun K hK => ?_) ?_
                · go_simp
                  refine (clone_bool _ t _ (grpAt lk n e g) w12 (HGB.out.keep l12) ht1 (by omega)).mono ?_
                  rintro y w17 ⟨v17, rfl, o17, b17⟩
                  have l17 := Lat.trans l12 b17
                  have o17 := Own.mono o17 (l12).size
                  have o12 := o12.keep b17
                  have o24 := o24.keep b17
                  obtain ⟨a17, c17, rfl⟩ := own_len o17 HML2.out
                  refine hK _ _ ⟨l17, fun _ => trivial⟩ ?_
                  clear hK K
                  refine gate_all (rs := [25]) (by kernel_rfl) (by simp) ?_
                  refine GateAll.cons rfl (fun K hK => ?_) ?_
                  · obtain ⟨a25, c25, w25, hrun, o25, gr25⟩ := app_own (P := Tryz.prog) w17 wr.heap.size 45 45 4 (.bool false) 1 Tryz.underlying45 info_boolT rfl (by decide) o17 o24 rfl HML2.out (by omega) (l17).size
                    have l25 := lat_grown l17 gr25 (fun k hk => (Own.lt o17 k hk).1)
                    have o12 := Own.grown o12 gr25 (Own.apart o12 o17 (by decide))
                    refine app_step rfl (.tmp 73) (.tmp 80) 45 rfl (.slice a17 t c17) (.slice (some ⟨g24, 0, none⟩) 1 1) _ rfl rfl hrun ?_
                    refine hK _ _ ⟨l25, fun _ => trivial⟩ ?_
                    clear hK K
                    refine gate_all (rs := [26]) (by kernel_rfl) (by simp) ?_
                    refine GateAll.cons rfl (fun K hK => ?_) ?_
                    · rw [HMS.out] at o12
                      rw [HMB.out] at o25
                      obtain ⟨bk, rfl, hB26, hL26, hkc26, hcm26, hbk26⟩ := blk_strs o12 (by rw [HGSL.out]; omega)
                      obtain ⟨hL25, hbo25⟩ := bools_at o25
                      rw [HGSL.out] at hbk26
                      rw [HLKL.out] at hbo25
                      clear hL26 hL25
                      go_simp
                      refine (heal_any bk (t + 1) _ (gsG xs n e g) m _ _ (lkG lk n e g) w25 hbk26 HGSL.out hkc26 hcm26 (by omega) hm8 HGSS.out hbo25 (by omega)).mono ?_
                      rintro y w26 ⟨hy, hb26, bel26⟩
                      have l26 : Lat wr w26 := Below.trans l25 (bel26.mono hB26)
                      have hen := heal_end (E := hlE m (gsG xs n e g) (lkG lk n e g)) HHSL.out hkc26 hcm26 hb26 l26
                      obtain ⟨XV, hXV⟩ : ∃ x, x = (if hlE m (gsG xs n e g) (lkG lk n e g) = 0 then Value.slice (some ⟨bk, 0, none⟩) (t + 1 - 1) c12 else .slice none 0 0) := ⟨_, rfl⟩
                      obtain ⟨EV, hEV⟩ : ∃ x, x = errv (hlE m (gsG xs n e g) (lkG lk n e g)) := ⟨_, rfl⟩
                      rw [← hXV, ← hEV] at hy hen
                      subst hy
                      have hend := Lib.hid hen
                      clear hen hXV hEV
                      clear o12 o25 hbk26 hbo25 hb26 bel26
                      refine hK _ _ ⟨l26, fun _ => trivial⟩ ?_
                      clear hK K
                      refine gate_takeF (i := 27) (v := ?_) rfl (by kernel_rfl) (by kernel_rfl) (by kernel_rfl) (fun _ _ _ h => h) (by decide) ⟨l26, fun _ => trivial⟩ (Or.inl ⟨by rfl, ?_⟩) ?_
                      rotate_left
                      · intro wq hSw; go_simp; rfl
                      simp only [Act.put]
                      refine gate_takeF (i := 28) (v := ?_) rfl (by kernel_rfl) (by kernel_rfl) (by kernel_rfl) (fun _ _ _ h => h) (by decide) ⟨l26, fun _ => trivial⟩ (Or.inl ⟨by rfl, ?_⟩) ?_
                      rotate_left
                      · intro wq hSw; go_simp; rfl
                      simp only [Act.put]
                      refine gate_takeF (i := 29) (v := ?_) rfl (by kernel_rfl) (by kernel_rfl) (by kernel_rfl) (fun _ _ _ h => h) (by decide) ⟨l26, fun _ => trivial⟩ (Or.inl ⟨by rfl, ?_⟩) ?_
                      rotate_left
                      · intro wq hSw; go_simp; rfl
                      simp only [Act.put]
                      refine gate_takeF (i := 30) (v := ?_) rfl (by kernel_rfl) (by kernel_rfl) (by kernel_rfl) (fun _ _ _ h => h) (by decide) ⟨l26, fun _ => trivial⟩ (Or.inl ⟨by rfl, ?_⟩) ?_
                      rotate_left
                      · intro wq hSw; go_simp; rfl
                      simp only [Act.put]
                      refine gate_takeF (i := 31) (v := ?_) rfl (by kernel_rfl) (by kernel_rfl) (by kernel_rfl) (fun _ _ _ h => h) (by decide) ⟨l26, fun _ => trivial⟩ (Or.inl ⟨by rfl, ?_⟩) ?_
                      rotate_left
                      · intro wq hSw; go_simp; rfl
                      simp only [Act.put]
                      refine gate_done (by kernel_rfl) ?_ _
                      simp only [List.getElem_toArray, List.getElem_cons_succ, List.getElem_cons_zero]
                      go_wp2
                      go_meet
                      case rel => exact hend.out
                    exact GateAll.nil
                  exact GateAll.nil
                exact GateAll.nil
              exact GateAll.nil
            exact GateAll.nil
          exact GateAll.nil
        refine GateAll.cons rfl (fun K hK => ?_) ?_
        · go_simp
          have b11 : Lat w0 (w0.alloc (.cells #[.string xz] 9)) := Lat.alloc _ _
          have o11 : Own (w0.alloc (.cells #[.string xz] 9)) wr.heap.size 9 (.slice (some ⟨w0.heap.size, 0, none⟩) 1 1) [.string xz] := own_one w0 wr.heap.size 9 (.string xz) (hF).size
          have l11 := Lat.trans hF b11
          obtain ⟨g11, hg11⟩ : ∃ x, x = w0.heap.size := ⟨_, rfl⟩
          obtain ⟨w11, hw11⟩ : ∃ x, x = w0.alloc (.cells #[.string xz] 9) := ⟨_, rfl⟩
          rw [← hw11] at b11 o11 l11 ⊢
          rw [← hg11] at o11 ⊢
          clear hw11 hg11
          refine hK _ _ ⟨l11, fun _ => trivial⟩ ?_
          clear hK K
          refine gate_all (rs := [4, 24]) (by kernel_rfl) (by simp) ?_
          refine GateAll.cons rfl (fun K hK => ?_) ?_
          · go_simp
            refine (clone_str _ t _ (grpAt xs n e g) w11 (HGS.out.keep l11) ht1 (by omega)).mono ?_
            rintro y w4 ⟨v4, rfl, o4, b4⟩
            have l4 := Lat.trans l11 b4
            have o4 := Own.mono o4 (l11).size
            have o11 := o11.keep b4
            obtain ⟨a4, c4, rfl⟩ := own_len o4 HML1.out
            refine hK _ _ ⟨l4, fun _ => trivial⟩ ?_
            clear hK K
            refine gate_all (rs := [12, 24]) (by kernel_rfl) (by simp) ?_
            refine GateAll.cons rfl (fun K hK => ?_) ?_
            · obtain ⟨a12, c12, w12, hrun, o12, gr12⟩ := app_own (P := Tryz.prog) w4 wr.heap.size 22 22 9 (.string .empty) 16 Tryz.underlying22 info_string rfl (by decide) o4 o11 rfl HML1.out (by omega) (l4).size
              have l12 := lat_grown l4 gr12 (fun k hk => (Own.lt o4 k hk).1)
              refine app_step rfl (.tmp 60) (.tmp 67) 22 rfl (.slice a4 t c4) (.slice (some ⟨g11, 0, none⟩) 1 1) _ rfl rfl hrun ?_
              refine hK _ _ ⟨l12, fun _ => trivial⟩ ?_
              clear hK K
              refine gate_all (rs := [17, 24]) (by kernel_rfl) (by simp) ?_
              refine GateAll.cons rfl (fun K hK => ?_) ?_
              · go_simp
                refine (clone_bool _ t _ (grpAt lk n e g) w12 (HGB.out.keep l12) ht1 (by omega)).mono ?_
                rintro y w17 ⟨v17, rfl, o17, b17⟩
                have l17 := Lat.trans l12 b17
                have o17 := Own.mono o17 (l12).size
                have o12 := o12.keep b17
                obtain ⟨a17, c17, rfl⟩ := own_len o17 HML2.out
                refine hK _ _ ⟨l17, fun _ => trivial⟩ ?_
                clear hK K
                refine gate_all (rs := [24]) (by kernel_rfl) (by simp) ?_
                refine GateAll.cons rfl (fun K hK => ?_) ?_
                · go_simp
                  have b24 : Lat w17 (w17.alloc (.cells #[.bool lz] 4)) := Lat.alloc _ _
                  have o24 : Own (w17.alloc (.cells #[.bool lz] 4)) wr.heap.size 4 (.slice (some ⟨w17.heap.size, 0, none⟩) 1 1) [.bool lz] := own_one w17 wr.heap.size 4 (.bool lz) (l17).size
                  have o12 := o12.keep b24
                  have o17 := o17.keep b24
                  have l24 := Lat.trans l17 b24
                  obtain ⟨g24, hg24⟩ : ∃ x, x = w17.heap.size := ⟨_, rfl⟩
                  obtain ⟨w24, hw24⟩ : ∃ x, x = w17.alloc (.cells #[.bool lz] 4) := ⟨_, rfl⟩
                  rw [← hw24] at b24 o24 l24 o12 o17 ⊢
                  rw [← hg24] at o24 ⊢
                  clear hw24 hg24
                  refine hK _ _ ⟨l24, fun _ => trivial⟩ ?_
                  clear hK K
                  refine gate_all (rs := [25]) (by kernel_rfl) (by simp) ?_
                  refine GateAll.cons rfl (fun K hK => ?_) ?_
                  · obtain ⟨a25, c25, w25, hrun, o25, gr25⟩ := app_own (P := Tryz.prog) w24 wr.heap.size 45 45 4 (.bool false) 1 Tryz.underlying45 info_boolT rfl (by decide) o17 o24 rfl HML2.out (by omega) (l24).size
                    have l25 := lat_grown l24 gr25 (fun k hk => (Own.lt o17 k hk).1)
                    have o12 := Own.grown o12 gr25 (Own.apart o12 o17 (by decide))
                    refine app_step rfl (.tmp 73) (.tmp 80) 45 rfl (.slice a17 t c17) (.slice (some ⟨g24, 0, none⟩) 1 1) _ rfl rfl hrun ?_
                    refine hK _ _ ⟨l25, fun _ => trivial⟩ ?_
                    clear hK K
                    refine gate_all (rs := [26]) (by kernel_rfl) (by simp) ?_
                    refine GateAll.cons rfl (fun K hK => ?_) ?_
                    · rw [HMS.out] at o12
                      rw [HMB.out] at o25
                      obtain ⟨bk, rfl, hB26, hL26, hkc26, hcm26, hbk26⟩ := blk_strs o12 (by rw [HGSL.out]; omega)
                      obtain ⟨hL25, hbo25⟩ := bools_at o25
                      rw [HGSL.out] at hbk26
                      rw [HLKL.out] at hbo25
                      clear hL26 hL25
                      go_simp
                      refine (heal_any bk (t + 1) _ (gsG xs n e g) m _ _ (lkG lk n e g) w25 hbk26 HGSL.out hkc26 hcm26 (by omega) hm8 HGSS.out hbo25 (by omega)).mono ?_
                      rintro y w26 ⟨hy, hb26, bel26⟩
                      have l26 : Lat wr w26 := Below.trans l25 (bel26.mono hB26)
                      have hen := heal_end (E := hlE m (gsG xs n e g) (lkG lk n e g)) HHSL.out hkc26 hcm26 hb26 l26
                      obtain ⟨XV, hXV⟩ : ∃ x, x = (if hlE m (gsG xs n e g) (lkG lk n e g) = 0 then Value.slice (some ⟨bk, 0, none⟩) (t + 1 - 1) c12 else .slice none 0 0) := ⟨_, rfl⟩
                      obtain ⟨EV, hEV⟩ : ∃ x, x = errv (hlE m (gsG xs n e g) (lkG lk n e g)) := ⟨_, rfl⟩
                      rw [← hXV, ← hEV] at hy hen
                      subst hy
                      have hend := Lib.hid hen
                      clear hen hXV hEV
                      clear o12 o25 hbk26 hbo25 hb26 bel26
                      refine hK _ _ ⟨l26, fun _ => trivial⟩ ?_
                      clear hK K
                      refine gate_takeF (i := 27) (v := ?_) rfl (by kernel_rfl) (by kernel_rfl) (by kernel_rfl) (fun _ _ _ h => h) (by decide) ⟨l26, fun _ => trivial⟩ (Or.inl ⟨by rfl, ?_⟩) ?_
                      rotate_left
                      · intro wq hSw; go_simp; rfl
                      simp only [Act.put]
                      refine gate_takeF (i := 28) (v := ?_) rfl (by kernel_rfl) (by kernel_rfl) (by kernel_rfl) (fun _ _ _ h => h) (by decide) ⟨l26, fun _ => trivial⟩ (Or.inl ⟨by rfl, ?_⟩) ?_
                      rotate_left
                      · intro wq hSw; go_simp; rfl
                      simp only [Act.put]
                      refine gate_takeF (i := 29) (v := ?_) rfl (by kernel_rfl) (by kernel_rfl) (by kernel_rfl) (fun _ _ _ h => h) (by decide) ⟨l26, fun _ => trivial⟩ (Or.inl ⟨by rfl, ?_⟩) ?_
                      rotate_left
                      · intro wq hSw; go_simp; rfl
                      simp only [Act.put]
                      refine gate_takeF (i := 30) (v := ?_) rfl (by kernel_rfl) (by kernel_rfl) (by kernel_rfl) (fun _ _ _ h => h) (by decide) ⟨l26, fun _ => trivial⟩ (Or.inl ⟨by rfl, ?_⟩) ?_
                      rotate_left
                      · intro wq hSw; go_simp; rfl
                      simp only [Act.put]
                      refine gate_takeF (i := 31) (v := ?_) rfl (by kernel_rfl) (by kernel_rfl) (by kernel_rfl) (fun _ _ _ h => h) (by decide) ⟨l26, fun _ => trivial⟩ (Or.inl ⟨by rfl, ?_⟩) ?_
                      rotate_left
                      · intro wq hSw; go_simp; rfl
                      simp only [Act.put]
                      refine gate_done (by kernel_rfl) ?_ _
                      simp only [List.getElem_toArray, List.getElem_cons_succ, List.getElem_cons_zero]
                      go_wp2
                      go_meet
                      case rel => exact hend.out
                    exact GateAll.nil
                  exact GateAll.nil
                exact GateAll.nil
              refine GateAll.cons rfl (fun K hK => ?_) ?_
              · go_simp
                have b24 : Lat w12 (w12.alloc (.cells #[.bool lz] 4)) := Lat.alloc _ _
                have o24 : Own (w12.alloc (.cells #[.bool lz] 4)) wr.heap.size 4 (.slice (some ⟨w12.heap.size, 0, none⟩) 1 1) [.bool lz] := own_one w12 wr.heap.size 4 (.bool lz) (l12).size
                have o12 := o12.keep b24
                have l24 := Lat.trans l12 b24
                obtain ⟨g24, hg24⟩ : ∃ x, x = w12.heap.size := ⟨_, rfl⟩
                obtain ⟨w24, hw24⟩ : ∃ x, x = w12.alloc (.cells #[.bool lz] 4) := ⟨_, rfl⟩
                rw [← hw24] at b24 o24 l24 o12 ⊢
                rw [← hg24] at o24 ⊢
                clear hw24 hg24
                refine hK _ _ ⟨l24, fun _ => trivial⟩ ?_
                clear hK K
                refine gate_all (rs := [17]) (by kernel_rfl) (by simp) ?_
                refine GateAll.cons rfl (fun K hK => ?_) ?_
                · go_simp
                  refine (clone_bool _ t _ (grpAt lk n e g) w24 (HGB.out.keep l24) ht1 (by omega)).mono ?_
                  rintro y w17 ⟨v17, rfl, o17, b17⟩
                  have l17 := Lat.trans l24 b17
                  have o17 := Own.mono o17 (l24).size
                  have o12 := o12.keep b17
                  have o24 := o24.keep b17
                  obtain ⟨a17, c17, rfl⟩ := own_len o17 HML2.out
                  refine hK _ _ ⟨l17, fun _ => trivial⟩ ?_
                  clear hK K
                  refine gate_all (rs := [25]) (by kernel_rfl) (by simp) ?_
                  refine GateAll.cons rfl (fun K hK => ?_) ?_
                  · obtain ⟨a25, c25, w25, hrun, o25, gr25⟩ := app_own (P := Tryz.prog) w17 wr.heap.size 45 45 4 (.bool false) 1 Tryz.underlying45 info_boolT rfl (by decide) o17 o24 rfl HML2.out (by omega) (l17).size
                    have l25 := lat_grown l17 gr25 (fun k hk => (Own.lt o17 k hk).1)
                    have o12 := Own.grown o12 gr25 (Own.apart o12 o17 (by decide))
                    refine app_step rfl (.tmp 73) (.tmp 80) 45 rfl (.slice a17 t c17) (.slice (some ⟨g24, 0, none⟩) 1 1) _ rfl rfl hrun ?_
                    refine hK _ _ ⟨l25, fun _ => trivial⟩ ?_
                    clear hK K
                    refine gate_all (rs := [26]) (by kernel_rfl) (by simp) ?_
                    refine GateAll.cons rfl (fun K hK => ?_) ?_
                    · rw [HMS.out] at o12
                      rw [HMB.out] at o25
                      obtain ⟨bk, rfl, hB26, hL26, hkc26, hcm26, hbk26⟩ := blk_strs o12 (by rw [HGSL.out]; omega)
                      obtain ⟨hL25, hbo25⟩ := bools_at o25
                      rw [HGSL.out] at hbk26
                      rw [HLKL.out] at hbo25
                      clear hL26 hL25
                      go_simp
                      refine (heal_any bk (t + 1) _ (gsG xs n e g) m _ _ (lkG lk n e g) w25 hbk26 HGSL.out hkc26 hcm26 (by omega) hm8 HGSS.out hbo25 (by omega)).mono ?_
                      rintro y w26 ⟨hy, hb26, bel26⟩
                      have l26 : Lat wr w26 := Below.trans l25 (bel26.mono hB26)
                      have hen := heal_end (E := hlE m (gsG xs n e g) (lkG lk n e g)) HHSL.out hkc26 hcm26 hb26 l26
                      obtain ⟨XV, hXV⟩ : ∃ x, x = (if hlE m (gsG xs n e g) (lkG lk n e g) = 0 then Value.slice (some ⟨bk, 0, none⟩) (t + 1 - 1) c12 else .slice none 0 0) := ⟨_, rfl⟩
                      obtain ⟨EV, hEV⟩ : ∃ x, x = errv (hlE m (gsG xs n e g) (lkG lk n e g)) := ⟨_, rfl⟩
                      rw [← hXV, ← hEV] at hy hen
                      subst hy
                      have hend := Lib.hid hen
                      clear hen hXV hEV
                      clear o12 o25 hbk26 hbo25 hb26 bel26
                      refine hK _ _ ⟨l26, fun _ => trivial⟩ ?_
                      clear hK K
                      refine gate_takeF (i := 27) (v := ?_) rfl (by kernel_rfl) (by kernel_rfl) (by kernel_rfl) (fun _ _ _ h => h) (by decide) ⟨l26, fun _ => trivial⟩ (Or.inl ⟨by rfl, ?_⟩) ?_
                      rotate_left
                      · intro wq hSw; go_simp; rfl
                      simp only [Act.put]
                      refine gate_takeF (i := 28) (v := ?_) rfl (by kernel_rfl) (by kernel_rfl) (by kernel_rfl) (fun _ _ _ h => h) (by decide) ⟨l26, fun _ => trivial⟩ (Or.inl ⟨by rfl, ?_⟩) ?_
                      rotate_left
                      · intro wq hSw; go_simp; rfl
                      simp only [Act.put]
                      refine gate_takeF (i := 29) (v := ?_) rfl (by kernel_rfl) (by kernel_rfl) (by kernel_rfl) (fun _ _ _ h => h) (by decide) ⟨l26, fun _ => trivial⟩ (Or.inl ⟨by rfl, ?_⟩) ?_
                      rotate_left
                      · intro wq hSw; go_simp; rfl
                      simp only [Act.put]
                      refine gate_takeF (i := 30) (v := ?_) rfl (by kernel_rfl) (by kernel_rfl) (by kernel_rfl) (fun _ _ _ h => h) (by decide) ⟨l26, fun _ => trivial⟩ (Or.inl ⟨by rfl, ?_⟩) ?_
                      rotate_left
                      · intro wq hSw; go_simp; rfl
                      simp only [Act.put]
                      refine gate_takeF (i := 31) (v := ?_) rfl (by kernel_rfl) (by kernel_rfl) (by kernel_rfl) (fun _ _ _ h => h) (by decide) ⟨l26, fun _ => trivial⟩ (Or.inl ⟨by rfl, ?_⟩) ?_
                      rotate_left
                      · intro wq hSw; go_simp; rfl
                      simp only [Act.put]
                      refine gate_done (by kernel_rfl) ?_ _
                      simp only [List.getElem_toArray, List.getElem_cons_succ, List.getElem_cons_zero]
                      go_wp2
                      go_meet
                      case rel => exact hend.out
                    exact GateAll.nil
                  exact GateAll.nil
                exact GateAll.nil
              exact GateAll.nil
            refine GateAll.cons rfl (fun K hK => ?_) ?_
            · go_simp
              have b24 : Lat w4 (w4.alloc (.cells #[.bool lz] 4)) := Lat.alloc _ _
              have o24 : Own (w4.alloc (.cells #[.bool lz] 4)) wr.heap.size 4 (.slice (some ⟨w4.heap.size, 0, none⟩) 1 1) [.bool lz] := own_one w4 wr.heap.size 4 (.bool lz) (l4).size
              have o4 := o4.keep b24
              have o11 := o11.keep b24
              have l24 := Lat.trans l4 b24
              obtain ⟨g24, hg24⟩ : ∃ x, x = w4.heap.size := ⟨_, rfl⟩
              obtain ⟨w24, hw24⟩ : ∃ x, x = w4.alloc (.cells #[.bool lz] 4) := ⟨_, rfl⟩
              rw [← hw24] at b24 o24 l24 o4 o11 ⊢
              rw [← hg24] at o24 ⊢
              clear hw24 hg24
              refine hK _ _ ⟨l24, fun _ => trivial⟩ ?_
              clear hK K
              refine gate_all (rs := [12]) (by kernel_rfl) (by simp) ?_
              refine GateAll.cons rfl (fun K hK => ?_) ?_
              · obtain ⟨a12, c12, w12, hrun, o12, gr12⟩ := app_own (P := Tryz.prog) w24 wr.heap.size 22 22 9 (.string .empty) 16 Tryz.underlying22 info_string rfl (by decide) o4 o11 rfl HML1.out (by omega) (l24).size
                have l12 := lat_grown l24 gr12 (fun k hk => (Own.lt o4 k hk).1)
                have o24 := Own.grown o24 gr12 (Own.apart o24 o4 (by decide))
                refine app_step rfl (.tmp 60) (.tmp 67) 22 rfl (.slice a4 t c4) (.slice (some ⟨g11, 0, none⟩) 1 1) _ rfl rfl hrun ?_
                refine hK _ _ ⟨l12, fun _ => trivial⟩ ?_
                clear hK K
                refine gate_all (rs := [17]) (by kernel_rfl) (by simp) ?_
                refine GateAll.cons rfl (fun K hK => ?_) ?_
                · go_simp
                  refine (clone_bool _ t _ (grpAt lk n e g) w12 (HGB.out.keep l12) ht1 (by omega)).mono ?_
                  rintro y w17 ⟨v17, rfl, o17, b17⟩
                  have l17 := Lat.trans l12 b17
                  have o17 := Own.mono o17 (l12).size
                  have o12 := o12.keep b17
                  have o24 := o24.keep b17
                  obtain ⟨a17, c17, rfl⟩ := own_len o17 HML2.out
                  refine hK _ _ ⟨l17, fun _ => trivial⟩ ?_
                  clear hK K
                  refine gate_all (rs := [25]) (by kernel_rfl) (by simp) ?_
                  refine GateAll.cons rfl (fun K hK => ?_) ?_
                  · obtain ⟨a25, c25, w25, hrun, o25, gr25⟩ := app_own (P := Tryz.prog) w17 wr.heap.size 45 45 4 (.bool false) 1 Tryz.underlying45 info_boolT rfl (by decide) o17 o24 rfl HML2.out (by omega) (l17).size
                    have l25 := lat_grown l17 gr25 (fun k hk => (Own.lt o17 k hk).1)
                    have o12 := Own.grown o12 gr25 (Own.apart o12 o17 (by decide))
                    refine app_step rfl (.tmp 73) (.tmp 80) 45 rfl (.slice a17 t c17) (.slice (some ⟨g24, 0, none⟩) 1 1) _ rfl rfl hrun ?_
                    refine hK _ _ ⟨l25, fun _ => trivial⟩ ?_
                    clear hK K
                    refine gate_all (rs := [26]) (by kernel_rfl) (by simp) ?_
                    refine GateAll.cons rfl (fun K hK => ?_) ?_
                    · rw [HMS.out] at o12
                      rw [HMB.out] at o25
                      obtain ⟨bk, rfl, hB26, hL26, hkc26, hcm26, hbk26⟩ := blk_strs o12 (by rw [HGSL.out]; omega)
                      obtain ⟨hL25, hbo25⟩ := bools_at o25
                      rw [HGSL.out] at hbk26
                      rw [HLKL.out] at hbo25
                      clear hL26 hL25
                      go_simp
                      refine (heal_any bk (t + 1) _ (gsG xs n e g) m _ _ (lkG lk n e g) w25 hbk26 HGSL.out hkc26 hcm26 (by omega) hm8 HGSS.out hbo25 (by omega)).mono ?_
                      rintro y w26 ⟨hy, hb26, bel26⟩
                      have l26 : Lat wr w26 := Below.trans l25 (bel26.mono hB26)
                      have hen := heal_end (E := hlE m (gsG xs n e g) (lkG lk n e g)) HHSL.out hkc26 hcm26 hb26 l26
                      obtain ⟨XV, hXV⟩ : ∃ x, x = (if hlE m (gsG xs n e g) (lkG lk n e g) = 0 then Value.slice (some ⟨bk, 0, none⟩) (t + 1 - 1) c12 else .slice none 0 0) := ⟨_, rfl⟩
                      obtain ⟨EV, hEV⟩ : ∃ x, x = errv (hlE m (gsG xs n e g) (lkG lk n e g)) := ⟨_, rfl⟩
                      rw [← hXV, ← hEV] at hy hen
                      subst hy
                      have hend := Lib.hid hen
                      clear hen hXV hEV
                      clear o12 o25 hbk26 hbo25 hb26 bel26
                      refine hK _ _ ⟨l26, fun _ => trivial⟩ ?_
                      clear hK K
                      refine gate_takeF (i := 27) (v := ?_) rfl (by kernel_rfl) (by kernel_rfl) (by kernel_rfl) (fun _ _ _ h => h) (by decide) ⟨l26, fun _ => trivial⟩ (Or.inl ⟨by rfl, ?_⟩) ?_
                      rotate_left
                      · intro wq hSw; go_simp; rfl
                      simp only [Act.put]
                      refine gate_takeF (i := 28) (v := ?_) rfl (by kernel_rfl) (by kernel_rfl) (by kernel_rfl) (fun _ _ _ h => h) (by decide) ⟨l26, fun _ => trivial⟩ (Or.inl ⟨by rfl, ?_⟩) ?_
                      rotate_left
                      · intro wq hSw; go_simp; rfl
                      simp only [Act.put]
                      refine gate_takeF (i := 29) (v := ?_) rfl (by kernel_rfl) (by kernel_rfl) (by kernel_rfl) (fun _ _ _ h => h) (by decide) ⟨l26, fun _ => trivial⟩ (Or.inl ⟨by rfl, ?_⟩) ?_
                      rotate_left
                      · intro wq hSw; go_simp; rfl
                      simp only [Act.put]
                      refine gate_takeF (i := 30) (v := ?_) rfl (by kernel_rfl) (by kernel_rfl) (by kernel_rfl) (fun _ _ _ h => h) (by decide) ⟨l26, fun _ => trivial⟩ (Or.inl ⟨by rfl, ?_⟩) ?_
                      rotate_left
                      · intro wq hSw; go_simp; rfl
                      simp only [Act.put]
                      refine gate_takeF (i := 31) (v := ?_) rfl (by kernel_rfl) (by kernel_rfl) (by kernel_rfl) (fun _ _ _ h => h) (by decide) ⟨l26, fun _ => trivial⟩ (Or.inl ⟨by rfl, ?_⟩) ?_
                      rotate_left
                      · intro wq hSw; go_simp; rfl
                      simp only [Act.put]
                      refine gate_done (by kernel_rfl) ?_ _
                      simp only [List.getElem_toArray, List.getElem_cons_succ, List.getElem_cons_zero]
                      go_wp2
                      go_meet
                      case rel => exact hend.out
                    exact GateAll.nil
                  exact GateAll.nil
                exact GateAll.nil
              exact GateAll.nil
            exact GateAll.nil
          refine GateAll.cons rfl (fun K hK => ?_) ?_
          · go_simp
            have b24 : Lat w11 (w11.alloc (.cells #[.bool lz] 4)) := Lat.alloc _ _
            have o24 : Own (w11.alloc (.cells #[.bool lz] 4)) wr.heap.size 4 (.slice (some ⟨w11.heap.size, 0, none⟩) 1 1) [.bool lz] := own_one w11 wr.heap.size 4 (.bool lz) (l11).size
            have o11 := o11.keep b24
            have l24 := Lat.trans l11 b24
            obtain ⟨g24, hg24⟩ : ∃ x, x = w11.heap.size := ⟨_, rfl⟩
            obtain ⟨w24, hw24⟩ : ∃ x, x = w11.alloc (.cells #[.bool lz] 4) := ⟨_, rfl⟩
            rw [← hw24] at b24 o24 l24 o11 ⊢
            rw [← hg24] at o24 ⊢
            clear hw24 hg24
            refine hK _ _ ⟨l24, fun _ => trivial⟩ ?_
            clear hK K
            refine gate_all (rs := [4]) (by kernel_rfl) (by simp) ?_
            refine GateAll.cons rfl (fun K hK => ?_) ?_
            · go_simp
              refine (clone_str _ t _ (grpAt xs n e g) w24 (HGS.out.keep l24) ht1 (by omega)).mono ?_
              rintro y w4 ⟨v4, rfl, o4, b4⟩
              have l4 := Lat.trans l24 b4
              have o4 := Own.mono o4 (l24).size
              have o11 := o11.keep b4
              have o24 := o24.keep b4
              obtain ⟨a4, c4, rfl⟩ := own_len o4 HML1.out
              refine hK _ _ ⟨l4, fun _ => trivial⟩ ?_
              clear hK K
              refine gate_all (rs := [12]) (by kernel_rfl) (by simp) ?_
              refine GateAll.cons rfl (fun K hK => ?_) ?_
              · obtain ⟨a12, c12, w12, hrun, o12, gr12⟩ := app_own (P := Tryz.prog) w4 wr.heap.size 22 22 9 (.string .empty) 16 Tryz.underlying22 info_string rfl (by decide) o4 o11 rfl HML1.out (by omega) (l4).size
                have l12 := lat_grown l4 gr12 (fun k hk => (Own.lt o4 k hk).1)
                have o24 := Own.grown o24 gr12 (Own.apart o24 o4 (by decide))
                refine app_step rfl (.tmp 60) (.tmp 67) 22 rfl (.slice a4 t c4) (.slice (some ⟨g11, 0, none⟩) 1 1) _ rfl rfl hrun ?_
                refine hK _ _ ⟨l12, fun _ => trivial⟩ ?_
                clear hK K
                refine gate_all (rs := [17]) (by kernel_rfl) (by simp) ?_
                refine GateAll.cons rfl (fun K hK => ?_) ?_
                · go_simp
                  refine (clone_bool _ t _ (grpAt lk n e g) w12 (HGB.out.keep l12) ht1 (by omega)).mono ?_
                  rintro y w17 ⟨v17, rfl, o17, b17⟩
                  have l17 := Lat.trans l12 b17
                  have o17 := Own.mono o17 (l12).size
                  have o12 := o12.keep b17
                  have o24 := o24.keep b17
                  obtain ⟨a17, c17, rfl⟩ := own_len o17 HML2.out
                  refine hK _ _ ⟨l17, fun _ => trivial⟩ ?_
                  clear hK K
                  refine gate_all (rs := [25]) (by kernel_rfl) (by simp) ?_
                  refine GateAll.cons rfl (fun K hK => ?_) ?_
                  · obtain ⟨a25, c25, w25, hrun, o25, gr25⟩ := app_own (P := Tryz.prog) w17 wr.heap.size 45 45 4 (.bool false) 1 Tryz.underlying45 info_boolT rfl (by decide) o17 o24 rfl HML2.out (by omega) (l17).size
                    have l25 := lat_grown l17 gr25 (fun k hk => (Own.lt o17 k hk).1)
                    have o12 := Own.grown o12 gr25 (Own.apart o12 o17 (by decide))
                    refine app_step rfl (.tmp 73) (.tmp 80) 45 rfl (.slice a17 t c17) (.slice (some ⟨g24, 0, none⟩) 1 1) _ rfl rfl hrun ?_
                    refine hK _ _ ⟨l25, fun _ => trivial⟩ ?_
                    clear hK K
                    refine gate_all (rs := [26]) (by kernel_rfl) (by simp) ?_
                    refine GateAll.cons rfl (fun K hK => ?_) ?_
                    · rw [HMS.out] at o12
                      rw [HMB.out] at o25
                      obtain ⟨bk, rfl, hB26, hL26, hkc26, hcm26, hbk26⟩ := blk_strs o12 (by rw [HGSL.out]; omega)
                      obtain ⟨hL25, hbo25⟩ := bools_at o25
                      rw [HGSL.out] at hbk26
                      rw [HLKL.out] at hbo25
                      clear hL26 hL25
                      go_simp
                      refine (heal_any bk (t + 1) _ (gsG xs n e g) m _ _ (lkG lk n e g) w25 hbk26 HGSL.out hkc26 hcm26 (by omega) hm8 HGSS.out hbo25 (by omega)).mono ?_
                      rintro y w26 ⟨hy, hb26, bel26⟩
                      have l26 : Lat wr w26 := Below.trans l25 (bel26.mono hB26)
                      have hen := heal_end (E := hlE m (gsG xs n e g) (lkG lk n e g)) HHSL.out hkc26 hcm26 hb26 l26
                      obtain ⟨XV, hXV⟩ : ∃ x, x = (if hlE m (gsG xs n e g) (lkG lk n e g) = 0 then Value.slice (some ⟨bk, 0, none⟩) (t + 1 - 1) c12 else .slice none 0 0) := ⟨_, rfl⟩
                      obtain ⟨EV, hEV⟩ : ∃ x, x = errv (hlE m (gsG xs n e g) (lkG lk n e g)) := ⟨_, rfl⟩
                      rw [← hXV, ← hEV] at hy hen
                      subst hy
                      have hend := Lib.hid hen
                      clear hen hXV hEV
                      clear o12 o25 hbk26 hbo25 hb26 bel26
                      refine hK _ _ ⟨l26, fun _ => trivial⟩ ?_
                      clear hK K
                      refine gate_takeF (i := 27) (v := ?_) rfl (by kernel_rfl) (by kernel_rfl) (by kernel_rfl) (fun _ _ _ h => h) (by decide) ⟨l26, fun _ => trivial⟩ (Or.inl ⟨by rfl, ?_⟩) ?_
                      rotate_left
                      · intro wq hSw; go_simp; rfl
                      simp only [Act.put]
                      refine gate_takeF (i := 28) (v := ?_) rfl (by kernel_rfl) (by kernel_rfl) (by kernel_rfl) (fun _ _ _ h => h) (by decide) ⟨l26, fun _ => trivial⟩ (Or.inl ⟨by rfl, ?_⟩) ?_
                      rotate_left
                      · intro wq hSw; go_simp; rfl
                      simp only [Act.put]
                      refine gate_takeF (i := 29) (v := ?_) rfl (by kernel_rfl) (by kernel_rfl) (by kernel_rfl) (fun _ _ _ h => h) (by decide) ⟨l26, fun _ => trivial⟩ (Or.inl ⟨by rfl, ?_⟩) ?_
                      rotate_left
                      · intro wq hSw; go_simp; rfl
                      simp only [Act.put]
                      refine gate_takeF (i := 30) (v := ?_) rfl (by kernel_rfl) (by kernel_rfl) (by kernel_rfl) (fun _ _ _ h => h) (by decide) ⟨l26, fun _ => trivial⟩ (Or.inl ⟨by rfl, ?_⟩) ?_
                      rotate_left
                      · intro wq hSw; go_simp; rfl
                      simp only [Act.put]
                      refine gate_takeF (i := 31) (v := ?_) rfl (by kernel_rfl) (by kernel_rfl) (by kernel_rfl) (fun _ _ _ h => h) (by decide) ⟨l26, fun _ => trivial⟩ (Or.inl ⟨by rfl, ?_⟩) ?_
                      rotate_left
                      · intro wq hSw; go_simp; rfl
                      simp only [Act.put]
                      refine gate_done (by kernel_rfl) ?_ _
                      simp only [List.getElem_toArray, List.getElem_cons_succ, List.getElem_cons_zero]
                      go_wp2
                      go_meet
                      case rel => exact hend.out
                    exact GateAll.nil
                  exact GateAll.nil
                exact GateAll.nil
              exact GateAll.nil
            exact GateAll.nil
          exact GateAll.nil
        refine GateAll.cons rfl (fun K hK => ?_) ?_
        · go_simp
          have b24 : Lat w0 (w0.alloc (.cells #[.bool lz] 4)) := Lat.alloc _ _
          have o24 : Own (w0.alloc (.cells #[.bool lz] 4)) wr.heap.size 4 (.slice (some ⟨w0.heap.size, 0, none⟩) 1 1) [.bool lz] := own_one w0 wr.heap.size 4 (.bool lz) (hF).size
          have l24 := Lat.trans hF b24
          obtain ⟨g24, hg24⟩ : ∃ x, x = w0.heap.size := ⟨_, rfl⟩
          obtain ⟨w24, hw24⟩ : ∃ x, x = w0.alloc (.cells #[.bool lz] 4) := ⟨_, rfl⟩
          rw [← hw24] at b24 o24 l24 ⊢
          rw [← hg24] at o24 ⊢
          clear hw24 hg24
          refine hK _ _ ⟨l24, fun _ => trivial⟩ ?_
          clear hK K
          refine gate_all (rs := [4, 11]) (by kernel_rfl) (by simp) ?_
          refine GateAll.cons rfl (fun K hK => ?_) ?_
          · go_simp
            refine (clone_str _ t _ (grpAt xs n e g) w24 (HGS.out.keep l24) ht1 (by omega)).mono ?_
            rintro y w4 ⟨v4, rfl, o4, b4⟩
            have l4 := Lat.trans l24 b4
            have o4 := Own.mono o4 (l24).size
            have o24 := o24.keep b4
            obtain ⟨a4, c4, rfl⟩ := own_len o4 HML1.out
            refine hK _ _ ⟨l4, fun _ => trivial⟩ ?_
            clear hK K
            refine gate_all (rs := [11]) (by kernel_rfl) (by simp) ?_
            refine GateAll.cons rfl (fun K hK => ?_) ?_
            · go_simp
              have b11 : Lat w4 (w4.alloc (.cells #[.string xz] 9)) := Lat.alloc _ _
              have o11 : Own (w4.alloc (.cells #[.string xz] 9)) wr.heap.size 9 (.slice (some ⟨w4.heap.size, 0, none⟩) 1 1) [.string xz] := own_one w4 wr.heap.size 9 (.string xz) (l4).size
              have o4 := o4.keep b11
              have o24 := o24.keep b11
              have l11 := Lat.trans l4 b11
              obtain ⟨g11, hg11⟩ : ∃ x, x = w4.heap.size := ⟨_, rfl⟩
              obtain ⟨w11, hw11⟩ : ∃ x, x = w4.alloc (.cells #[.string xz] 9) := ⟨_, rfl⟩
              rw [← hw11] at b11 o11 l11 o4 o24 ⊢
              rw [← hg11] at o11 ⊢
              clear hw11 hg11
              refine hK _ _ ⟨l11, fun _ => trivial⟩ ?_
              clear hK K
              refine gate_all (rs := [12]) (by kernel_rfl) (by simp) ?_
              refine GateAll.cons rfl (fun K hK => ?_) ?_
              · obtain ⟨a12, c12, w12, hrun, o12, gr12⟩ := app_own (P := Tryz.prog) w11 wr.heap.size 22 22 9 (.string .empty) 16 Tryz.underlying22 info_string rfl (by decide) o4 o11 rfl HML1.out (by omega) (l11).size
                have l12 := lat_grown l11 gr12 (fun k hk => (Own.lt o4 k hk).1)
                have o24 := Own.grown o24 gr12 (Own.apart o24 o4 (by decide))
                refine app_step rfl (.tmp 60) (.tmp 67) 22 rfl (.slice a4 t c4) (.slice (some ⟨g11, 0, none⟩) 1 1) _ rfl rfl hrun ?_
                refine hK _ _ ⟨l12, fun _ => trivial⟩ ?_
                clear hK K
                refine gate_all (rs := [17]) (by kernel_rfl) (by simp) ?_
                refine GateAll.cons rfl (fun K hK => ?_) ?_
                · go_simp
                  refine (clone_bool _ t _ (grpAt lk n e g) w12 (HGB.out.keep l12) ht1 (by omega)).mono ?_
                  rintro y w17 ⟨v17, rfl, o17, b17⟩
                  have l17 := Lat.trans l12 b17
                  have o17 := Own.mono o17 (l12).size
                  have o12 := o12.keep b17
                  have o24 := o24.keep b17
                  obtain ⟨a17, c17, rfl⟩ := own_len o17 HML2.out
                  refine hK _ _ ⟨l17, fun _ => trivial⟩ ?_
                  clear hK K
                  refine gate_all (rs := [25]) (by kernel_rfl) (by simp) ?_
                  refine GateAll.cons rfl (fun K hK => ?_) ?_
                  · obtain ⟨a25, c25, w25, hrun, o25, gr25⟩ := app_own (P := Tryz.prog) w17 wr.heap.size 45 45 4 (.bool false) 1 Tryz.underlying45 info_boolT rfl (by decide) o17 o24 rfl HML2.out (by omega) (l17).size
                    have l25 := lat_grown l17 gr25 (fun k hk => (Own.lt o17 k hk).1)
                    have o12 := Own.grown o12 gr25 (Own.apart o12 o17 (by decide))
                    refine app_step rfl (.tmp 73) (.tmp 80) 45 rfl (.slice a17 t c17) (.slice (some ⟨g24, 0, none⟩) 1 1) _ rfl rfl hrun ?_
                    refine hK _ _ ⟨l25, fun _ => trivial⟩ ?_
                    clear hK K
                    refine gate_all (rs := [26]) (by kernel_rfl) (by simp) ?_
                    refine GateAll.cons rfl (fun K hK => ?_) ?_
                    · rw [HMS.out] at o12
                      rw [HMB.out] at o25
                      obtain ⟨bk, rfl, hB26, hL26, hkc26, hcm26, hbk26⟩ := blk_strs o12 (by rw [HGSL.out]; omega)
                      obtain ⟨hL25, hbo25⟩ := bools_at o25
                      rw [HGSL.out] at hbk26
                      rw [HLKL.out] at hbo25
                      clear hL26 hL25
                      go_simp
                      refine (heal_any bk (t + 1) _ (gsG xs n e g) m _ _ (lkG lk n e g) w25 hbk26 HGSL.out hkc26 hcm26 (by omega) hm8 HGSS.out hbo25 (by omega)).mono ?_
                      rintro y w26 ⟨hy, hb26, bel26⟩
                      have l26 : Lat wr w26 := Below.trans l25 (bel26.mono hB26)
                      have hen := heal_end (E := hlE m (gsG xs n e g) (lkG lk n e g)) HHSL.out hkc26 hcm26 hb26 l26
                      obtain ⟨XV, hXV⟩ : ∃ x, x = (if hlE m (gsG xs n e g) (lkG lk n e g) = 0 then Value.slice (some ⟨bk, 0, none⟩) (t + 1 - 1) c12 else .slice none 0 0) := ⟨_, rfl⟩
                      obtain ⟨EV, hEV⟩ : ∃ x, x = errv (hlE m (gsG xs n e g) (lkG lk n e g)) := ⟨_, rfl⟩
                      rw [← hXV, ← hEV] at hy hen
                      subst hy
                      have hend := Lib.hid hen
                      clear hen hXV hEV
                      clear o12 o25 hbk26 hbo25 hb26 bel26
                      refine hK _ _ ⟨l26, fun _ => trivial⟩ ?_
                      clear hK K
                      refine gate_takeF (i := 27) (v := ?_) rfl (by kernel_rfl) (by kernel_rfl) (by kernel_rfl) (fun _ _ _ h => h) (by decide) ⟨l26, fun _ => trivial⟩ (Or.inl ⟨by rfl, ?_⟩) ?_
                      rotate_left
                      · intro wq hSw; go_simp; rfl
                      simp only [Act.put]
                      refine gate_takeF (i := 28) (v := ?_) rfl (by kernel_rfl) (by kernel_rfl) (by kernel_rfl) (fun _ _ _ h => h) (by decide) ⟨l26, fun _ => trivial⟩ (Or.inl ⟨by rfl, ?_⟩) ?_
                      rotate_left
                      · intro wq hSw; go_simp; rfl
                      simp only [Act.put]
                      refine gate_takeF (i := 29) (v := ?_) rfl (by kernel_rfl) (by kernel_rfl) (by kernel_rfl) (fun _ _ _ h => h) (by decide) ⟨l26, fun _ => trivial⟩ (Or.inl ⟨by rfl, ?_⟩) ?_
                      rotate_left
                      · intro wq hSw; go_simp; rfl
                      simp only [Act.put]
                      refine gate_takeF (i := 30) (v := ?_) rfl (by kernel_rfl) (by kernel_rfl) (by kernel_rfl) (fun _ _ _ h => h) (by decide) ⟨l26, fun _ => trivial⟩ (Or.inl ⟨by rfl, ?_⟩) ?_
                      rotate_left
                      · intro wq hSw; go_simp; rfl
                      simp only [Act.put]
                      refine gate_takeF (i := 31) (v := ?_) rfl (by kernel_rfl) (by kernel_rfl) (by kernel_rfl) (fun _ _ _ h => h) (by decide) ⟨l26, fun _ => trivial⟩ (Or.inl ⟨by rfl, ?_⟩) ?_
                      rotate_left
                      · intro wq hSw; go_simp; rfl
                      simp only [Act.put]
                      refine gate_done (by kernel_rfl) ?_ _
                      simp only [List.getElem_toArray, List.getElem_cons_succ, List.getElem_cons_zero]
                      go_wp2
                      go_meet
                      case rel => exact hend.out
                    exact GateAll.nil
                  exact GateAll.nil
                exact GateAll.nil
              exact GateAll.nil
            exact GateAll.nil
          refine GateAll.cons rfl (fun K hK => ?_) ?_
          · go_simp
            have b11 : Lat w24 (w24.alloc (.cells #[.string xz] 9)) := Lat.alloc _ _
            have o11 : Own (w24.alloc (.cells #[.string xz] 9)) wr.heap.size 9 (.slice (some ⟨w24.heap.size, 0, none⟩) 1 1) [.string xz] := own_one w24 wr.heap.size 9 (.string xz) (l24).size
            have o24 := o24.keep b11
            have l11 := Lat.trans l24 b11
            obtain ⟨g11, hg11⟩ : ∃ x, x = w24.heap.size := ⟨_, rfl⟩
            obtain ⟨w11, hw11⟩ : ∃ x, x = w24.alloc (.cells #[.string xz] 9) := ⟨_, rfl⟩
            rw [← hw11] at b11 o11 l11 o24 ⊢
            rw [← hg11] at o11 ⊢
            clear hw11 hg11
            refine hK _ _ ⟨l11, fun _ => trivial⟩ ?_
            clear hK K
            refine gate_all (rs := [4]) (by kernel_rfl) (by simp) ?_
            refine GateAll.cons rfl (fun K hK => ?_) ?_
            · go_simp
              refine (clone_str _ t _ (grpAt xs n e g) w11 (HGS.out.keep l11) ht1 (by omega)).mono ?_
              rintro y w4 ⟨v4, rfl, o4, b4⟩
              have l4 := Lat.trans l11 b4
              have o4 := Own.mono o4 (l11).size
              have o11 := o11.keep b4
              have o24 := o24.keep b4
              obtain ⟨a4, c4, rfl⟩ := own_len o4 HML1.out
              refine hK _ _ ⟨l4, fun _ => trivial⟩ ?_
              clear hK K
              refine gate_all (rs := [12]) (by kernel_rfl) (by simp) ?_
              refine GateAll.cons rfl (fun K hK => ?_) ?_
              · obtain ⟨a12, c12, w12, hrun, o12, gr12⟩ := app_own (P := Tryz.prog) w4 wr.heap.size 22 22 9 (.string .empty) 16 Tryz.underlying22 info_string rfl (by decide) o4 o11 rfl HML1.out (by omega) (l4).size
                have l12 := lat_grown l4 gr12 (fun k hk => (Own.lt o4 k hk).1)
                have o24 := Own.grown o24 gr12 (Own.apart o24 o4 (by decide))
                refine app_step rfl (.tmp 60) (.tmp 67) 22 rfl (.slice a4 t c4) (.slice (some ⟨g11, 0, none⟩) 1 1) _ rfl rfl hrun ?_
                refine hK _ _ ⟨l12, fun _ => trivial⟩ ?_
                clear hK K
                refine gate_all (rs := [17]) (by kernel_rfl) (by simp) ?_
                refine GateAll.cons rfl (fun K hK => ?_) ?_
                · go_simp
                  refine (clone_bool _ t _ (grpAt lk n e g) w12 (HGB.out.keep l12) ht1 (by omega)).mono ?_
                  rintro y w17 ⟨v17, rfl, o17, b17⟩
                  have l17 := Lat.trans l12 b17
                  have o17 := Own.mono o17 (l12).size
                  have o12 := o12.keep b17
                  have o24 := o24.keep b17
                  obtain ⟨a17, c17, rfl⟩ := own_len o17 HML2.out
                  refine hK _ _ ⟨l17, fun _ => trivial⟩ ?_
                  clear hK K
                  refine gate_all (rs := [25]) (by kernel_rfl) (by simp) ?_
                  refine GateAll.cons rfl (fun K hK => ?_) ?_
                  · obtain ⟨a25, c25, w25, hrun, o25, gr25⟩ := app_own (P := Tryz.prog) w17 wr.heap.size 45 45 4 (.bool false) 1 Tryz.underlying45 info_boolT rfl (by decide) o17 o24 rfl HML2.out (by omega) (l17).size
                    have l25 := lat_grown l17 gr25 (fun k hk => (Own.lt o17 k hk).1)
                    have o12 := Own.grown o12 gr25 (Own.apart o12 o17 (by decide))
                    refine app_step rfl (.tmp 73) (.tmp 80) 45 rfl (.slice a17 t c17) (.slice (some ⟨g24, 0, none⟩) 1 1) _ rfl rfl hrun ?_
                    refine hK _ _ ⟨l25, fun _ => trivial⟩ ?_
                    clear hK K
                    refine gate_all (rs := [26]) (by kernel_rfl) (by simp) ?_
                    refine GateAll.cons rfl (fun K hK => ?_) ?_
                    · rw [HMS.out] at o12
                      rw [HMB.out] at o25
                      obtain ⟨bk, rfl, hB26, hL26, hkc26, hcm26, hbk26⟩ := blk_strs o12 (by rw [HGSL.out]; omega)
                      obtain ⟨hL25, hbo25⟩ := bools_at o25
                      rw [HGSL.out] at hbk26
                      rw [HLKL.out] at hbo25
                      clear hL26 hL25
                      go_simp
                      refine (heal_any bk (t + 1) _ (gsG xs n e g) m _ _ (lkG lk n e g) w25 hbk26 HGSL.out hkc26 hcm26 (by omega) hm8 HGSS.out hbo25 (by omega)).mono ?_
                      rintro y w26 ⟨hy, hb26, bel26⟩
                      have l26 : Lat wr w26 := Below.trans l25 (bel26.mono hB26)
                      have hen := heal_end (E := hlE m (gsG xs n e g) (lkG lk n e g)) HHSL.out hkc26 hcm26 hb26 l26
                      obtain ⟨XV, hXV⟩ : ∃ x, x = (if hlE m (gsG xs n e g) (lkG lk n e g) = 0 then Value.slice (some ⟨bk, 0, none⟩) (t + 1 - 1) c12 else .slice none 0 0) := ⟨_, rfl⟩
                      obtain ⟨EV, hEV⟩ : ∃ x, x = errv (hlE m (gsG xs n e g) (lkG lk n e g)) := ⟨_, rfl⟩
                      rw [← hXV, ← hEV] at hy hen
                      subst hy
                      have hend := Lib.hid hen
                      clear hen hXV hEV
                      clear o12 o25 hbk26 hbo25 hb26 bel26
                      refine hK _ _ ⟨l26, fun _ => trivial⟩ ?_
                      clear hK K
                      refine gate_takeF (i := 27) (v := ?_) rfl (by kernel_rfl) (by kernel_rfl) (by kernel_rfl) (fun _ _ _ h => h) (by decide) ⟨l26, fun _ => trivial⟩ (Or.inl ⟨by rfl, ?_⟩) ?_
                      rotate_left
                      · intro wq hSw; go_simp; rfl
                      simp only [Act.put]
                      refine gate_takeF (i := 28) (v := ?_) rfl (by kernel_rfl) (by kernel_rfl) (by kernel_rfl) (fun _ _ _ h => h) (by decide) ⟨l26, fun _ => trivial⟩ (Or.inl ⟨by rfl, ?_⟩) ?_
                      rotate_left
                      · intro wq hSw; go_simp; rfl
                      simp only [Act.put]
                      refine gate_takeF (i := 29) (v := ?_) rfl (by kernel_rfl) (by kernel_rfl) (by kernel_rfl) (fun _ _ _ h => h) (by decide) ⟨l26, fun _ => trivial⟩ (Or.inl ⟨by rfl, ?_⟩) ?_
                      rotate_left
                      · intro wq hSw; go_simp; rfl
                      simp only [Act.put]
                      refine gate_takeF (i := 30) (v := ?_) rfl (by kernel_rfl) (by kernel_rfl) (by kernel_rfl) (fun _ _ _ h => h) (by decide) ⟨l26, fun _ => trivial⟩ (Or.inl ⟨by rfl, ?_⟩) ?_
                      rotate_left
                      · intro wq hSw; go_simp; rfl
                      simp only [Act.put]
                      refine gate_takeF (i := 31) (v := ?_) rfl (by kernel_rfl) (by kernel_rfl) (by kernel_rfl) (fun _ _ _ h => h) (by decide) ⟨l26, fun _ => trivial⟩ (Or.inl ⟨by rfl, ?_⟩) ?_
                      rotate_left
                      · intro wq hSw; go_simp; rfl
                      simp only [Act.put]
                      refine gate_done (by kernel_rfl) ?_ _
                      simp only [List.getElem_toArray, List.getElem_cons_succ, List.getElem_cons_zero]
                      go_wp2
                      go_meet
                      case rel => exact hend.out
                    exact GateAll.nil
                  exact GateAll.nil
                exact GateAll.nil
              exact GateAll.nil
            exact GateAll.nil
          exact GateAll.nil
        exact GateAll.nil
      case rest =>
        obtain ⟨her, hl3, a3, k3, c3, hx3, hE3⟩ := hcut
        obtain ⟨E, hE⟩ : ∃ E, E = hlE m (gsG xs n e g) (lkG lk n e g) := ⟨_, rfl⟩
        rw [← hE] at her hE3
        subst her
        subst hx3
        have hZ1 : (if E = 0 then hgE xs lk m n e (G - (g + 1)) (g + 1) else E) = Z := by
          rw [← HZZ.out, show G - g = (G - (g + 1)) + 1 by omega, hE]; rfl
        have hz := HO.out.keep hl3
        by_cases h0 : E = 0
        · obtain ⟨hk3, hr3⟩ := hE3 h0
          subst hk3
          rw [if_pos h0] at hZ1
          rw [errv_zero h0]
          rw [← HHL.out] at hr3
          have hlen : (hlG xs lk m n e g).length = k3 := by rw [HHL.out, List.length_take, HHSL.out]; omega
          have hgl : (hgS xs lk m n e g).length ≤ 1000 := by
            have := hgS_le xs lk m n e he2 g
            omega
          have HLN := Lib.hid hlen; have HR3 := Lib.hid hr3; have HZ1 := Lib.hid hZ1; have HOW := Lib.hid hz; have HL3 := Lib.hid (Lat.trans HLT.out hl3); have HGLN := Lib.hid hgl
          clear hE hE3 h0 hr3 hlen hZ1 hz hl3 hgl
          go_wp2_with (at_builtin; refine wpList_appM _ w w.heap.size rfl _ _ 22 rfl 9 (.string .empty) 16 Tryz.underlying22 info_string rfl (by decide) _ _ rfl HOW.out a3 k3 c3 ((hlG xs lk m n e g).map Value.string) rfl (by rw [List.length_map]; exact HLN.out) HR3.out (fun u hu => by obtain ⟨s, _, rfl⟩ := List.mem_map.1 hu; rfl) (by rw [List.length_map]; have := HGLN.out; omega) rfl HL3.out ?_; intro v' w' hown' hb' _)
          have hown2 : OwnStrs w' w.heap.size v' (hgS xs lk m n e (g + 1)) := by
            show Own _ _ _ _ _
            rw [hgS, List.map_append]; exact hown'
          have HOWN := Lib.hid hown2; have HB2 := Lib.hid hb'
          clear hown' hb' hown2
          go_wp2
          go_roundg (gk - 1)
          case measure => go_light; have := HF.out; omega
          case rel => go_light; exact ⟨g + 1, by omega, by go_num, by have := HF.out; omega, HZ1.out, HOWN.out, HB2.out⟩
        · rw [if_neg h0] at hZ1
          rw [errv_pos h0]
          subst hZ1
          have HL3 := Lib.hid (Lat.trans HLT.out hl3); have H0 := Lib.hid h0
          clear hE hE3 h0 hz hl3
          go_wp2
          go_ret2
          exact ⟨⟨_, by rw [errv_pos H0.out]; rfl, fun h => absurd h H0.out, fun _ => rfl⟩, HL3.out⟩
      -- END 16
    · obtain rfl : g = G := by omega
      obtain ⟨hf, hz, hown, hlat⟩ := hrel.out
      have hz0 : Z = 0 := by rw [← hz, Nat.sub_self]; rfl
      have HLT := Lib.hid hlat; have HO := Lib.hid hown; have HZ0 := Lib.hid hz0
      clear hrel hf hz hown hlat hz0
      go_wp2
      go_ret2
      exact ⟨⟨_, by rw [HZ0.out, errv_zero rfl]; rfl, fun _ => HO.out, fun h => absurd HZ0.out h⟩, HLT.out⟩
end Go.Proofs.YtgcmlpcpkpnfnaaGreatDoor
