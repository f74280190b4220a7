/- guard.Add: the blocks, and behind them each group's own. -/
import Derived.Maps.AppendAt
import Derived.RangeFuncBox
import Derived.Test.YtgcmlpcpkpnfnaaGreatDoorChunk
import Derived.Test.YtgcmlpcpkpnfnaaGreatDoorClone
import Derived.Test.YtgcmlpcpkpnfnaaGreatDoorDegree
namespace Go.Proofs.YtgcmlpcpkpnfnaaGreatDoor
open Go.ChangeShapes Go.WideShapes Go.ChangeAt Go.RowKit Go.Shelf

attribute [local go_sem] Oper.semAt_some

/-- what is behind group g -/
def ovG (ss : List ByteArray) (e g : Nat) : ByteArray := S (ovl (szAt ss 0) (bts (grpAt ss ss.length e g)))
def addS (ss : List ByteArray) (e : Nat) : List ByteArray := ss ++ (List.range (grps ss.length e)).map (ovG ss e)

/-- the blocks, and behind them what has come -/
def outS (ss : List ByteArray) (e : Nat) {G : Nat} (pre : List (Fin G)) : List ByteArray := ss ++ pre.map fun g => ovG ss e g.1
/-- a group of a slice is the slice of the group -/
theorem grp_at {w : World} {b off n cap : Nat} {ss : List ByteArray} (h : StrsAt w (some ⟨b, off, none⟩) n cap ss) (hn : 1 ≤ n) (e g : Nat) (hg : g * e < n) :
    StrsAt w (some ⟨b, off + g * e, none⟩) (min e (n - g * e)) (min e (n - g * e)) (grpAt ss n e g) := by
  have hl := h.len
  have hle := h.row.le
  have hcm := h.row.cap
  refine ⟨by unfold grpAt; rw [List.length_take, List.length_drop, List.length_take, hl]; omega, ⟨Nat.le_refl _, by omega, fun _ => ⟨b, off + g * e, rfl, fun j hj => ?_⟩⟩, fun s hs => h.sz s (List.mem_of_mem_take (List.mem_of_mem_drop (List.mem_of_mem_take hs)))⟩
  obtain ⟨b2, o2, ha, hc⟩ := h.row.at_ (by omega)
  injection ha with ha
  injection ha with ha1 ha2 _
  subst ha1
  subst ha2
  rw [Nat.add_assoc, hc (g * e + j) (by omega)]
  unfold grpAt
  congr 2
  rw [List.getD_eq_getElem?_getD, List.getD_eq_getElem?_getD, List.getElem?_take_of_lt (by omega), List.getElem?_drop, List.getElem?_take_of_lt (by omega)]

theorem add_sizes {ss : List ByteArray} (hok : ChkOk ss) : ∀ s ∈ ss, s.size = szAt ss 0 := fun s hs => by
  obtain ⟨j, hj, rfl⟩ := List.getElem_of_mem hs
  rw [← hok.all j hj]
  unfold szAt
  rw [List.getD_eq_getElem?_getD, List.getElem?_eq_getElem hj]; rfl

/-- An append in a region that draws its order, inside a fence. -/
theorem appIn_step {F : Fence} {m : Nat} {P : Program} {ops : Array Oper} {o : Oper} {a : Act} {K : Act → World → Prop} {Q : Exit → Act → World → Prop} {w w' : World} {E : Prop} (hg : o.guard = none) (s x : Operand) (t : TypeId)
    (ho : o.op = .call { callee := .builtin .append, args := #[s, x], argTypes := #[t, t] }) (v u v' : Value) (hs : a.eval s = v) (hx : a.eval x = u) (hrun : (Builtin.append_ #[t, t] o.type #[v, u]).run P w = .ok v' w') (hK : K (a.put o.dst v') w') :
    if Region.wanted o (yielded ops a.tmps) = true then Oper.wpIn F m P o a w K Q else E := by
  have hw : Region.wanted o (yielded ops a.tmps) = true := by simp [Region.wanted, hg]
  rw [if_pos hw]
  unfold Oper.wpIn
  refine ⟨?_, ?_⟩
  · simp [Oper.about, ho, resolve, Target.leads, Sem.run_pure]
  · rw [Oper.semAt_plain F _ _ (by rw [ho]; intro c hc; cases hc)]
    simp only [execOp, ho, resolve, invoke, builtin, Sem.run_bind, Sem.run_pure, Result.andThen_ok, List.map_toArray, List.map_cons, List.map_nil, hs, hx, hrun]
    exact hK

theorem Lat.others {W W' : World} (h : Lat W W') : KeepsOthers W W' := ⟨h.size, fun k _ hk _ => (h.block k (Array.getElem?_eq_some_iff.1 hk).1).trans hk⟩
theorem Lat.boxed {W W' : World} {B : Nat} {t : TypeId} {v : Value} (h : Lat W W') (hv : Boxed W B t v) : Boxed W' B t v := (h.block B hv.lt).trans hv

/-- ONE ROUND: what is appended behind a call that only reads. -/
theorem add_step {w W W2 : World} {B : Nat} {v sl ev : Value} {L : List ByteArray} (hv : Boxed W B 22 v) (hrow : W.ownsRow w.heap.size 9 1 v L.length (L.map Value.string))
    (hS : Boxed W (B + 1) 22 sl) (hE : Boxed W (B + 1 + 1) 3 ev) (hLW : Below w.heap.size w W) (hB : w.heap.size ≤ B) (hn : L.length ≤ 100) (r : ByteArray) (h2 : Lat W W2) (D : Nat) :
    ∃ a' c' w1, (Builtin.append_ #[22, 22] 22 #[v, .slice (some ⟨W2.heap.size, 0, none⟩) 1 1]).run Tryz.prog (W2.alloc (.cells #[.string r] 9)) = .ok (.slice a' (L.length + 1) c') w1
      ∧ W2.cell? ⟨B, 0, none⟩ = some v ∧ B < W2.heap.size ∧ w1.cell? ⟨B, 0, none⟩ = some v ∧ w1.frozen? ⟨B, 0, none⟩ = false
      ∧ Hid (KeepsFrom D W (w1.setCell ⟨B, 0, none⟩ (.slice a' (L.length + 1) c')) ∧ KC (B + 1) (B + 1 + 1) W (w1.setCell ⟨B, 0, none⟩ (.slice a' (L.length + 1) c')) ∧
        (∃ v, Boxed (w1.setCell ⟨B, 0, none⟩ (.slice a' (L.length + 1) c')) B 22 v ∧ (w1.setCell ⟨B, 0, none⟩ (.slice a' (L.length + 1) c')).ownsRow w.heap.size 9 1 v (L ++ [r]).length ((L ++ [r]).map Value.string) ∧ True) ∧
        ((Boxed (w1.setCell ⟨B, 0, none⟩ (.slice a' (L.length + 1) c')) (B + 1) 22 sl ∧ Boxed (w1.setCell ⟨B, 0, none⟩ (.slice a' (L.length + 1) c')) (B + 1 + 1) 3 ev) ∧ Below w.heap.size w (w1.setCell ⟨B, 0, none⟩ (.slice a' (L.length + 1) c')))) := by
  have hv2 := h2.boxed hv
  have hS2 := h2.boxed hS
  have hE2 := h2.boxed hE
  have hsz : w.heap.size ≤ W2.heap.size := Nat.le_trans hLW.size h2.size
  have hown : Own W w.heap.size 9 v (L.map Value.string) := by unfold Own; rw [List.length_map]; exact hrow
  have hown2 := Own.keep hown h2
  have hrow2 : W2.ownsRow w.heap.size 9 1 v (L.map Value.string).length (L.map Value.string) := hown2
  have hrow1 : RowAt (W2.alloc (.cells #[.string r] 9)) (some ⟨W2.heap.size, 0, none⟩) 1 1 (fun j => [Value.string r].getD j undef) := by
    refine ⟨Nat.le_refl _, by unfold maxLen; omega, fun _ => ⟨W2.heap.size, 0, rfl, fun j hj => ?_⟩⟩
    obtain rfl : j = 0 := by omega
    simp
  obtain ⟨v', w1, hrun, hown', hgrow, _⟩ := run_app_many (P := Tryz.prog) (W2.alloc (.cells #[.string r] 9)) w.heap.size 22 22 9 (.string .empty) 16 Tryz.underlying22 info_string rfl (by decide) v _ (Own.alloc hown2 _) (some ⟨W2.heap.size, 0, none⟩) 1 1 [.string r] rfl
    hrow1 (fun u hu => by rw [List.mem_singleton.1 hu]; rfl) (by rw [List.length_map]; omega) (by simp; omega)
  obtain ⟨a', c', hv', _⟩ := Own.slice hown'
  have hlen : (L.map Value.string ++ [Value.string r]).length = L.length + 1 := by simp
  rw [hlen] at hv'
  subst hv'
  have hown3 : w1.ownsRow w.heap.size 9 1 (.slice a' (L.length + 1) c') (L.length + 1) (L.map Value.string ++ [.string r]) := by unfold Own at hown'; rw [hlen] at hown'; exact hown'
  obtain ⟨hv1, hv3, hr3, hk3, hb3⟩ := hv2.appended (by decide) hrow2 hsz hB hown3 hgrow
  have hS1 : Boxed w1 (B + 1) 22 sl := (hS2.alloc _).kept hgrow (hS2.not_row (by decide) hrow2)
  have hE1 : Boxed w1 (B + 1 + 1) 3 ev := (hE2.alloc _).kept hgrow (hE2.not_row (by decide) hrow2)
  have hS3 := hS1.other (B' := B) (by omega) (.slice a' (L.length + 1) c')
  have hE3 := hE1.other (B' := B) (by omega) (.slice a' (L.length + 1) c')
  refine ⟨a', c', w1, hrun, hv2.cell, hv2.lt, hv1.cell, hv1.frozen, (h2.others.trans hk3).from D, ⟨hS3.cell.trans hS.cell.symm, hE3.cell.trans hE.cell.symm⟩, ⟨_, hv3, ?_, trivial⟩, ⟨hS3, hE3⟩, hLW.trans ((h2.mono hLW.size).trans hb3)⟩
  rw [List.length_append, List.map_append]
  exact hr3

set_option maxRecDepth 100000 in
set_option maxHeartbeats 2000000 in
theorem add_ok (a : Option Addr) (n cap : Nat) (ss : List ByteArray) (e : Nat) (w : World) (h : StrsAt w a n cap ss) (hok : chk ss = 0) (he : 1 ≤ e) (he2 : e ≤ 16) (hfit : n + grps n e ≤ 16) :
    Calls Tryz.prog 5 #[.slice a n cap, .int .i64 e] w fun x w' => ∃ v, x = .returned (.tuple #[v, .nilIface]) ∧ OwnStrs w' w.heap.size v (addS ss e) ∧ Lat w w' := by
  have hck := chk_ok hok
  have hl := h.len
  have hcm := h.row.cap
  have hle := h.row.le
  have hn1 : 1 ≤ n := by have := hck.pos; omega
  have hsz := add_sizes hck
  have hm8 := hck.eight
  obtain ⟨G, hG⟩ : ∃ G, G = grps n e := ⟨_, rfl⟩
  have hgr := fun W => groups_any n e W (by omega) he he2
  rw [← hG] at hfit hgr
  have hGl := fun g => grps_lt n e g he
  rw [← hG] at hGl
  obtain ⟨b, off, rfl, _⟩ := h.row.at_ (by omega)
  have d1 : ((n : Int) + (G : Int) > 16) = False := by simp; omega
  have H := Lib.hid h; have HK := Lib.hid hok; have HC := Lib.hid hck; have HGR := Lib.hid hgr; have HL := Lib.hid hl; have HSZ := Lib.hid hsz; have HGL := Lib.hid hGl; have HG := Lib.hid hG
  clear h hok hck hgr hl hsz hGl hG
  refine (callsIn_wide (n := 3)).1 ?_
  refine callsIn_of_wp_marks Tryz.func5 rfl trivial ?_ rfl
  simp only [Tryz.ntmps5, List.size_toArray, List.length_cons, List.length_nil, Nat.reduceAdd, Nat.reduceSub, Array.replicate_succ, Array.replicate_zero, List.push_toArray, List.append_toArray, List.nil_append, List.cons_append]
  gi_wp2_with (first
    | (refine ⟨trivial, ?_⟩; gi_at_call 22; refine (callsIn_wide.2 (check_ok _ n cap ss _ H.out HK.out)).mono ?_; rintro x w1 ⟨rfl, hb1⟩)
    | (refine ⟨trivial, ?_⟩; gi_at_call 23; refine (callsIn_wide.2 (dblocks_yes e _ (by omega) (by omega))).mono ?_; rintro x w2 ⟨rfl, rfl⟩)
    | (refine ⟨trivial, ?_⟩; gi_at_call 24; refine (callsIn_wide.2 (HGR.out _)).mono ?_; rintro x w2 ⟨rfl, rfl⟩)
    | (refine ⟨trivial, ?_⟩; gi_at_call 25; refine (callsIn_wide.2 (clone_str _ n cap ss _ (H.out.keep hb1) hn1 (by omega))).mono ?_; rintro x w3 ⟨v0, rfl, hov, hb3⟩; obtain ⟨a0, c0, rfl, _⟩ := OwnStrs.slice hov H.out.sz)
    | (refine ⟨trivial, ?_⟩; gi_at_call 26; refine (callsIn_wide.2 (chunk_make _ n cap e _ he)).mono ?_; rintro x w4 ⟨rfl, rfl⟩))
  have hb0 : Lat w w3 := hb1.trans hb3
  have hsz3 := hb0.size
  have hown0 : w3.ownsRow w.heap.size 9 1 (.slice a0 ss.length c0) ss.length (ss.map Value.string) := by
    have h2 := Own.mono hov hb1.size
    unfold Own at h2
    rw [List.length_map] at h2
    exact h2
  obtain ⟨B, hB⟩ : ∃ B, B = w3.heap.size := ⟨_, rfl⟩
  have hBl : w.heap.size ≤ B := by rw [hB]; exact hsz3
  obtain ⟨sl, hsl⟩ : ∃ v : Value, v = .slice (some ⟨b, off, none⟩) n cap := ⟨_, rfl⟩
  obtain ⟨W0, hW0⟩ : ∃ W, W = ((w3.alloc (.cells #[.slice a0 ss.length c0] 22)).alloc (.cells #[.slice (some ⟨b, off, none⟩) n cap] 22)).alloc (.cells #[.int .i64 e] 3) := ⟨_, rfl⟩
  have bO : Boxed W0 B 22 (.slice a0 ss.length c0) := by rw [hW0, hB]; exact ((Boxed.new _ _ _).alloc _).alloc _
  have bS : Boxed W0 (B + 1) 22 (.slice (some ⟨b, off, none⟩) n cap) := by
    have h2 := Boxed.new (w3.alloc (.cells #[.slice a0 ss.length c0] 22)) 22 (.slice (some ⟨b, off, none⟩) n cap)
    rw [World.size_alloc] at h2
    rw [hW0, hB]; exact h2.alloc _
  have bE : Boxed W0 (B + 1 + 1) 3 (.int .i64 e) := by
    have h2 := Boxed.new ((w3.alloc (.cells #[.slice a0 ss.length c0] 22)).alloc (.cells #[.slice (some ⟨b, off, none⟩) n cap] 22)) 3 (.int .i64 e)
    rw [World.size_alloc, World.size_alloc] at h2
    rw [hW0, hB]; exact h2
  have hs0 : W0.heap.size = B + 1 + 1 + 1 := by rw [hW0, hB]; simp
  have hown1 : W0.ownsRow w.heap.size 9 1 (.slice a0 ss.length c0) ss.length (ss.map Value.string) := by rw [hW0]; exact ((hown0.alloc _).alloc _).alloc _
  have hlat0 : Below w.heap.size w W0 := by rw [hW0]; exact ((hb0.trans (Lat.alloc _ _)).trans (Lat.alloc _ _)).trans (Lat.alloc _ _)
  rw [← hW0, ← hB]
  clear hW0 hB hown0 hov hb3 hb1
  refine wpIn_rangeFunc_ownG (α := Fin G) rfl (by omega) (gf := 55) (lb := #[.pointer (some ⟨B + 1, 0, none⟩), .pointer (some ⟨B + 1 + 1, 0, none⟩)]) rfl trivial (enters_of Tryz.func55 (by kernel_rfl) rfl)
    (chunk_stops 2 (by omega) (B + 1) (B + 1 + 1) b off n cap e G HG.out he he2 (by omega) hle hcm W0 (by omega) (by omega) bS.cell bE.cell) (fun h k => h.trans k) (fun W l o o' hl h1 h2 h3 => KC.put (by omega) (by omega) W l o o' hl h1 h2 h3) (Below.refl _ _) (fun _ => rfl)
    (fun pre W => (∃ v, Boxed W B 22 v ∧ W.ownsRow w.heap.size 9 1 v (outS ss e pre).length ((outS ss e pre).map Value.string) ∧ True) ∧ ((Boxed W (B + 1) 22 (.slice (some ⟨b, off, none⟩) n cap) ∧ Boxed W (B + 1 + 1) 3 (.int .i64 e)) ∧ Below w.heap.size w W))
    (fun _ _ _ => False)
    (OwnFrom.and (Own.from (holdsRow_own w.heap.size B 22 9 1 (fun pre => (outS ss e pre).length) (fun pre => (outS ss e pre).map Value.string) (fun _ _ => True)) _) (OwnFrom.and (OwnFrom.and (Own.from (boxed_own (B + 1) 22 (fun _ => .slice (some ⟨b, off, none⟩) n cap)) _) (Own.from (boxed_own (B + 1 + 1) 3 (fun _ => .int .i64 e)) _)) (ownFrom_below (Nat.le_refl _) (by omega))))
    (fun _ _ _ _ _ hs _ _ => hs)
    ⟨⟨_, bO, by simpa [outS] using hown1, trivial⟩, ⟨bS, bE⟩, hlat0⟩
    (fun x => { tmps := #[.slice (some ⟨b, off, none⟩) n cap, .int .i64 e, undef, undef, .slice none 0 0, .nilIface, .nilIface, .pointer (some ⟨B, 0, none⟩), chk1 b off n e x.1, .slice (some ⟨b, off, none⟩) n cap, .nilIface, .nilIface, .bool false, undef, .bool false, .int .i64 e, .bool true, .bool false, undef, .bool false, .slice (some ⟨b, off, none⟩) n cap, .int .i64 n, .slice (some ⟨b, off, none⟩) n cap, .int .i64 n, .int .i64 e, .int .i64 G, .int .i64 ((n : Int) + (G : Int)), .bool false, undef, .slice (some ⟨b, off, none⟩) n cap, .slice a0 ss.length c0, .slice (some ⟨b, off, none⟩) n cap, .int .i64 e, .func (.func 55) #[] #[.pointer (some ⟨B + 1, 0, none⟩), .pointer (some ⟨B + 1 + 1, 0, none⟩)], chk1 b off n e x.1, undef, undef, undef, undef, undef, undef], defers := [] }) ?assign ?body ?done ?stop
  case assign =>
    intro l x W K hK
    gi_wp2
    exact hK
  case body =>
    rintro l pre x W ⟨⟨v, hv, hrow, _⟩, ⟨hS, hE⟩, hLW⟩ hlt
    have hxg : x.1 * e < n := (HGL.out x.1).1 x.2
    have hat := (grp_at H.out hn1 e x.1 hxg).keep (Lat.trans hLW (Lat.drew W))
    obtain ⟨q, hq⟩ : ∃ q, q = x.1 * e := ⟨_, rfl⟩
    obtain ⟨t, ht⟩ : ∃ t, t = min e (n - q) := ⟨_, rfl⟩
    have ht1 : 1 ≤ t := by omega
    rw [← hq, ← ht] at hat
    have hchk : chk1 b off n e x.1 = .slice (some ⟨b, off + q, none⟩) t t := by unfold chk1; rw [← hq, ← ht]
    have hor := over_row _ t t (grpAt ss n e x.1) (szAt ss 0) W.drew hat ht1 hm8 (fun s hs => HSZ.out s (List.mem_of_mem_take (List.mem_of_mem_drop (List.mem_of_mem_take hs))))
    obtain ⟨r, hr⟩ : ∃ r, r = ovG ss e x.1 := ⟨_, rfl⟩
    have hr2 : S (ovl (szAt ss 0) (bts (grpAt ss n e x.1))) = r := by rw [hr, ovG, HL.out]
    rw [hr2] at hor
    have hpl : (outS ss e pre).length ≤ 100 := by
      have h2 := HL.out
      unfold outS
      rw [List.length_append, List.length_map]
      omega
    have hout : outS ss e (pre ++ [x]) = outS ss e pre ++ [r] := by
      unfold outS
      rw [List.map_append, ← List.append_assoc, hr]; rfl
    have HOR := Lib.hid hor; have HOUT := Lib.hid hout; have HPL := Lib.hid hpl; have HROW := Lib.hid hrow; have HS := Lib.hid hS; have HE := Lib.hid hE; have HV := Lib.hid hv; have HLW := Lib.hid hLW
    have hc0 := hv.cell
    have hlt0 := hv.lt
    have hmx : Tryz.prog.follows .mixedOrders = true := by kernel_rfl
    simp only [hchk]
    clear hor hout hpl hrow hS hE hv hLW hat hq ht hr hr2 hchk hxg
    gi_wp2
    refine wpIn_region_any (by kernel_rfl) ?_
    change wpAnyIn _ _ _ _ _ _ _ _ _ (World.drew _)
    refine wpAnyIn_ready (rs := [0, 1]) (by kernel_rfl) (by simp) ?_
    refine AllReadyIn.cons rfl (fun K hK => ?_) ?_
    · go_simp
      refine hK _ _ ?_
      clear hK K
      refine wpAnyIn_ready (rs := [1]) (by kernel_rfl) (by simp) ?_
      refine AllReadyIn.cons rfl (fun K hK => ?_) ?_
      · go_simp
        refine hK _ _ ?_
        clear hK K
        refine wpAnyIn_ready (rs := [2]) (by kernel_rfl) (by simp) ?_
        refine AllReadyIn.cons rfl (fun K hK => ?_) ?_
        · go_simp
          refine ⟨trivial, ?_⟩
          gi_at_call 27
          refine (CallsIn.inRound l (callsIn_wide.2 HOR.out)).mono ?_
          rintro y W2 ⟨rfl, hb2⟩
          obtain ⟨a', c', w1, hrun, hc2, hl2, hc3, hf3, hfin⟩ := add_step HV.out HROW.out HS.out HE.out HLW.out hBl HPL.out r (Lat.trans (Lat.drew W) hb2) W0.heap.size
          refine hK _ _ ?_
          clear hK K hb2
          refine wpAnyIn_ready (rs := [3]) (by kernel_rfl) (by simp) ?_
          refine AllReadyIn.cons rfl (fun K hK => ?_) ?_
          · go_simp
            refine hK _ _ ?_
            clear hK K
            refine wpAnyIn_ready (rs := [4]) (by kernel_rfl) (by simp) ?_
            refine AllReadyIn.cons rfl (fun K hK => ?_) ?_
            · refine appIn_step rfl (.tmp 35) (.tmp 38) 22 rfl _ _ _ rfl rfl hrun ?_
              refine hK _ _ ?_
              clear hK K hrun
              refine wpAnyIn_ready (rs := [5]) (by kernel_rfl) (by simp) ?_
              refine AllReadyIn.cons rfl (fun K hK => ?_) ?_
              · go_simp
                refine hK _ _ ?_
                clear hK K
                refine wpAnyIn_done (by kernel_rfl) ?_ _
                gi_wp2
                have hz := hfin.out
                rw [← HOUT.out] at hz
                exact hz
              exact AllReadyIn.nil
            exact AllReadyIn.nil
          exact AllReadyIn.nil
        exact AllReadyIn.nil
      exact AllReadyIn.nil
    refine AllReadyIn.cons rfl (fun K hK => ?_) ?_
    · go_simp
      refine hK _ _ ?_
      clear hK K
      refine wpAnyIn_ready (rs := [0, 2]) (by kernel_rfl) (by simp) ?_
      refine AllReadyIn.cons rfl (fun K hK => ?_) ?_
      · go_simp
        refine hK _ _ ?_
        clear hK K
        refine wpAnyIn_ready (rs := [2]) (by kernel_rfl) (by simp) ?_
        refine AllReadyIn.cons rfl (fun K hK => ?_) ?_
        · go_simp
          refine ⟨trivial, ?_⟩
          gi_at_call 27
          refine (CallsIn.inRound l (callsIn_wide.2 HOR.out)).mono ?_
          rintro y W2 ⟨rfl, hb2⟩
          obtain ⟨a', c', w1, hrun, hc2, hl2, hc3, hf3, hfin⟩ := add_step HV.out HROW.out HS.out HE.out HLW.out hBl HPL.out r (Lat.trans (Lat.drew W) hb2) W0.heap.size
          refine hK _ _ ?_
          clear hK K hb2
          refine wpAnyIn_ready (rs := [3]) (by kernel_rfl) (by simp) ?_
          refine AllReadyIn.cons rfl (fun K hK => ?_) ?_
          · go_simp
            refine hK _ _ ?_
            clear hK K
            refine wpAnyIn_ready (rs := [4]) (by kernel_rfl) (by simp) ?_
            refine AllReadyIn.cons rfl (fun K hK => ?_) ?_
            · refine appIn_step rfl (.tmp 35) (.tmp 38) 22 rfl _ _ _ rfl rfl hrun ?_
              refine hK _ _ ?_
              clear hK K hrun
              refine wpAnyIn_ready (rs := [5]) (by kernel_rfl) (by simp) ?_
              refine AllReadyIn.cons rfl (fun K hK => ?_) ?_
              · go_simp
                refine hK _ _ ?_
                clear hK K
                refine wpAnyIn_done (by kernel_rfl) ?_ _
                gi_wp2
                have hz := hfin.out
                rw [← HOUT.out] at hz
                exact hz
              exact AllReadyIn.nil
            exact AllReadyIn.nil
          exact AllReadyIn.nil
        exact AllReadyIn.nil
      refine AllReadyIn.cons rfl (fun K hK => ?_) ?_
      · go_simp
        refine ⟨trivial, ?_⟩
        gi_at_call 27
        refine (CallsIn.inRound l (callsIn_wide.2 HOR.out)).mono ?_
        rintro y W2 ⟨rfl, hb2⟩
        obtain ⟨a', c', w1, hrun, hc2, hl2, hc3, hf3, hfin⟩ := add_step HV.out HROW.out HS.out HE.out HLW.out hBl HPL.out r (Lat.trans (Lat.drew W) hb2) W0.heap.size
        refine hK _ _ ?_
        clear hK K hb2
        refine wpAnyIn_ready (rs := [0, 3]) (by kernel_rfl) (by simp) ?_
        refine AllReadyIn.cons rfl (fun K hK => ?_) ?_
        · go_simp
          refine hK _ _ ?_
          clear hK K
          refine wpAnyIn_ready (rs := [3]) (by kernel_rfl) (by simp) ?_
          refine AllReadyIn.cons rfl (fun K hK => ?_) ?_
          · go_simp
            refine hK _ _ ?_
            clear hK K
            refine wpAnyIn_ready (rs := [4]) (by kernel_rfl) (by simp) ?_
            refine AllReadyIn.cons rfl (fun K hK => ?_) ?_
            · refine appIn_step rfl (.tmp 35) (.tmp 38) 22 rfl _ _ _ rfl rfl hrun ?_
              refine hK _ _ ?_
              clear hK K hrun
              refine wpAnyIn_ready (rs := [5]) (by kernel_rfl) (by simp) ?_
              refine AllReadyIn.cons rfl (fun K hK => ?_) ?_
              · go_simp
                refine hK _ _ ?_
                clear hK K
                refine wpAnyIn_done (by kernel_rfl) ?_ _
                gi_wp2
                have hz := hfin.out
                rw [← HOUT.out] at hz
                exact hz
              exact AllReadyIn.nil
            exact AllReadyIn.nil
          exact AllReadyIn.nil
        refine AllReadyIn.cons rfl (fun K hK => ?_) ?_
        · go_simp
          refine hK _ _ ?_
          clear hK K
          refine wpAnyIn_ready (rs := [0]) (by kernel_rfl) (by simp) ?_
          refine AllReadyIn.cons rfl (fun K hK => ?_) ?_
          · go_simp
            refine hK _ _ ?_
            clear hK K
            refine wpAnyIn_ready (rs := [4]) (by kernel_rfl) (by simp) ?_
            refine AllReadyIn.cons rfl (fun K hK => ?_) ?_
            · refine appIn_step rfl (.tmp 35) (.tmp 38) 22 rfl _ _ _ rfl rfl hrun ?_
              refine hK _ _ ?_
              clear hK K hrun
              refine wpAnyIn_ready (rs := [5]) (by kernel_rfl) (by simp) ?_
              refine AllReadyIn.cons rfl (fun K hK => ?_) ?_
              · go_simp
                refine hK _ _ ?_
                clear hK K
                refine wpAnyIn_done (by kernel_rfl) ?_ _
                gi_wp2
                have hz := hfin.out
                rw [← HOUT.out] at hz
                exact hz
              exact AllReadyIn.nil
            exact AllReadyIn.nil
          exact AllReadyIn.nil
        exact AllReadyIn.nil
      exact AllReadyIn.nil
    exact AllReadyIn.nil
  case done =>
    rintro D ys W hD hys ⟨⟨v, hv, hrow, _⟩, _, hLW⟩ hK
    have hc := hv.cell
    have hout : outS ss e ys = addS ss e := by
      unfold outS addS
      rw [HL.out, ← HG.out, ← hys, List.map_map]; rfl
    gi_wp2
    refine ⟨by simp, .inl ⟨_, _, rfl, run_takeDeferred hK, ?_⟩⟩
    refine ⟨_, results_tmp2 rfl _ _ _, v, rfl, ?_, hLW.trans (belowK_b (w := w) (Nat.le_refl _) W D _ _ (by omega) hK rfl rfl)⟩
    unfold OwnStrs Own
    rw [List.length_map, ← hout]
    exact ownsRow_putObj hrow _ hK rfl
  case stop =>
    rintro D c pre W _ _ h _
    exact h.elim
end Go.Proofs.YtgcmlpcpkpnfnaaGreatDoor
