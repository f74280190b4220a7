/- The contract of (*peel.Peeler).without. -/
import Derived.Test.YtcpookgbneoilaaDoorPeelM
import Derived.Test.YtcpookgbneoilaaDoorAppOne
import Derived.Deep.CutRange
import Derived.Deep.DeepCutAuto
namespace Go.Proofs.YtcpookgbneoilaaDoor
open Go.ChangeShapes Go.WideShapes Go.ChangeAt Go.RowKit

theorem Own.frL {w w' : World} {B b : Nat} {e : TypeId} {v : Value} {xs : List Value} (h : Own w B e v xs) (hf : Fr (fun j => j = b) w w') (hb : b < B) : Own w' B e v xs :=
  Own.grown h ⟨hf.os, hf.tape, hf.output, hf.size, fun k hk hne => hf.block k hk (fun e => hne (by rw [e]))⟩ fun g hg e => by
    have e : b = g := Option.some.inj e
    have := (Own.lt h g hg).1
    omega
/-- The two boxes of 'without'. -/
structure WB (w : World) (X : Nat) (a : Option Addr) (n cap : Nat) (d : Bts) (wr : World) : Prop where
  lat : Lat w wr
  lo : w.heap.size ≤ X
  lt : X + 1 < wr.heap.size
  c0 : wr.cell? ⟨X, 0, none⟩ = some (.slice a n cap)
  c1 : wr.cell? ⟨X, 1, none⟩ = some (.string (S d))
  f0 : wr.frozen? ⟨X, 0, none⟩ = false
  f1 : wr.frozen? ⟨X, 1, none⟩ = false
  r0 : wr.cell? ⟨X + 1, 0, none⟩ = some (.slice none 0 0)
  r1 : wr.cell? ⟨X + 1, 1, none⟩ = some (.string { data := #[] })
  g0 : wr.frozen? ⟨X + 1, 0, none⟩ = false
  g1 : wr.frozen? ⟨X + 1, 1, none⟩ = false
theorem WB.keep {w : World} {X : Nat} {a : Option Addr} {n cap : Nat} {d : Bts} {wr wx : World} (h : WB w X a n cap d wr) (hb : Lat wr wx) : WB w X a n cap d wx :=
  ⟨h.lat.trans hb, h.lo, Nat.lt_of_lt_of_le h.lt hb.size, hb.cell_at h.c0, hb.cell_at h.c1, hb.free_at (by have := h.lt; simp; omega) h.f0, hb.free_at (by have := h.lt; simp; omega) h.f1, hb.cell_at h.r0, hb.cell_at h.r1, hb.free_at h.lt h.g0, hb.free_at h.lt h.g1⟩
theorem WB.fr {w : World} {X : Nat} {a : Option Addr} {n cap : Nat} {d : Bts} {wr wx : World} {G : Nat → Prop} (h : WB w X a n cap d wr) (hb : Fr G wr wx) (hX : ∀ i, G i → X + 2 ≤ i) : WB w X a n cap d wx := by
  have n0 : ¬ G X := fun e => by have := hX _ e; omega
  have n1 : ¬ G (X + 1) := fun e => by have := hX _ e; omega
  have hlt := h.lt
  exact ⟨hb.lat_of h.lat (fun i e => by have := hX i e; have := h.lo; omega), h.lo, Nat.lt_of_lt_of_le h.lt hb.size, hb.cell_at h.c0 n0, hb.cell_at h.c1 n0, hb.free_at (by simp; omega) h.f0 n0, hb.free_at (by simp; omega) h.f1 n0, hb.cell_at h.r0 n1, hb.cell_at h.r1 n1, hb.free_at h.lt h.g0 n1, hb.free_at h.lt h.g1 n1⟩
theorem WB.put {w : World} {X : Nat} {a : Option Addr} {n cap : Nat} {d : Bts} {wr : World} (h : WB w X a n cap d wr) (e : Bts) : WB w X a n cap e (wr.setCell ⟨X, 1, none⟩ (.string (S e))) := by
  have hs : (wr.setCell ⟨X, 1, none⟩ (.string (S e))).heap.size = wr.heap.size := by simp [World.setCell]
  refine ⟨h.lat.setCell (p := ⟨X, 1, none⟩) h.lo _, h.lo, by rw [hs]; exact h.lt, ?_, World.cell?_setCell_same _ _ _ h.c1, by rw [World.frozen?_setCell]; exact h.f0, by rw [World.frozen?_setCell]; exact h.f1, ?_, ?_, by rw [World.frozen?_setCell]; exact h.g0, by rw [World.frozen?_setCell]; exact h.g1⟩
  · rw [World.cell?_setCell_other _ _ _ _ (by simp)]; exact h.c0
  · rw [World.cell?_setCell_other _ _ _ _ (by intro e; injection e with e _ _; omega)]; exact h.r0
  · rw [World.cell?_setCell_other _ _ _ _ (by intro e; injection e with e _ _; omega)]; exact h.r1

/-- an append of one int, by what it turns -/
theorem app_intG (wr : World) (B : Nat) {ops : Array Oper} {rest : List Oper} {o : Oper} {a : Act} {Q : Exit → Act → World → Prop}
    (hg : o.guard = none) (s x : Operand) (ho : o.op = .call { callee := .builtin .append, args := #[s, x], argTypes := #[32, 32] })
    (v : Value) (zs : List Int) (z : Int) (hs : a.eval s = v) (hown : OwnInts wr B v zs) (hx : a.eval x = .slice (some ⟨wr.heap.size, 0, none⟩) 1 1)
    (hn : zs.length < 1000000) (hB : B ≤ wr.heap.size)
    (K : ∀ v' w', OwnInts w' B v' (zs ++ [z]) → Fr (fun j => v.ownBlock = some j) wr w' → wpList Tryd.prog ops Q rest (a.put o.dst v') w') :
    wpList Tryd.prog ops Q (o :: rest) a (wr.alloc (.cells #[.int .i64 z] 3)) := by
  have hal : OwnInts (wr.alloc (.cells #[.int .i64 z] 3)) B v zs := Own.alloc hown _
  have hrow1 : RowAt (wr.alloc (.cells #[.int .i64 z] 3)) (some ⟨wr.heap.size, 0, none⟩) 1 1 (fun j => [Value.int .i64 z].getD j undef) := by
    refine ⟨Nat.le_refl _, by unfold maxLen; omega, fun _ => ⟨wr.heap.size, 0, rfl, fun j hj => ?_⟩⟩
    obtain rfl : j = 0 := by omega
    simp
  obtain ⟨v', w', hrun, h2, h3, _⟩ := run_app_many (P := Tryd.prog) (wr.alloc (.cells #[.int .i64 z] 3)) B 32 o.type 3 (.int .i64 0) 8 Tryd.underlying32 info_int rfl (by decide) v _ hal (some ⟨wr.heap.size, 0, none⟩) 1 1 [.int .i64 z] rfl
    hrow1 (fun u hu => by rw [List.mem_singleton.1 hu]; rfl) (by rw [List.length_map]; omega) (by simp; omega)
  refine wpList_plain hg fun K' hK => ?_
  unfold Oper.wp execOp
  simp only [ho, resolve, invoke, builtin, Sem.run_bind, Sem.run_pure, Result.andThen_ok, List.map_toArray, List.map_cons, List.map_nil, hs, hx, hrun]
  refine hK _ _ (K v' w' (by simpa [OwnInts] using h2) ⟨h3.os, h3.tape, h3.output, ?_, fun k hk hne => ?_⟩)
  · have := h3.size; simp at this; omega
  · rw [h3.block k (by simp; omega) (fun e => hne e.symm)]; exact heap_alloc_old wr _ hk
theorem two_put {w : World} {g : Nat} {a b : Value} (c0 : w.cell? ⟨g, 0, none⟩ = some a) (c1 : w.cell? ⟨g, 1, none⟩ = some b) (x y : Value) :
    ((w.setCell ⟨g, 0, none⟩ x).setCell ⟨g, 1, none⟩ y).cell? ⟨g, 0, none⟩ = some x ∧ ((w.setCell ⟨g, 0, none⟩ x).setCell ⟨g, 1, none⟩ y).cell? ⟨g, 1, none⟩ = some y := by
  constructor
  · rw [World.cell?_setCell_other _ _ _ _ (by simp)]; exact World.cell?_setCell_same _ _ _ c0
  · exact World.cell?_setCell_same _ _ _ ((World.cell?_setCell_other _ _ _ _ (by simp)).trans c1)
theorem two_box {w W1 : World} (hz : W1.heap.size = w.heap.size + 1) (v0 v1 : Value) (t : TypeId) :
    ((W1.alloc (.cells #[v0, v1] t)).cell? ⟨w.heap.size + 1, 0, none⟩ = some v0 ∧ (W1.alloc (.cells #[v0, v1] t)).cell? ⟨w.heap.size + 1, 1, none⟩ = some v1) ∧ (W1.alloc (.cells #[v0, v1] t)).frozen? ⟨w.heap.size + 1, 0, none⟩ = false ∧ (W1.alloc (.cells #[v0, v1] t)).frozen? ⟨w.heap.size + 1, 1, none⟩ = false := by
  rw [← hz]; simp
theorem WB.new (w : World) (a : Option Addr) (n cap : Nat) (d : Bts) : WB w w.heap.size a n cap d ((w.alloc (.cells #[.slice a n cap, .string (S d)] 74)).alloc (.cells #[.slice none 0 0, .string { data := #[] }] 74)) := by
  obtain ⟨W1, hW⟩ : ∃ W1, W1 = w.alloc (.cells #[.slice a n cap, .string (S d)] 74) := ⟨_, rfl⟩
  have hz : W1.heap.size = w.heap.size + 1 := by rw [hW]; simp
  have c0 : W1.cell? ⟨w.heap.size, 0, none⟩ = some (.slice a n cap) := by rw [hW]; simp
  have c1 : W1.cell? ⟨w.heap.size, 1, none⟩ = some (.string (S d)) := by rw [hW]; simp
  have f0 : W1.frozen? ⟨w.heap.size, 0, none⟩ = false := by rw [hW]; simp
  have f1 : W1.frozen? ⟨w.heap.size, 1, none⟩ = false := by rw [hW]; simp
  have hl : Lat w W1 := by rw [hW]; exact Lat.alloc _ _
  rw [← hW]
  have h2 := two_box hz (.slice none 0 0) (.string { data := #[] }) 74
  refine ⟨hl.trans (Lat.alloc _ _), Nat.le_refl _, by simp [hz], (Lat.alloc _ _).cell_at c0, (Lat.alloc _ _).cell_at c1, (Lat.alloc _ _).free_at (by simp [hz]) f0, (Lat.alloc _ _).free_at (by simp [hz]) f1, h2.1.1, h2.1.2, h2.2.1, h2.2.2⟩
/-- what is left of the first j -/
theorem filt_succ (K : Kn) (zs : List Int) (j : Nat) (hj : j < zs.length) : (zs.take (j + 1)).filter (unkn K) = if unkn K (zs.getD j 0) = true then (zs.take j).filter (unkn K) ++ [zs.getD j 0] else (zs.take j).filter (unkn K) := by
  have e : zs.getD j 0 = zs[j] := by rw [List.getD_eq_getElem?_getD, List.getElem?_eq_getElem hj]; rfl
  rw [List.take_succ_eq_append_getElem hj, List.filter_append, e]
  cases h : unkn K zs[j] <;> simp [h]
theorem fold_succ (K : Kn) (zs : List Int) (d : Bts) (j : Nat) (hj : j < zs.length) : (zs.take (j + 1)).foldl (ovK K) d = ovK K ((zs.take j).foldl (ovK K) d) (zs.getD j 0) := by
  have e : zs.getD j 0 = zs[j] := by rw [List.getD_eq_getElem?_getD, List.getElem?_eq_getElem hj]; rfl
  rw [List.take_succ_eq_append_getElem hj, List.foldl_append, e]; rfl

set_option maxHeartbeats 4000000 in
set_option maxRecDepth 100000 in
theorem without_any (p kb k m : Nat) (K : Kn) (a : Option Addr) (n cap : Nat) (zs : List Int) (d : Bts) (w : World) (hc2 : w.cell? ⟨p, 2, none⟩ = some (.map (some kb))) (hkn : KnAt w kb k K) (hk : k ≤ 16) (hz : IntsAt w a n cap zs) (hn : n ≤ 1000)
    (hin : ∀ z ∈ zs, 0 ≤ z ∧ z < (k : Int)) (hK : ∀ z b, K z = some b → 0 ≤ z ∧ z < (k : Int) ∧ b.length = m) (hd : d.length = m) (hm : m ≤ 8) :
    Calls Tryd.prog 56 #[.pointer (some ⟨p, 0, none⟩), .agg #[.slice a n cap, .string (S d)]] w fun e w' =>
      ∃ a' c', e = .returned (.agg #[.slice a' (wout K (zs, d)).1.length c', .string (S (wout K (zs, d)).2)]) ∧ IntsAt w' a' (wout K (zs, d)).1.length c' (wout K (zs, d)).1 ∧ (∀ b o, a' = some ⟨b, o, none⟩ → w.heap.size ≤ b) ∧ Lat w w' := by
  have hl := hz.len
  have hle := hz.row.le
  have hcm := hz.row.cap
  unfold maxLen at hcm
  have hb0 := WB.new w a n cap d
  have H2 := Lib.hid hc2; have HKN := Lib.hid hkn; have HZ := Lib.hid hz; have HIN := Lib.hid hin; have HKL := Lib.hid hK; have HD := Lib.hid hd; have HL := Lib.hid hl; have HB0 := Lib.hid hb0
  clear hc2 hkn hz hin hK hd hl hb0
  go_enter Tryd.func56, Tryd.ntmps56
  go_wp2
  go_loopw [5, 7, 8, 9, 13] (fun v _ _ _ i wr => ∃ j : Nat, j ≤ n ∧ i = .int .i64 j ∧ Hid (OwnInts wr (w.heap.size + 2) v ((zs.take j).filter (unkn K)) ∧ WB w w.heap.size a n cap ((zs.take j).foldl (ovK K) d) wr)) (fun _ _ _ _ i _ => n - (intOf i).toNat)
  case atStart => exact ⟨0, Nat.zero_le _, rfl, Own.nil _ _ _, HB0.out⟩
  case round =>
    obtain ⟨j, hj, rfl, hrel⟩ := hrel
    by_cases hlt : j < n
    · obtain ⟨hown, hwb⟩ := hrel.out
      obtain ⟨ab, ao, rfl, hc⟩ := (HZ.out.keep hwb.lat).row.at_ (by omega)
      have c1 := hc j hlt
      have hjl : j < zs.length := by rw [HL.out]; exact hlt
      have hzm := HIN.out _ (getD_mem zs j hjl)
      have hfs := filt_succ K zs j hjl
      have hds := fold_succ K zs d j hjl
      have hdl := ovK_len HKL.out (zs.take j) d HD.out
      obtain ⟨z, hz⟩ : ∃ z, z = zs.getD j 0 := ⟨_, rfl⟩
      obtain ⟨dj, hdj⟩ : ∃ dj, dj = (zs.take j).foldl (ovK K) d := ⟨_, rfl⟩
      rw [← hz] at c1 hzm hfs hds
      rw [← hdj] at hds hdl hwb
      have c2 := hwb.lat.cell_at H2.out
      have b0 := hwb.c0
      have b1 := hwb.c1
      have g1 := hwb.f1
      have i1 : (0 : Int) ≤ (j : Int) := by omega
      have i2 : (j : Int) < (n : Int) := by omega
      have hlook := (HKN.out.keep hwb.lat).look_ok hk z hzm.1 hzm.2
      obtain ⟨X, hX⟩ : ∃ X, X = w.heap.size := ⟨_, rfl⟩
      have HFS := Lib.hid hfs; have HDS := Lib.hid hds; have HDL := Lib.hid hdl; have HOW := Lib.hid hown; have HWB := Lib.hid hwb; have HJL := Lib.hid hjl; have HZM := Lib.hid hzm; have HX := Lib.hid hX
      clear hrel hc hjl hzm hfs hds hdl hz hdj hown hwb
      cases hq : K z with
      | some b =>
        have hbl := (HKL.out z b hq).2.2
        have hu : unkn K z = false := by unfold unkn; rw [hq]; rfl
        have ho : ovK K dj z = xorL dj b := by unfold ovK; rw [hq]
        rw [hq] at hlook
        have hlook2 : ∀ W, Lat wr W → (Instr.lookup 63 (.map (some kb)) (.int .i64 z) true).run Tryd.prog W = .ok (.tuple #[.string (S b), .bool true]) W := fun W hW => by
          have := ((HKN.out.keep HWB.out.lat).keep hW).look_ok hk z HZM.out.1 HZM.out.2
          rw [hq] at this; exact this
        have hover := fun W => overS dj (S b) W (by rw [HDL.out]; exact hbl.symm) (by rw [HDL.out]; unfold maxLen; omega)
        have h3 := hlook2 wr (Lat.refl _)
        have HQ := Lib.hid hq; have HBL := Lib.hid hbl; have HU := Lib.hid hu; have HO := Lib.hid ho; have HOV := Lib.hid hover
        clear hq hlook hlook2 hbl hu ho hover
        go_wp2_with (go_at_call 65; refine (HOV.out _).mono ?_; rintro e w5 ⟨rfl, hb5⟩; have hwb5 := HWB.out.keep hb5; have k1 := hwb5.c1; have k2 := hwb5.f1; have HW5 := Lib.hid hwb5; have HB5 := Lib.hid hb5; clear hwb5 hb5)
        go_roundw
        case rel => exact ⟨j + 1, by omega, by go_num, by rw [HFS.out, HU.out, if_neg (by decide)]; exact Own.frL (Own.keep HOW.out HB5.out) (Fr.set (S := fun i => i = w.heap.size) _ ⟨w.heap.size, 1, none⟩ _ rfl) (by omega), by rw [HDS.out, HO.out]; exact HW5.out.put _⟩
        case measure => simp [intOf]; omega
      | none =>
        have hlook2 : (Instr.lookup 63 (.map (some kb)) (.int .i64 z) true).run Tryd.prog wr = .ok (.tuple #[.string { data := #[] }, .bool false]) wr := by
          rw [hq] at hlook; exact hlook
        have hu : unkn K z = true := by unfold unkn; rw [hq]; rfl
        have ho : ovK K dj z = dj := by unfold ovK; rw [hq]
        have HU := Lib.hid hu; have HO := Lib.hid ho
        clear hq hlook hu ho
        have hl : ((zs.take j).filter (unkn K)).length < 1000000 := by
          have h1 := List.length_filter_le (unkn K) (zs.take j)
          rw [List.length_take] at h1
          omega
        have HLL := Lib.hid hl
        have HWZ : Hid (w.heap.size + 2 ≤ wr.heap.size) := HWB.out.lt
        clear hl
        go_wp2_with (at_builtin; refine app_intG wr (w.heap.size + 2) rfl (.tmp 32) (.tmp 34) rfl _ _ z rfl HOW.out rfl HLL.out HWZ.out ?_; intro v' w2 hown' hf2)
        go_roundw
        case rel => exact ⟨j + 1, by omega, by go_num, by rw [HFS.out, HU.out, if_pos rfl]; exact hown', by rw [HDS.out, HO.out]; exact HWB.out.fr hf2 (fun i e => (Own.lt HOW.out i e).1)⟩
        case measure => simp [intOf]; omega
    · obtain rfl : j = n := by omega
      obtain ⟨hown, hwb⟩ := hrel.out
      have b0 := hwb.c0
      have b1 := hwb.c1
      have g0 := hwb.f0
      have g1 := hwb.f1
      have r0 := hwb.r0
      have r1 := hwb.r1
      have s0 := hwb.g0
      have s1 := hwb.g1
      have HWB := Lib.hid hwb
      have ht : zs.take j = zs := List.take_of_length_le (by rw [HL.out]; exact Nat.le_refl _)
      rw [ht] at hown b1 HWB
      obtain ⟨oa, oc, rfl, hat⟩ := OwnInts.slice hown (fun z hz => by have := HIN.out z (List.mem_filter.1 hz).1; omega)
      have hbk : ∀ b o, oa = some ⟨b, o, none⟩ → w.heap.size + 2 ≤ b := fun b o e => (Own.lt hown b (by rw [e]; rfl)).1
      obtain ⟨fs, hfs⟩ : ∃ fs, fs = zs.filter (unkn K) := ⟨_, rfl⟩
      obtain ⟨dd, hdd⟩ : ∃ dd, dd = zs.foldl (ovK K) d := ⟨_, rfl⟩
      have hwo : wout K (zs, d) = (fs, dd) := by unfold wout; rw [hfs, hdd]
      rw [← hfs] at hat
      rw [← hdd] at b1 HWB
      obtain ⟨fl, hfl⟩ : ∃ fl, fl = fs.length := ⟨_, rfl⟩
      rw [← hfs, ← hfl]
      rw [← hfl] at hat
      have HWO := Lib.hid hwo; have HFL := Lib.hid hfl
      have HAT := Lib.hid hat; have HBK := Lib.hid hbk
      obtain ⟨W1, hW1⟩ : ∃ W1, W1 = wr.setCell ⟨w.heap.size, 0, none⟩ (.slice oa fl oc) := ⟨_, rfl⟩
      have q0 : W1.cell? ⟨w.heap.size, 0, none⟩ = some (.slice oa fl oc) := by rw [hW1]; exact World.cell?_setCell_same _ _ _ b0
      have q1 : W1.cell? ⟨w.heap.size, 1, none⟩ = some (.string (S dd)) := by rw [hW1, World.cell?_setCell_other _ _ _ _ (by simp)]; exact b1
      have q2 : W1.cell? ⟨w.heap.size + 1, 0, none⟩ = some (.slice none 0 0) := by rw [hW1, World.cell?_setCell_other _ _ _ _ (by intro e; injection e with e _ _; omega)]; exact r0
      have q3 : W1.cell? ⟨w.heap.size + 1, 1, none⟩ = some (.string { data := #[] }) := by rw [hW1, World.cell?_setCell_other _ _ _ _ (by intro e; injection e with e _ _; omega)]; exact r1
      have q4 : W1.frozen? ⟨w.heap.size + 1, 0, none⟩ = false := by rw [hW1, World.frozen?_setCell]; exact s0
      have q5 : W1.frozen? ⟨w.heap.size + 1, 1, none⟩ = false := by rw [hW1, World.frozen?_setCell]; exact s1
      have hfr : Fr (fun i => i = w.heap.size ∨ i = w.heap.size + 1) wr W1 := by rw [hW1]; exact Fr.set _ _ _ (.inl rfl)
      have HFR := Lib.hid hfr; have HOWN := Lib.hid hown; have HW1 := Lib.hid hW1
      clear hrel hown hwb ht hat hbk hfs hdd hwo hfl hfr
      go_upto_region 11 with fail
      rw [← hW1]
      clear hW1 b0 b1 g0 g1 r0 r1 s0 s1
      go_wp2
      have Q := two_put q2 q3 (.slice oa fl oc) (.string (S dd))
      have hfin : Fr (fun i => i = w.heap.size ∨ i = w.heap.size + 1) wr ((W1.setCell ⟨w.heap.size + 1, 0, none⟩ (.slice oa fl oc)).setCell ⟨w.heap.size + 1, 1, none⟩ (.string (S dd))) := (HFR.out.then_set ⟨w.heap.size + 1, 0, none⟩ _ (.inl (.inr rfl))).then_set ⟨w.heap.size + 1, 1, none⟩ _ (.inl (.inr rfl))
      refine bodyPost_ret (v := .agg #[.slice oa fl oc, .string (S dd)]) (by simp [results, Tryd.results56, go_sem, Q.1, Q.2]) rfl ?_
      rw [HWO.out]
      show ∃ a' c', Ending.returned (.agg #[.slice oa fl oc, .string (S dd)]) = .returned (.agg #[.slice a' fs.length c', .string (S dd)]) ∧ IntsAt _ a' fs.length c' fs ∧ _
      rw [← HFL.out]
      refine ⟨oa, oc, rfl, HAT.out.fr hfin (fun hn b o e h => ?_), fun b o e => ?_, hfin.lat_of HWB.out.lat (fun i e => ?_)⟩
      · have := HBK.out b o e
        omega
      · have := HBK.out b o e
        omega
      · omega
end Go.Proofs.YtcpookgbneoilaaDoor
