/- The contract of dropref1.Put: a number put into a list at its place. -/
import Derived.Test.YtooepflfofgnnaaDoorAppM
import Derived.Deep.DeepCutAuto
namespace Go.Proofs.YtooepflfofgnnaaDoor
open Go.ChangeShapes Go.WideShapes Go.ChangeAt Go.RowKit

def putL (zs : List Int) (v : Int) : List Int := zs.takeWhile (fun x => decide (x < v)) ++ v :: zs.dropWhile (fun x => decide (x < v))
theorem tw_split (v : Int) : ∀ (zs : List Int) (k : Nat), k ≤ zs.length → (∀ j, j < k → zs.getD j 0 < v) → (k = zs.length ∨ ¬ zs.getD k 0 < v) →
    zs.take k = zs.takeWhile (fun x => decide (x < v)) ∧ zs.drop k = zs.dropWhile (fun x => decide (x < v))
  | [], k, hk, _, _ => by simp
  | z :: zs, 0, _, _, h => by
    have hz : ¬ z < v := by
      rcases h with h | h
      · simp at h
      · simpa using h
    simp [hz]
  | z :: zs, k + 1, hk, h1, h2 => by
    have hz : z < v := by simpa using h1 0 (by omega)
    have ih := tw_split v zs k (by simpa using hk) (fun j hj => by simpa using h1 (j + 1) (by omega)) (by simpa using h2)
    simp [hz, ih.1, ih.2]
theorem putL_length (zs : List Int) (v : Int) : (putL zs v).length = zs.length + 1 := by
  have h := congrArg List.length (List.takeWhile_append_dropWhile (p := fun x : Int => decide (x < v)) (l := zs))
  rw [List.length_append] at h
  unfold putL
  rw [List.length_append, List.length_cons]; omega
theorem putL_perm (zs : List Int) (v : Int) : (putL zs v).Perm (v :: zs) := by
  unfold putL
  refine List.perm_middle.trans ?_
  rw [List.takeWhile_append_dropWhile]
theorem mem_putL (zs : List Int) (v x : Int) : x ∈ putL zs v ↔ x = v ∨ x ∈ zs := by
  rw [(putL_perm zs v).mem_iff, List.mem_cons]
theorem dropWhile_ge (v : Int) : ∀ (zs : List Int), zs.Pairwise (· ≤ ·) → ∀ x ∈ zs.dropWhile (fun x => decide (x < v)), v ≤ x
  | [], _, x, hx => by simp at hx
  | z :: zs, h, x, hx => by
    rw [List.pairwise_cons] at h
    by_cases hz : z < v
    · rw [List.dropWhile_cons, if_pos (by simpa using hz)] at hx
      exact dropWhile_ge v zs h.2 x hx
    · rw [List.dropWhile_cons, if_neg (by simpa using hz)] at hx
      rcases List.mem_cons.1 hx with e | e
      · omega
      · have := h.1 x e; omega
theorem takeWhile_lt (v : Int) : ∀ (zs : List Int), ∀ x ∈ zs.takeWhile (fun x => decide (x < v)), x < v
  | [], x, hx => by simp at hx
  | z :: zs, x, hx => by
    by_cases hz : z < v
    · rw [List.takeWhile_cons, if_pos (by simpa using hz)] at hx
      rcases List.mem_cons.1 hx with e | e
      · omega
      · exact takeWhile_lt v zs x e
    · rw [List.takeWhile_cons, if_neg (by simpa using hz)] at hx; simp at hx
theorem putL_sorted (zs : List Int) (v : Int) (h : zs.Pairwise (· ≤ ·)) : (putL zs v).Pairwise (· ≤ ·) := by
  have hsp := List.takeWhile_append_dropWhile (p := fun x : Int => decide (x < v)) (l := zs)
  rw [← hsp, List.pairwise_append] at h
  obtain ⟨h1, h2, _⟩ := h
  have hg := dropWhile_ge v zs (by rw [← hsp, List.pairwise_append]; exact ⟨h1, h2, ‹_›⟩)
  unfold putL
  rw [List.pairwise_append, List.pairwise_cons]
  refine ⟨h1, ⟨fun x hx => hg x hx, h2⟩, fun a ha b hb => ?_⟩
  have := takeWhile_lt v zs a ha
  rcases List.mem_cons.1 hb with e | e
  · omega
  · have := hg b e; omega
/-- sorted -/
abbrev srt (zs : List Int) : List Int := zs.mergeSort (fun x y => decide (x ≤ y))
theorem srt_sorted (zs : List Int) : (srt zs).Pairwise (· ≤ ·) :=
  (List.pairwise_mergeSort (le := fun x y : Int => decide (x ≤ y)) (fun a b c h1 h2 => by simp only [decide_eq_true_eq] at *; omega) (fun a b => by simp only [Bool.or_eq_true, decide_eq_true_eq]; omega) zs).imp (fun {a b} h => by simpa using h)
theorem sorted_eq {a b : List Int} (ha : a.Pairwise (· ≤ ·)) (hb : b.Pairwise (· ≤ ·)) (h : a.Perm b) : a = b :=
  List.Perm.eq_of_pairwise (le := (· ≤ ·)) (fun _ _ _ _ h1 h2 => Int.le_antisymm h1 h2) ha hb h
theorem putL_srt (zs : List Int) (v : Int) : putL (srt zs) v = srt (zs ++ [v]) := by
  refine sorted_eq (putL_sorted _ _ (srt_sorted _)) (srt_sorted _) ?_
  refine (putL_perm _ _).trans ?_
  refine ((List.mergeSort_perm zs _).cons v).trans ?_
  refine List.Perm.trans ?_ (List.mergeSort_perm (zs ++ [v]) _).symm
  exact (List.perm_append_singleton v zs).symm

theorem IntsAt.from_ {w : World} {a : Option Addr} {n cap : Nat} {zs : List Int} (h : IntsAt w a n cap zs) (k : Nat) (hk : k ≤ n) : IntsAt w (if cap = k then a else a.map (·.add k)) (n - k) (cap - k) (zs.drop k) := by
  have hl := h.len
  have hle := h.row.le
  refine ⟨by rw [List.length_drop, hl], ⟨by omega, by have := h.row.cap; unfold maxLen at this ⊢; omega, fun hne => ?_⟩, fun z hz => h.wf z (List.mem_of_mem_drop hz)⟩
  obtain ⟨b, o, rfl, hc⟩ := h.row.at_ (by omega)
  rw [if_neg (by omega)]
  refine ⟨b, o + k, by rw [Option.map_some, Addr.add_lit], fun j hj => ?_⟩
  have := hc (k + j) (by omega)
  rw [Nat.add_assoc, this]
  congr 2
  rw [List.getD_eq_getElem?_getD, List.getD_eq_getElem?_getD, List.getElem?_drop]

set_option maxHeartbeats 1000000 in
set_option maxRecDepth 100000 in
theorem refPut (a : Option Addr) (n cap : Nat) (zs : List Int) (v : Int) (w : World) (h : IntsAt w a n cap zs) (hn : n ≤ 1000000) :
    Calls Tryd.prog 45 #[.slice a n cap, .int .i64 v] w fun e w' => ∃ u, e = .returned u ∧ OwnInts w' w.heap.size u (putL zs v) ∧ Lat w w' := by
  have hcap2 := h.row.cap
  have hle2 := h.row.le
  unfold maxLen at hcap2
  have hl := h.len
  have H := Lib.hid h
  have HL := Lib.hid hl
  clear h hl
  go_enter Tryd.func45, Tryd.ntmps45
  go_wp2
  go_loopw [5, 6] (fun u i wr => ∃ k : Nat, k ≤ n ∧ i = .int .i64 k ∧ Hid (OwnInts wr w.heap.size u (zs.take k) ∧ Lat w wr ∧ ∀ j, j < k → zs.getD j 0 < v)) (fun _ i _ => n - (intOf i).toNat)
  case atStart => exact ⟨0, Nat.zero_le _, rfl, by rw [List.take_zero]; exact Own.nil _ _ _, Lat.refl _, fun j hj => by omega⟩
  case round =>
    obtain ⟨k, hk, rfl, hrel⟩ := hrel
    have hsp : (k = n ∨ ¬ zs.getD k 0 < v) ∨ (k < n ∧ zs.getD k 0 < v) := by
      by_cases h1 : k < n
      · by_cases h2 : zs.getD k 0 < v
        · exact .inr ⟨h1, h2⟩
        · exact .inl (.inr h2)
      · exact .inl (.inl (by omega))
    have HA := Lib.hid (H.out.keep hrel.out.2.1)
    rcases hsp with hend | ⟨hlt, hz⟩
    · have hw := tw_split v zs k (by rw [HL.out]; exact hk) hrel.out.2.2 (by rw [HL.out]; exact hend)
      have hfin : putL zs v = (zs.take k ++ [v]) ++ zs.drop k := by
        unfold putL; rw [hw.1, hw.2, List.append_assoc]; rfl
      have HF := Lib.hid hfin
      have hlen : (zs.take k).length < 1000000000000 := by rw [List.length_take]; omega
      have hlen2 : (zs.take k ++ [v]).length + (n - k) < 1000000000000 := by rw [List.length_append, List.length_take, List.length_singleton]; omega
      have HLN := Lib.hid hlen
      have HLN2 := Lib.hid hlen2
      have hc : (decide (k < n) = false ∧ n ≤ k) ∨ (decide ((k : Int) < (n : Int)) = true ∧ ∃ b o, a = some ⟨b, o, none⟩ ∧ wr.cell? ⟨b, o + k, none⟩ = some (.int .i64 (zs.getD k 0)) ∧ decide (zs.getD k 0 < v) = false ∧ k < n) := by
        by_cases h1 : k < n
        · right
          obtain ⟨b, o, ha, hc⟩ := HA.out.row.at_ (by omega)
          exact ⟨decide_eq_true (by omega), b, o, ha, hc k h1, decide_eq_false (by rcases hend with h2 | h2; omega; exact h2), h1⟩
        · exact .inl ⟨decide_eq_false (by omega), by omega⟩
      clear hend hw hfin hlen hlen2
      rcases hc with ⟨dk, hge⟩ | ⟨dk, b, o, rfl, ck, dz, hlt⟩
      rotate_left
      focus
        obtain ⟨z, hz⟩ : ∃ z, z = zs.getD k 0 := ⟨_, rfl⟩
        rw [← hz] at ck dz
        clear hz
      rotate_left
      focus
        have i1 : (0 : Int) ≤ (k : Int) := by omega
        have i2 : (k : Int) ≤ (n : Int) := by omega
        go_upto_region 7 with (at_builtin; refine app_int wr w _ rfl (.tmp 28) (.tmp 30) rfl _ _ v rfl hrel.out.1 rfl HLN.out rfl hrel.out.2.1 ?_; intro v' w2 hown' hb' _)
        have hat := (H.out.keep hb').from_ k hk
        obtain ⟨A2, hA2⟩ : ∃ A2, A2 = (if cap = k then a else a.map (·.add k)) := ⟨_, rfl⟩
        rw [← hA2, show n - k = 0 from by omega] at hat
        have hrun : ∀ W : World, (Instr.slice 25 (.slice a n cap) (some (.int .i64 k)) none none).run Tryd.prog W = .ok (.slice A2 0 (cap - k)) W := fun W => by
          rw [hA2, ← show n - k = 0 from by omega]; simp [go_sem, i1, i2]
        have HAT := Lib.hid hat
        have hl3 : (zs.take k ++ [v]).length + 0 < 1000000000000 := by have := HLN2.out; omega
        have HLN3 := Lib.hid hl3
        clear hl3
        clear hA2 hat
        go_wp2_with (at_builtin; refine app_ints _ w _ rfl (.tmp 32) (.tmp 35) rfl _ _ (zs.drop k) rfl hown' _ 0 _ rfl HAT.out HLN3.out rfl hb' ?_; intro v'' w3 hown'' hb'' _)
        go_ret
        exact ⟨_, rfl, by rw [HF.out]; exact hown'', hb''⟩
      focus
        have i1 : (0 : Int) ≤ (k : Int) := by omega
        have i2 : (k : Int) ≤ (n : Int) := by omega
        go_upto_region 7 with (at_builtin; refine app_int wr w _ rfl (.tmp 28) (.tmp 30) rfl _ _ v rfl hrel.out.1 rfl HLN.out rfl hrel.out.2.1 ?_; intro v' w2 hown' hb' _)
        have hat := (H.out.keep hb').from_ k hk
        rw [if_neg (by omega), Option.map_some, Addr.add_lit] at hat
        have HAT := Lib.hid hat
        clear hat
        go_wp2_with (at_builtin; refine app_ints _ w _ rfl (.tmp 32) (.tmp 35) rfl _ _ (zs.drop k) rfl hown' _ (n - k) _ rfl HAT.out HLN2.out rfl hb' ?_; intro v'' w3 hown'' hb'' _)
        go_ret
        exact ⟨_, rfl, by rw [HF.out]; exact hown'', hb''⟩
    · obtain ⟨b, o, rfl, hc⟩ := HA.out.row.at_ (by omega)
      have ck := hc k hlt
      have hst : zs.take (k + 1) = zs.take k ++ [zs.getD k 0] := by
        have hkz : k < zs.length := by rw [HL.out]; exact hlt
        rw [List.take_succ_eq_append_getElem hkz, List.getD_eq_getElem?_getD, List.getElem?_eq_getElem hkz]; rfl
      have hall : ∀ j, j < k + 1 → zs.getD j 0 < v := fun j hj => by
        by_cases e : j = k
        · subst e; exact hz
        · exact hrel.out.2.2 j (by omega)
      have HALL := Lib.hid hall
      have HST := Lib.hid hst
      have hlen : (zs.take k).length < 1000000000000 := by rw [List.length_take]; omega
      have HLN := Lib.hid hlen
      obtain ⟨z, hze⟩ : ∃ z, z = zs.getD k 0 := ⟨_, rfl⟩
      rw [← hze] at ck hz
      have HZE := Lib.hid hze
      have dk : decide ((k : Int) < (n : Int)) = true := decide_eq_true (by omega)
      have dz : decide (z < v) = true := decide_eq_true hz
      clear hc hst hall hlen hze
      go_wp2_with (at_builtin; refine app_int wr w _ rfl _ _ rfl _ _ z rfl hrel.out.1 rfl HLN.out rfl hrel.out.2.1 ?_; intro v' w2 hown' hb' _)
      go_roundw
      case rel => exact ⟨k + 1, by omega, by go_num, by rw [HST.out, ← HZE.out]; exact hown', hb', HALL.out⟩
      case measure => simp [intOf]; omega
end Go.Proofs.YtooepflfofgnnaaDoor
