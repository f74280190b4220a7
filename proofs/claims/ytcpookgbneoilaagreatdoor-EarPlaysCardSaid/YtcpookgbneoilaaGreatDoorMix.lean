/- The contracts of mix.Noughts, mix.Of, mix.Sum, and of slices.Contains at ints. -/
import Derived.Test.YtcpookgbneoilaaGreatDoorBlocks
import Derived.Test.YtcpookgbneoilaaGreatDoorBytes
namespace Go.Proofs.YtcpookgbneoilaaGreatDoor
open Go.ChangeShapes Go.WideShapes Go.ChangeAt Go.RowKit


theorem strF_zero (n : Nat) : strF n (fun _ => 0) = S (noughts n) := by
  unfold strF S noughts
  congr 2
  apply List.ext_getElem <;> simp

theorem noughts_any (n : Nat) (w : World) (hn : n ≤ 1000000) :
    Calls Tryz.prog 75 #[.int .i64 n] w fun e w' => e = .returned (.string (S (noughts n))) ∧ Lat w w' := by
  go_enter Tryz.func75, Tryz.ntmps75
  go_wp2_with (at_make; refine wpList_make_blk _ rfl _ _ 134 rfl 5 (.int .u8 0) 1 Tryz.underlying134 info_u8 rfl n rfl rfl (by omega) (by unfold maxLen; omega) ?_)
  intro g w1 hg hblk hb
  have hcv := run_conv_str (P := Tryz.prog) w1 134 5 9 Tryz.underlying134 Tryz.underlying5 Tryz.underlying9 g 0 n n (fun _ => 0) (fun j hj => by rw [Nat.zero_add]; exact hblk.cell j hj)
  rw [strF_zero] at hcv
  clear hblk hg
  go_wp2
  go_ret
  exact ⟨rfl, hb⟩

theorem overS (a : List UInt8) (b : ByteArray) (w : World) (hab : a.length = b.size) (ha : a.length ≤ maxLen) :
    Calls Tryz.prog 77 #[.string (S a), .string b] w fun e w' => e = .returned (.string (S (xorL a b.data.toList))) ∧ Lat w w' :=
  over_any (S a) b w hab ha

/-- the bytes of string j -/
def bl (ss : List ByteArray) (j : Nat) : List UInt8 := (ss.getD j ByteArray.empty).data.toList
theorem bl_length (ss : List ByteArray) (j : Nat) : (bl ss j).length = szAt ss j := Array.length_toList
/-- the first k of some blocks over one another -/
def sumTo (ss : List ByteArray) (m : Nat) (zs : List Int) : Nat → List UInt8
  | 0 => noughts m
  | k + 1 => xorL (sumTo ss m zs k) (bl ss (zs.getD k 0).toNat)
theorem sumTo_length (ss : List ByteArray) (m : Nat) (zs : List Int) : ∀ k, (∀ j, j < k → szAt ss (zs.getD j 0).toNat = m) → (sumTo ss m zs k).length = m
  | 0, _ => by simp [sumTo, noughts]
  | k + 1, h => by
    have ih := sumTo_length ss m zs k (fun j hj => h j (by omega))
    unfold sumTo
    rw [xorL_length _ _ (by rw [ih, bl_length, h k (by omega)]), ih]

/-- the first of n is at hand -/
theorem getD_mem (zs : List Int) (k : Nat) (h : k < zs.length) : zs.getD k 0 ∈ zs := by
  rw [List.getD_eq_getElem?_getD, List.getElem?_eq_getElem h]; exact List.getElem_mem h

theorem IntsAt.take {w : World} {a : Option Addr} {n cap : Nat} {zs : List Int} (h : IntsAt w a n cap zs) (k : Nat) (hk : k ≤ n) : IntsAt w a k cap (zs.take k) := by
  have hl := h.len
  refine ⟨by simp; omega, ⟨by have := h.row.le; omega, h.row.cap, fun hne => ?_⟩, fun z hz => h.wf z (List.mem_of_mem_take hz)⟩
  obtain ⟨b, o, ha, hc⟩ := h.row.at_ (by omega)
  exact ⟨b, o, ha, fun j hj => by rw [hc j (by omega)]; simp [List.getD, hj]⟩

theorem index_none (a : Option Addr) (n cap : Nat) (zs : List Int) (v : Int) (w : World) (h : IntsAt w a n cap zs) (hv : v ∉ zs) :
    Calls Tryz.prog 46 #[.slice a n cap, .int .i64 v] w fun e w' => e = .returned (.int .i64 (-1)) ∧ w = w' := by
  have hcap2 := h.row.cap
  have hle2 := h.row.le
  unfold maxLen at hcap2
  have H := Lib.hid h
  have HV := Lib.hid hv
  clear h hv
  go_enter Tryz.func46, Tryz.ntmps46
  go_wp2
  go_loop [8] (fun i => ∃ k : Nat, k ≤ n ∧ i = .int .i64 k) (fun i => n - (intOf i).toNat)
  case atStart => exact ⟨0, Nat.zero_le _, rfl⟩
  case round =>
    obtain ⟨k, hk, rfl⟩ := hrel
    by_cases hlt : k < n
    · obtain ⟨b, o, rfl, hc⟩ := H.out.row.at_ (by omega)
      have c1 := hc k hlt
      have hm := getD_mem zs k (by rw [H.out.len]; exact hlt)
      obtain ⟨z, hz⟩ : ∃ z, z = zs.getD k 0 := ⟨_, rfl⟩
      rw [← hz] at c1 hm
      have ht : (v == z) = false := by rw [beq_eq_false_iff_ne]; intro e; exact HV.out (e ▸ hm)
      clear hc hz hm
      go_wp2
      go_round
      case rel => exact ⟨k + 1, by omega, by go_num⟩
      case measure => simp [intOf]; omega
    · go_wp2
      go_ret
      exact ⟨rfl, rfl⟩
theorem index_some (a : Option Addr) (n cap : Nat) (zs : List Int) (v : Int) (w : World) (h : IntsAt w a n cap zs) (hv : v ∈ zs) :
    Calls Tryz.prog 46 #[.slice a n cap, .int .i64 v] w fun e w' => (∃ k : Nat, e = .returned (.int .i64 k)) ∧ w = w' := by
  have hcap2 := h.row.cap
  have hle2 := h.row.le
  unfold maxLen at hcap2
  obtain ⟨j0, hj0, hj1⟩ : ∃ j, j < n ∧ zs.getD j 0 = v := by
    obtain ⟨j, hj, e⟩ := List.getElem_of_mem hv
    exact ⟨j, by rw [← h.len]; exact hj, by rw [List.getD_eq_getElem?_getD, List.getElem?_eq_getElem hj]; exact e⟩
  have H := Lib.hid h
  have HV := Lib.hid hj1
  clear h hv hj1
  go_enter Tryz.func46, Tryz.ntmps46
  go_wp2
  go_loop [8] (fun i => ∃ k : Nat, k ≤ j0 ∧ i = .int .i64 k) (fun i => n - (intOf i).toNat)
  case atStart => exact ⟨0, Nat.zero_le _, rfl⟩
  case round =>
    obtain ⟨k, hk, rfl⟩ := hrel
    have hlt : k < n := by omega
    obtain ⟨b, o, rfl, hc⟩ := H.out.row.at_ (by omega)
    have c1 := hc k hlt
    obtain ⟨z, hz⟩ : ∃ z, z = zs.getD k 0 := ⟨_, rfl⟩
    rw [← hz] at c1
    by_cases he : v = z
    · have ht : (v == z) = true := by rw [beq_iff_eq]; exact he
      clear hc hz he
      go_wp2
      go_ret
      exact ⟨⟨k, rfl⟩, rfl⟩
    · have ht : (v == z) = false := by rw [beq_eq_false_iff_ne]; exact he
      have hkj : k < j0 := by
        rcases Nat.lt_or_ge k j0 with h | h
        · exact h
        · have : k = j0 := by omega
          subst this
          exact absurd (HV.out.symm.trans hz.symm) he
      clear hc hz he
      go_wp2
      go_round
      case rel => exact ⟨k + 1, by omega, by go_num⟩
      case measure => simp [intOf]; omega

theorem containsI_no (a : Option Addr) (n cap : Nat) (zs : List Int) (v : Int) (w : World) (h : IntsAt w a n cap zs) (hv : v ∉ zs) :
    Calls Tryz.prog 26 #[.slice a n cap, .int .i64 v] w fun e w' => e = .returned (.bool false) ∧ w = w' := by
  have H := Lib.hid h
  have HV := Lib.hid hv
  clear h hv
  go_enter Tryz.func26, Tryz.ntmps26
  go_wp2_with (go_at_call 46; refine (index_none a n cap zs v _ H.out HV.out).mono ?_; rintro e w' ⟨rfl, rfl⟩)
  go_ret
  exact ⟨rfl, rfl⟩
theorem containsI_yes (a : Option Addr) (n cap : Nat) (zs : List Int) (v : Int) (w : World) (h : IntsAt w a n cap zs) (hv : v ∈ zs) :
    Calls Tryz.prog 26 #[.slice a n cap, .int .i64 v] w fun e w' => e = .returned (.bool true) ∧ w = w' := by
  have H := Lib.hid h
  have HV := Lib.hid hv
  clear h hv
  go_enter Tryz.func26, Tryz.ntmps26
  go_wp2_with (go_at_call 46; refine (index_some a n cap zs v _ H.out HV.out).mono ?_; rintro e w' ⟨⟨k, rfl⟩, rfl⟩)
  go_ret
  exact ⟨rfl, rfl⟩

/-- what is wrong with the first k of the numbers of some of n blocks -/
def ofErr (n : Nat) (zs : List Int) : Nat → Nat
  | 0 => 0
  | k + 1 => if ofErr n zs k ≠ 0 then ofErr n zs k else if zs.getD k 0 < 0 ∨ (n : Int) ≤ zs.getD k 0 then 1 else if zs.getD k 0 ∈ zs.take k then 7 else 0
theorem ofErr_mono (n : Nat) (zs : List Int) (j k : Nat) (h : j ≤ k) (hj : ofErr n zs j ≠ 0) : ofErr n zs k = ofErr n zs j := by
  induction k with
  | zero => obtain rfl : j = 0 := by omega
            rfl
  | succ k ih =>
    by_cases e : j = k + 1
    · subst e; rfl
    · have := ih (by omega)
      rw [ofErr, if_pos (by rw [this]; exact hj), this]
theorem ofErr_zero (n : Nat) (zs : List Int) (k : Nat) (h : ofErr n zs k = 0) : ∀ j, j < k → 0 ≤ zs.getD j 0 ∧ zs.getD j 0 < n ∧ zs.getD j 0 ∉ zs.take j := by
  intro j hj
  have h1 : ofErr n zs (j + 1) = 0 := Classical.byContradiction fun hne => hne (by rw [← ofErr_mono n zs (j + 1) k (by omega) hne]; exact h)
  rw [ofErr] at h1
  repeat' split at h1
  all_goals first | omega | skip
  rename_i h2 h3 h4
  exact ⟨by omega, by omega, h4⟩
end Go.Proofs.YtcpookgbneoilaaGreatDoor
