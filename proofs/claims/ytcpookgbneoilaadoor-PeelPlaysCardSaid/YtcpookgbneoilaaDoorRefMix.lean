/- The contracts of dropref1.In, Blocks, Xor, Sum. -/
import Derived.Test.YtcpookgbneoilaaDoorMix
import Derived.Test.YtcpookgbneoilaaDoorZero
namespace Go.Proofs.YtcpookgbneoilaaDoor
open Go.ChangeShapes Go.WideShapes Go.ChangeAt Go.RowKit

theorem refIn_no (a : Option Addr) (n cap : Nat) (zs : List Int) (v : Int) (w : World) (h : IntsAt w a n cap zs) (hv : v ∉ zs) :
    Calls Tryd.prog 9 #[.slice a n cap, .int .i64 v] w fun e w' => e = .returned (.bool false) ∧ w = w' := by
  have hcap2 := h.row.cap
  have hle2 := h.row.le
  unfold maxLen at hcap2
  have H := Lib.hid h
  have HV := Lib.hid hv
  clear h hv
  go_enter Tryd.func9, Tryd.ntmps9
  go_wp2
  go_loop [5] (fun i => ∃ k : Nat, k ≤ n ∧ i = .int .i64 k) (fun i => n - (intOf i).toNat)
  case atStart => exact ⟨0, Nat.zero_le _, rfl⟩
  case round =>
    obtain ⟨k, hk, rfl⟩ := hrel
    by_cases hlt : k < n
    · obtain ⟨b, o, rfl, hc⟩ := H.out.row.at_ (by omega)
      have c1 := hc k hlt
      have hm := getD_mem zs k (by rw [H.out.len]; exact hlt)
      obtain ⟨z, hz⟩ : ∃ z, z = zs.getD k 0 := ⟨_, rfl⟩
      rw [← hz] at c1 hm
      have ht : (z == v) = false := by rw [beq_eq_false_iff_ne]; intro e; exact HV.out (e ▸ hm)
      clear hc hz hm
      go_wp2
      go_round
      case rel => exact ⟨k + 1, by omega, by go_num⟩
      case measure => simp [intOf]; omega
    · go_wp2
      go_ret
      exact ⟨rfl, rfl⟩
theorem refIn_yes (a : Option Addr) (n cap : Nat) (zs : List Int) (v : Int) (w : World) (h : IntsAt w a n cap zs) (hv : v ∈ zs) :
    Calls Tryd.prog 9 #[.slice a n cap, .int .i64 v] w fun e w' => e = .returned (.bool true) ∧ w = w' := by
  have hcap2 := h.row.cap
  have hle2 := h.row.le
  unfold maxLen at hcap2
  obtain ⟨j0, hj0, hj1⟩ : ∃ j, j < n ∧ zs.getD j 0 = v := by
    obtain ⟨j, hj, e⟩ := List.getElem_of_mem hv
    exact ⟨j, by rw [← h.len]; exact hj, by rw [List.getD_eq_getElem?_getD, List.getElem?_eq_getElem hj]; exact e⟩
  have H := Lib.hid h
  have HV := Lib.hid hj1
  clear h hv hj1
  go_enter Tryd.func9, Tryd.ntmps9
  go_wp2
  go_loop [5] (fun i => ∃ k : Nat, k ≤ j0 ∧ i = .int .i64 k) (fun i => n - (intOf i).toNat)
  case atStart => exact ⟨0, Nat.zero_le _, rfl⟩
  case round =>
    obtain ⟨k, hk, rfl⟩ := hrel
    have hlt : k < n := by omega
    obtain ⟨b, o, rfl, hc⟩ := H.out.row.at_ (by omega)
    have c1 := hc k hlt
    obtain ⟨z, hz⟩ : ∃ z, z = zs.getD k 0 := ⟨_, rfl⟩
    rw [← hz] at c1
    by_cases he : z = v
    · have ht : (z == v) = true := by rw [beq_iff_eq]; exact he
      clear hc hz he
      go_wp2
      go_ret
      exact ⟨rfl, rfl⟩
    · have ht : (z == v) = false := by rw [beq_eq_false_iff_ne]; exact he
      have hkj : k < j0 := by
        rcases Nat.lt_or_ge k j0 with h | h
        · exact h
        · have : k = j0 := by omega
          subst this
          exact absurd (hz.trans HV.out) he
      clear hc hz he
      go_wp2
      go_round
      case rel => exact ⟨k + 1, by omega, by go_num⟩
      case measure => simp [intOf]; omega

/-- halves, and powers of two -/
def hv (x : Nat) : Nat → Nat
  | 0 => x
  | k + 1 => hv x k / 2
def pw : Nat → Nat
  | 0 => 1
  | k + 1 => 2 * pw k
def nx (x y : Nat) : Nat → Nat
  | 0 => 0
  | k + 1 => nx x y k + if hv x k % 2 ≠ hv y k % 2 then pw k else 0
theorem hv_succ (x k : Nat) : hv x (k + 1) = hv x k / 2 := rfl
theorem pw_succ (k : Nat) : pw (k + 1) = 2 * pw k := rfl
theorem nx_succ (x y k : Nat) : nx x y (k + 1) = nx x y k + if hv x k % 2 ≠ hv y k % 2 then pw k else 0 := rfl
theorem xor_half (a b : Nat) : a ^^^ b = (if a % 2 ≠ b % 2 then 1 else 0) + 2 * ((a / 2) ^^^ (b / 2)) := by
  have h1 : (a ^^^ b) % 2 = 1 ↔ ¬ (a % 2 = 1 ↔ b % 2 = 1) := Nat.xor_mod_two_eq_one
  have h2 : (a ^^^ b) / 2 = a / 2 ^^^ b / 2 := Nat.xor_div_two
  rw [← h2]
  by_cases h : a % 2 = b % 2
  · rw [if_neg (by simpa using h)]
    have : ¬ (a ^^^ b) % 2 = 1 := fun e => h1.1 e (by rw [h])
    omega
  · rw [if_pos h]
    have : (a ^^^ b) % 2 = 1 := h1.2 (by omega)
    omega
theorem nx_inv (x y : Nat) : ∀ k, nx x y k + pw k * (hv x k ^^^ hv y k) = x ^^^ y
  | 0 => by simp [nx, pw, hv]
  | k + 1 => by
    have ih := nx_inv x y k
    rw [xor_half (hv x k) (hv y k)] at ih
    rw [nx_succ, pw_succ, hv_succ, hv_succ, ← ih, Nat.mul_add]
    split
    · rw [Nat.mul_one, ← Nat.mul_assoc, Nat.mul_comm (pw k) 2]; omega
    · rw [Nat.mul_zero, ← Nat.mul_assoc, Nat.mul_comm (pw k) 2]; omega
theorem hv_eight (x : Nat) (h : x < 256) : hv x 8 = 0 := by
  show x / 2 / 2 / 2 / 2 / 2 / 2 / 2 / 2 = 0
  omega
theorem nx_eight (x y : Nat) (hx : x < 256) (hy : y < 256) : nx x y 8 = x ^^^ y := by
  have h := nx_inv x y 8
  rw [hv_eight x hx, hv_eight y hy] at h
  simpa using h
theorem nx_le (x y : Nat) (hx : x < 256) (hy : y < 256) (k : Nat) : nx x y k < 256 := by
  have h := nx_inv x y k
  have h2 : x ^^^ y < 256 := Nat.xor_lt_two_pow (n := 8) hx hy
  omega
theorem hv_le (x : Nat) : ∀ k, hv x k ≤ x
  | 0 => Nat.le_refl _
  | k + 1 => by have := hv_le x k; unfold hv; omega
theorem pw_le : ∀ k, k ≤ 8 → pw k ≤ 256 := by decide

theorem xorL_take_succ (a b : List UInt8) (k : Nat) (ha : k < a.length) (hb : k < b.length) : (xorL a b).take (k + 1) = (xorL a b).take k ++ [a[k] ^^^ b[k]] := by
  have hl : k < (xorL a b).length := by simp [xorL]; omega
  rw [List.take_succ_eq_append_getElem hl]
  simp [xorL]

set_option maxHeartbeats 1000000 in
set_option maxRecDepth 100000 in
theorem refXor (A B : ByteArray) (w : World) (hab : A.size = B.size) (ha : A.size ≤ 1000000) :
    Calls Tryd.prog 32 #[.string A, .string B] w fun e w' => e = .returned (.string (S (xorL A.data.toList B.data.toList))) ∧ Lat w w' := by
  have HAB := Lib.hid hab; clear hab
  go_enter Tryd.func32, Tryd.ntmps32
  go_wp2
  go_loopw [5, 6] (fun v i wr => ∃ k : Nat, k ≤ A.size ∧ i = .int .i64 k ∧ Hid (OwnBytes wr w.heap.size v ((xorL A.data.toList B.data.toList).take k) ∧ Lat w wr)) (fun _ i _ => A.size - (intOf i).toNat)
  case atStart => exact ⟨0, Nat.zero_le _, rfl, Own.nil _ _ _, Lat.refl _⟩
  case round =>
    obtain ⟨k, hk, rfl, hrel⟩ := hrel
    by_cases hlt : k < A.size
    · have hbk : k < B.size := by rw [← HAB.out]; exact hlt
      obtain ⟨X, hX⟩ : ∃ X, X = bt A k := ⟨_, rfl⟩
      obtain ⟨Y, hY⟩ : ∃ Y, Y = bt B k := ⟨_, rfl⟩
      have eX : A[k].toNat = X := by rw [hX]; exact bt_get A k hlt
      have eY : B[k].toNat = Y := by rw [hY]; exact bt_get B k hbk
      have X256 : X < 256 := by rw [hX]; exact bt_lt A k
      have Y256 : Y < 256 := by rw [hY]; exact bt_lt B k
      have hlA : k < A.data.toList.length := by simpa using hlt
      have hlB : k < B.data.toList.length := by simpa using hbk
      have hst : (xorL A.data.toList B.data.toList).take (k + 1) = (xorL A.data.toList B.data.toList).take k ++ [UInt8.ofNat (X ^^^ Y)] := by
        rw [xorL_take_succ _ _ k hlA hlB]
        congr 2
        apply UInt8.toNat_inj.1
        rw [UInt8.toNat_xor, UInt8.toNat_ofNat', hX, hY]
        unfold bt
        rw [List.getD_eq_getElem?_getD, List.getD_eq_getElem?_getD, List.getElem?_eq_getElem hlA, List.getElem?_eq_getElem hlB]
        exact (Nat.mod_eq_of_lt (Nat.xor_lt_two_pow (n := 8) (UInt8.toNat_lt _) (UInt8.toNat_lt _))).symm
      have HST := Lib.hid hst
      clear hX hY hlA hlB hst
      go_wp2
      go_loop [7, 8, 9, 10, 11] (fun x y n p j => ∃ q : Nat, q ≤ 8 ∧ j = .int .i64 q ∧ x = .int .i64 (hv X q) ∧ y = .int .i64 (hv Y q) ∧ n = .int .i64 (nx X Y q) ∧ p = .int .i64 (pw q)) (fun _ _ _ _ j => 8 - (intOf j).toNat)
      case atStart => exact ⟨0, by omega, rfl, rfl, rfl, rfl, rfl⟩
      case round =>
        obtain ⟨q, hq, rfl, rfl, rfl, rfl, rfl⟩ := hrel
        have b1 := hv_le X q
        have b2 := hv_le Y q
        have b3 := nx_le X Y X256 Y256 q
        have b4 := pw_le q hq
        by_cases hq8 : q < 8
        · by_cases hbit : hv X q % 2 = hv Y q % 2
          · have dt : ((hv X q : Int) % 2 != (hv Y q : Int) % 2) = false := by rw [bne_eq_false_iff_eq]; omega
            have e1 : nx X Y (q + 1) = nx X Y q := by rw [nx_succ, if_neg (by simpa using hbit)]; rfl
            have E1 := Lib.hid e1
            clear hbit e1
            go_wp2
            go_round
            case rel => exact ⟨q + 1, by omega, by go_num, by rw [hv_succ]; go_num, by rw [hv_succ]; go_num, by rw [E1.out], by rw [pw_succ]; go_num⟩
            case measure => simp [intOf]; omega
          · have dt : ((hv X q : Int) % 2 != (hv Y q : Int) % 2) = true := by rw [bne_iff_ne]; omega
            have e1 : nx X Y (q + 1) = nx X Y q + pw q := by rw [nx_succ, if_pos hbit]
            have E1 := Lib.hid e1
            clear hbit e1
            go_wp2
            go_round
            case rel => exact ⟨q + 1, by omega, by go_num, by rw [hv_succ]; go_num, by rw [hv_succ]; go_num, by rw [E1.out]; go_num, by rw [pw_succ]; go_num⟩
            case measure => simp [intOf]; omega
        · have e8 : q = 8 := by omega
          have en : nx X Y q = X ^^^ Y := by rw [e8]; exact nx_eight X Y X256 Y256
          have hxl : X ^^^ Y < 256 := Nat.xor_lt_two_pow (n := 8) X256 Y256
          obtain ⟨Z, hZ⟩ : ∃ Z, Z = X ^^^ Y := ⟨_, rfl⟩
          rw [en, ← hZ]
          rw [← hZ] at hxl
          have HZ := Lib.hid hZ
          have hlen : ((xorL A.data.toList B.data.toList).take k).length < 1000000000000 := by rw [List.length_take]; omega
          have HLEN := Lib.hid hlen
          clear e8 en hZ hlen b1 b2 b3 b4
          go_wp2_with (at_builtin; refine app_u8 wr w _ rfl _ _ rfl _ _ Z rfl hrel.out.1 rfl hxl HLEN.out rfl hrel.out.2 ?_; intro v' w2 hown' hb' _)
          go_roundw
          case rel => exact ⟨k + 1, by omega, by go_num, by rw [HST.out, ← HZ.out]; exact hown', hb'⟩
          case measure => simp [intOf]; omega
    · have hfin : (xorL A.data.toList B.data.toList).take k = xorL A.data.toList B.data.toList := by
        apply List.take_of_length_le
        unfold xorL
        rw [List.length_zipWith]
        have : A.data.toList.length = A.size := by simp
        omega
      have hcv := conv_own hrel.out.1
      rw [hfin] at hcv
      have HF := Lib.hid hfin
      clear hfin
      go_wp2
      go_ret
      exact ⟨rfl, hrel.out.2⟩

end Go.Proofs.YtcpookgbneoilaaDoor
