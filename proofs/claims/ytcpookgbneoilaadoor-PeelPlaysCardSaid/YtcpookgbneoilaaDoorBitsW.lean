/- The contracts of solve.Bits, low, NewTable, Rank. -/
import Derived.Test.YtcpookgbneoilaaDoorRowM
import Derived.Test.YtcpookgbneoilaaDoorLowChk
namespace Go.Proofs.YtcpookgbneoilaaDoor
open Go.ChangeShapes Go.WideShapes Go.ChangeAt Go.RowKit

/-- the bits of a set -/
def bitsTo (zs : List Int) : Nat → Nat
  | 0 => 0
  | j + 1 => bitsTo zs j ||| bitP (zs.getD j 0).toNat
def bitsN (zs : List Int) : Nat := bitsTo zs zs.length
theorem bitsTo_lt (zs : List Int) (k : Nat) (hz : ∀ z ∈ zs, 0 ≤ z ∧ z < k) : ∀ j, j ≤ zs.length → bitsTo zs j < 2 ^ k
  | 0, _ => Nat.pow_pos (by omega)
  | j + 1, hj => by
    have h := hz _ (getD_mem zs j (by omega))
    exact Nat.or_lt_two_pow (bitsTo_lt zs k hz j (by omega)) (Nat.pow_lt_pow_right (by omega) (by omega))

theorem bits_xor_u64_nat (a b : Nat) (ha : a < 9223372036854775808) (hb : b < 9223372036854775808) : bits .xor .u64 (a : Int) (b : Int) = ((a ^^^ b : Nat) : Int) := by
  have hx : a ^^^ b < 2 ^ 63 := Nat.xor_lt_two_pow (by omega) (by omega)
  show IntKind.u64.wrap ((BitVec.ofInt 64 (a : Int) ^^^ BitVec.ofInt 64 (b : Int)).toNat : Int) = _
  rw [BitVec.toNat_xor, ofInt_nat a ha, ofInt_nat b hb]
  exact IntWalk.u64_in _ (by omega)
theorem wrap_pow (z : Nat) (h : z < 63) : IntKind.u64.wrap ((2 : Int) ^ z) = (bitP z : Int) := by
  have h2 := bitP_lt h
  have h3 : (2 : Int) ^ z = (bitP z : Int) := by unfold bitP; exact (Int.natCast_pow 2 z).symm
  rw [h3]; exact IntWalk.u64_in _ (by omega)
theorem low_run (n : Nat) (h0 : n ≠ 0) (hn : n < 65536) : bits .and .u64 (n : Int) (IntKind.u64.wrap (-(n : Int))) = (bitP (lowI n) : Int) := by
  have h1 : IntKind.u64.wrap (-(n : Int)) = ((18446744073709551616 - n : Nat) : Int) := by rw [IntKind.wrap_u64]; omega
  rw [h1, bits_and_u64_nat _ _ (by omega) (by omega), low_and n h0 hn]; rfl
set_option maxRecDepth 100000 in
theorem bits_any (a : Option Addr) (n cap : Nat) (zs : List Int) (w : World) (h : IntsAt w a n cap zs) (hz : ∀ z ∈ zs, 0 ≤ z ∧ z < 16) :
    Calls Tryd.prog 45 #[.slice a n cap] w fun e w' => e = .returned (.int .u64 (bitsN zs)) ∧ w = w' := by
  have hcap2 := h.row.cap
  have hle2 := h.row.le
  unfold maxLen at hcap2
  have hlt := fun j hj => bitsTo_lt zs 16 hz j hj
  have hl := h.len
  rw [hl] at hlt
  have hfin : bitsN zs = bitsTo zs n := by unfold bitsN; rw [hl]
  have H := Lib.hid h; have HZ := Lib.hid hz; have HLT := Lib.hid hlt; have HFIN := Lib.hid hfin
  clear h hz hl hlt hfin
  go_enter Tryd.func45, Tryd.ntmps45
  go_wp2
  go_loop [3, 5, 8] (fun o _ i => ∃ k : Nat, k ≤ n ∧ i = .int .i64 k ∧ o = .int .u64 (bitsTo zs k)) (fun _ _ i => n - (intOf i).toNat)
  case atStart => exact ⟨0, Nat.zero_le _, rfl, rfl⟩
  case round =>
    obtain ⟨k, hk, rfl, rfl⟩ := hrel
    by_cases hlt : k < n
    · obtain ⟨b, o, rfl, hc⟩ := H.out.row.at_ (by omega)
      have c1 := hc k hlt
      have hm := HZ.out _ (getD_mem zs k (by rw [H.out.len]; exact hlt))
      obtain ⟨z, hzd⟩ : ∃ z : Nat, zs.getD k 0 = (z : Int) := ⟨(zs.getD k 0).toNat, by omega⟩
      rw [hzd] at c1 hm
      have hz16 : z < 16 := by omega
      have hst : bitsTo zs (k + 1) = bitsTo zs k ||| bitP z := by rw [bitsTo, hzd, Int.toNat_natCast]
      have hb1 : bitsTo zs k < 65536 := HLT.out k (by omega)
      obtain ⟨B, hB⟩ : ∃ B, B = bitsTo zs k := ⟨_, rfl⟩
      rw [← hB] at hst hb1 ⊢
      have HST := Lib.hid hst
      clear hc hzd hst hB hm
      have hw := wrap_pow z (by omega)
      have hbz : bitP z < 65536 := Nat.pow_lt_pow_right (by omega) hz16
      have ho := bits_or_u64_nat B (bitP z) (by omega) (by omega)
      have HW := Lib.hid hw; have HO := Lib.hid ho
      clear hw ho hbz
      go_wp2
      go_round
      case rel => exact ⟨k + 1, by omega, by go_num, by rw [HW.out, HO.out, HST.out]⟩
      case measure => simp [intOf]; omega
    · obtain rfl : k = n := by omega
      go_wp2
      go_ret
      exact ⟨by show Ending.returned (.int .u64 (bitsTo zs k : Int)) = _; rw [HFIN.out], rfl⟩
set_option maxRecDepth 100000 in
theorem low_any (n : Nat) (w : World) (h0 : n ≠ 0) (hn : n < 65536) :
    Calls Tryd.prog 64 #[.int .u64 n] w fun e w' => e = .returned (.int .u64 (bitP (lowI n))) ∧ w = w' := by
  have HR := Lib.hid (low_run n h0 hn)
  clear h0
  go_enter Tryd.func64, Tryd.ntmps64
  go_wp2
  go_ret
  exact ⟨by show Ending.returned (.int .u64 (bits .and .u64 (n : Int) (IntKind.u64.wrap (-(n : Int))))) = _; rw [HR.out], rfl⟩
set_option maxRecDepth 100000 in
theorem newTable_any (k : Nat) (w : World) :
    Calls Tryd.prog 40 #[] w fun e w' => (∃ p b, e = .returned (.pointer (some ⟨p, 0, none⟩)) ∧ w.heap.size ≤ p ∧ w.heap.size ≤ b ∧ TabAt w' p b k (fun _ => none)) ∧ Lat w w' := by
  have hmm := @run_makeMap Tryd.prog
  have hm0 := MapF.made w Tryd.prog 90 .u64 rowElem
  have ht : TabAt ((w.alloc (.map #[] 0)).alloc (.cells #[.map (some w.heap.size)] 110)) (w.heap.size + 1) w.heap.size k (fun _ => none) :=
    ⟨by rw [World.cell?_alloc_at _ _ _ _ (by simp)]; rfl, by
      have hh := heap_alloc_new (w.alloc (.map #[] 0)) (.cells #[.map (some w.heap.size)] 110)
      rw [World.size_alloc] at hh
      unfold World.frozen?
      rw [hh]; rfl, by omega, _, by rw [rnkT_none]; exact hm0.keep (Lat.alloc _ _), fun _ _ => rfl⟩
  have HT := Lib.hid ht
  clear ht hm0
  go_enter Tryd.func40, Tryd.ntmps40
  go_wp2
  go_ret
  exact ⟨⟨_, _, rfl, Nat.le_succ _, Nat.le_refl _, HT.out⟩, Lat.trans (Lat.alloc _ _) (Lat.alloc _ _)⟩
set_option maxRecDepth 100000 in
theorem rank_tab (p b k : Nat) (T : Nat → Option Vec) (w : World) (h : TabAt w p b k T) :
    Calls Tryd.prog 42 #[.pointer (some ⟨p, 0, none⟩)] w fun e w' => e = .returned (.int .i64 (rnkT T k)) ∧ w = w' := by
  have hc := h.cell
  have hlen := fun ty => h.len ty
  obtain ⟨r, hr⟩ : ∃ r, r = rnkT T k := ⟨_, rfl⟩
  rw [← hr] at hlen ⊢
  clear h hr
  go_enter Tryd.func42, Tryd.ntmps42
  go_wp2
  go_ret
  exact ⟨rfl, rfl⟩
end Go.Proofs.YtcpookgbneoilaaDoor
