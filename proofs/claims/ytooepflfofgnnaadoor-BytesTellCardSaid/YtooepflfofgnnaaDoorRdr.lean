/- The contracts of rice.Reader's methods Bit, Bits, Number, Numbers, and of unfold, on bits that are 0 or 1. -/
import Derived.Test.YtooepflfofgnnaaDoorOnly
import Derived.Test.YtooepflfofgnnaaDoorBitsI
import Derived.Test.YtooepflfofgnnaaDoorRiceDec
import Derived.Test.YtooepflfofgnnaaDoorAlone
import Derived.Test.YtooepflfofgnnaaDoorQuiet
import Derived.Deep.QuietTactic
namespace Go.Proofs.YtooepflfofgnnaaDoor
open Go.ChangeShapes Go.WideShapes Go.ChangeAt Go.RowKit

theorem drop_cons (zs : List Int) (p : Nat) (h : p < zs.length) : zs.drop p = zs.getD p 0 :: zs.drop (p + 1) := by
  rw [List.drop_eq_getElem_cons h, List.getD_eq_getElem?_getD, List.getElem?_eq_getElem h]; rfl

set_option maxHeartbeats 1000000 in
theorem rbit_yes (w : World) (g : Nat) (a : Option Addr) (n cap p : Nat) (zs : List Int) (h : Rd w g a n cap p zs) (hp : p < n) :
    Calls Tryd.prog 95 #[.pointer (some ⟨g, 0, none⟩)] w fun e w' => e = .returned (.tuple #[.int .i64 (zs.getD p 0), .bool true]) ∧ Rd w' g a n cap (p + 1) zs ∧ Only g w w' := by
  have c0 := h.c0
  have c1 := h.c1
  have f1 := h.f1
  have hcap := h.ints.row.cap
  have hle := h.ints.row.le
  unfold maxLen at hcap
  have d1 : decide ((n : Int) ≤ (p : Int)) = false := decide_eq_false (by omega)
  obtain ⟨b1, o1, rfl, hc1⟩ := h.ints.row.at_ (by omega)
  have k1 := hc1 p hp
  have hf := h.far (by omega) b1 o1 rfl
  obtain ⟨z, hz⟩ : ∃ z, z = zs.getD p 0 := ⟨_, rfl⟩
  rw [← hz] at k1 ⊢
  have H := Lib.hid h
  have hf2 : ¬ g = b1 := fun e => hf e.symm
  clear h hc1 hz
  go_enter Tryd.func95, Tryd.ntmps95
  go_wp2_with fail
  go_quiet (fail)
  go_wp2_with fail
  have u1 : IntKind.i64.wrap ((p : Int) + 1 - 1) = p := by rw [Int.add_sub_cancel]; exact IntWalk.i64_in _ (by omega)
  have u2 : IntKind.i64.wrap (p : Int) = p := IntWalk.i64_in _ (by omega)
  have u3 : (0 : Int) ≤ p := by omega
  have u4 : (p : Int) < n := by omega
  go_quiet (fail)
  clear u1 u2 u3 u4
  go_wp2_with fail
  go_ret2
  exact ⟨rfl, ((H.out.keep (Lat.drewN _ _)).set (by omega) (by omega)).keep (Lat.drewN _ _), ((Only.start _ _ _).trans (Only.set _ ⟨g, 1, none⟩ _)).drewN _⟩
set_option maxHeartbeats 1000000 in
theorem rbit_no (w : World) (g : Nat) (a : Option Addr) (n cap p : Nat) (zs : List Int) (h : Rd w g a n cap p zs) (hp : p = n) :
    Calls Tryd.prog 95 #[.pointer (some ⟨g, 0, none⟩)] w fun e w' => e = .returned (.tuple #[.int .i64 0, .bool false]) ∧ Rd w' g a n cap p zs ∧ Only g w w' := by
  subst hp
  have c0 := h.c0
  have c1 := h.c1
  have d1 : decide ((p : Int) ≤ (p : Int)) = true := decide_eq_true (by omega)
  have H := Lib.hid h
  clear h
  go_enter Tryd.func95, Tryd.ntmps95
  go_wp2_with fail
  go_quiet (fail)
  go_wp2_with fail
  go_ret2
  exact ⟨rfl, H.out.keep (Lat.drewN _ _), Only.start _ _ _⟩

/-- What Bits answers. -/
def BitsPost (k : Nat) (zs : List Int) (p : Nat) (x : Int) (ok : Bool) (q : Nat) : Prop := match bitsN k 0 (zs.drop p) with
  | some (v, r) => ok = true ∧ x = v ∧ zs.drop q = r
  | none => ok = false ∧ x = 0
theorem BitsPost.yes {k : Nat} {zs : List Int} {p q m : Nat} (h : bitsN k 0 (zs.drop p) = bitsN 0 m (zs.drop q)) : BitsPost k zs p m true q := by
  unfold BitsPost; rw [h]; exact ⟨rfl, rfl, rfl⟩
theorem BitsPost.no {k j : Nat} {zs : List Int} {p q m : Nat} (h : bitsN k 0 (zs.drop p) = bitsN (j + 1) m (zs.drop q)) (hq : zs.length ≤ q) : BitsPost k zs p 0 false q := by
  unfold BitsPost; rw [h, List.drop_eq_nil_of_le hq]; exact ⟨rfl, rfl⟩
theorem or_bit (m b : Nat) (hb : b < 2) : 2 * m ||| b = 2 * m + b := by
  have := Nat.two_pow_add_eq_or_of_lt (i := 1) (b := b) (by omega) m
  rw [Nat.pow_one] at this; exact this.symm
set_option maxHeartbeats 2000000 in
theorem rbits_any (w : World) (g : Nat) (a : Option Addr) (n cap p k : Nat) (zs : List Int) (h : Rd w g a n cap p zs) (hb : ∀ z ∈ zs, z = 0 ∨ z = 1) (hk : k ≤ 8) :
    Calls Tryd.prog 96 #[.pointer (some ⟨g, 0, none⟩), .int .i64 k] w fun e w' => ∃ x ok q, e = .returned (.tuple #[.int .i64 x, .bool ok]) ∧ Rd w' g a n cap q zs ∧ Only g w w' ∧ Hid (BitsPost k zs p x ok q) := by
  have H := Lib.hid h
  have HB := Lib.hid hb
  clear h hb
  go_enter Tryd.func96, Tryd.ntmps96
  go_wp2_with fail
  go_loopw [6, 10] (fun v i wr => ∃ j m : Nat, j ≤ k ∧ i = .int .i64 j ∧ v = .int .i64 m ∧ m ≤ 255 ∧ Hid (Rd wr g a n cap (p + j) zs ∧ Only g w wr ∧ bitsN k 0 (zs.drop p) = bitsN (k - j) m (zs.drop (p + j)) ∧ m < 2 ^ j)) (fun _ i _ => k - (intOf i).toNat)
  case atStart => exact ⟨0, 0, Nat.zero_le _, rfl, rfl, by omega, H.out, Only.refl _ _, rfl, by omega⟩
  case round =>
    obtain ⟨j, m, hj, rfl, rfl, hm, hrel⟩ := hrel
    by_cases hlt : j < k
    · by_cases hp : p + j < n
      · have hz := HB.out _ (mem_getD zs (p + j) (by rw [H.out.ints.len]; exact hp))
        have hd := drop_cons zs (p + j) (by rw [H.out.ints.len]; exact hp)
        obtain ⟨c, hc, hcb⟩ : ∃ c : Nat, c < 2 ∧ zs.getD (p + j) 0 = c := by rcases hz with h | h; exact ⟨0, by omega, by rw [h]; rfl⟩; exact ⟨1, by omega, by rw [h]; rfl⟩
        have hcall := rbit_yes wr g a n cap (p + j) zs hrel.out.1 hp
        rw [hcb] at hcall hd
        have hst : bitsN (k - j) m (zs.drop (p + j)) = bitsN (k - (j + 1)) (2 * m + c) (zs.drop (p + (j + 1))) := by
          rw [hd, show k - j = (k - (j + 1)) + 1 by omega, bitsN, Int.toNat_natCast]; rfl
        have hor := bits_or_nat (2 * m) c (by omega) (by omega)
        rw [or_bit m c hc, Int.natCast_mul, Int.mul_comm] at hor
        have hm2 : 2 * m + c < 2 ^ (j + 1) := by have := hrel.out.2.2.2; rw [Nat.pow_succ]; omega
        have h256 : 2 ^ (j + 1) ≤ 2 ^ 8 := Nat.pow_le_pow_right (by omega) (by omega)
        have hm3 : 2 * m + c ≤ 255 := by omega
        have HC := Lib.hid hcall
        have HS := Lib.hid hst
        have HOR := Lib.hid hor
        have HM2 := Lib.hid hm2
        have HM3 := Lib.hid hm3
        clear hz hd hcb hcall hst hor hm2 h256 hm3
        go_wp2_with fail
        refine HC.out.mono ?_
        rintro e w1 ⟨rfl, hr1, ho1⟩
        have HR1 := Lib.hid hr1
        have HO1 := Lib.hid ho1
        clear hr1 ho1
        go_wp2_with fail
        go_roundw
        case rel => exact ⟨j + 1, 2 * m + c, by omega, by go_num, congrArg _ HOR.out, HM3.out, HR1.out, hrel.out.2.1.trans HO1.out, hrel.out.2.2.1.trans HS.out, HM2.out⟩
        case measure => simp [intOf]; omega
      · have hp2 : p + j = n := by have := hrel.out.1.le; omega
        have hcall := rbit_no wr g a n cap (p + j) zs hrel.out.1 hp2
        have HC := Lib.hid hcall
        have HP := Lib.hid hp2
        clear hcall hp hp2
        go_wp2_with fail
        refine HC.out.mono ?_
        rintro e w1 ⟨rfl, hr1, ho1⟩
        have HR1 := Lib.hid hr1
        have HO1 := Lib.hid ho1
        clear hr1 ho1
        go_wp2_with fail
        go_ret2
        exact ⟨_, _, p + j, rfl, HR1.out, hrel.out.2.1.trans HO1.out, BitsPost.no (j := k - (j + 1)) (m := m) (by rw [show k - (j + 1) + 1 = k - j by omega]; exact hrel.out.2.2.1) (by rw [H.out.ints.len]; have := HP.out; omega)⟩
    · obtain rfl : j = k := by omega
      go_wp2_with fail
      go_ret2
      exact ⟨_, _, p + j, rfl, hrel.out.1, hrel.out.2.1, BitsPost.yes (by have := hrel.out.2.2.1; rw [Nat.sub_self] at this; exact this)⟩

theorem unfold_any (n : Int) (w : World) (h0 : 0 ≤ n) (h1 : n ≤ 1000000) :
    Calls Tryd.prog 136 #[.int .i64 n] w fun e w' => e = .returned (.int .i64 (unf n)) ∧ w = w' := by
  by_cases h : n % 2 = 1
  · have d1 : (n % 2 == 1) = true := beq_iff_eq.2 h
    have e1 : unf n = -((n + 1) / 2) := by unfold unf; rw [if_pos h]
    rw [e1]
    clear e1
    go_enter Tryd.func136, Tryd.ntmps136
    go_wp2
    go_ret
    exact ⟨int_ret (by rw [Int.tdiv_eq_ediv_of_nonneg (by omega)]; exact IntWalk.wrap64_in _ (by omega)), rfl⟩
  · have d1 : (n % 2 == 1) = false := beq_eq_false_iff_ne.2 h
    have e1 : unf n = n / 2 := by unfold unf; rw [if_neg h]
    rw [e1]
    clear e1
    go_enter Tryd.func136, Tryd.ntmps136
    go_wp2
    go_ret
    exact ⟨rfl, rfl⟩

/-- What Number answers. -/
def NumPost (low : Nat) (zs : List Int) (p : Nat) (x : Int) (ok : Bool) (q : Nat) : Prop := match numb low (zs.drop p) with
  | some (v, r) => ok = true ∧ x = v ∧ zs.drop q = r
  | none => ok = false
def bump (q : Nat) : Option (Nat × List Int) → Option (Nat × List Int)
  | none => none
  | some (a, r) => some (a + q, r)
theorem bump_zero : ∀ x, bump 0 x = x
  | none => rfl
  | some (_, _) => rfl
theorem bump_one (q : Nat) (t : List Int) : bump q (unary (1 :: t)) = bump (q + 1) (unary t) := by
  rw [unary, if_neg (by omega)]
  cases unary t with
  | none => rfl
  | some x => obtain ⟨a, r⟩ := x; simp [bump]; omega
theorem NumPost.end_ {low : Nat} {zs : List Int} {p q : Nat} {x : Int} {q2 : Nat} (h : unary (zs.drop p) = bump q (unary (zs.drop (p + q)))) (hq : zs.length ≤ p + q) : NumPost low zs p x false q2 := by
  unfold NumPost numb; rw [h, List.drop_eq_nil_of_le hq]; rfl
theorem numb_at {low : Nat} {zs : List Int} {p q : Nat} (h : unary (zs.drop p) = bump q (unary (zs.drop (p + q)))) (hz : zs.getD (p + q) 0 = 0) (hl : p + q < zs.length) :
    numb low (zs.drop p) = match bitsN low 0 (zs.drop (p + q + 1)) with
      | none => none
      | some (n, r2) => if (q * 2 ^ low + n : Nat) ≤ 510 then some (unf ((q * 2 ^ low + n : Nat) : Int), r2) else none := by
  unfold numb
  rw [h, drop_cons zs _ hl, hz, unary, if_pos rfl]
  simp only [bump, Nat.zero_add]
  cases bitsN low 0 (zs.drop (p + q + 1)) <;> rfl
theorem BitsPost.val {k : Nat} {zs : List Int} {p q : Nat} {x : Int} {ok : Bool} (h : BitsPost k zs p x ok q) (hb : ∀ z ∈ zs, z = 0 ∨ z = 1) : ∃ v : Nat, x = v ∧ v < 2 ^ k := by
  unfold BitsPost at h
  cases hn : bitsN k 0 (zs.drop p) with
  | none => rw [hn] at h; exact ⟨0, h.2, Nat.two_pow_pos k⟩
  | some y =>
    obtain ⟨n, r⟩ := y
    rw [hn] at h
    obtain ⟨m, hm, e, _⟩ := bitsN_inv (fun z hz => hb z (List.mem_of_mem_drop hz)) hn
    exact ⟨n, h.2.1, by omega⟩
theorem NumPost.no_bits {low : Nat} {zs : List Int} {p q : Nat} {x y : Int} {q2 q3 : Nat} (h : unary (zs.drop p) = bump q (unary (zs.drop (p + q)))) (hz : zs.getD (p + q) 0 = 0) (hl : p + q < zs.length) (hp : BitsPost low zs (p + q + 1) x false q2) : NumPost low zs p y false q3 := by
  unfold NumPost; rw [numb_at h hz hl]
  unfold BitsPost at hp
  cases hn : bitsN low 0 (zs.drop (p + q + 1)) with
  | none => rfl
  | some v => obtain ⟨n, r⟩ := v; rw [hn] at hp; exact absurd hp.1 (by simp)
theorem NumPost.bits {low : Nat} {zs : List Int} {p q : Nat} {v : Nat} {q2 : Nat} (h : unary (zs.drop p) = bump q (unary (zs.drop (p + q)))) (hz : zs.getD (p + q) 0 = 0) (hl : p + q < zs.length) (hp : BitsPost low zs (p + q + 1) v true q2) :
    NumPost low zs p (unf ((q * 2 ^ low + v : Nat) : Int)) (restB (unf ((q * 2 ^ low + v : Nat) : Int))) q2 := by
  unfold NumPost; rw [numb_at h hz hl]
  unfold BitsPost at hp
  cases hn : bitsN low 0 (zs.drop (p + q + 1)) with
  | none => rw [hn] at hp; exact absurd hp.1 (by simp)
  | some y =>
    obtain ⟨n, r⟩ := y
    rw [hn] at hp
    obtain ⟨_, e, hr⟩ := hp
    have e : v = n := by omega
    subst e
    obtain ⟨T, hT⟩ : ∃ T, T = q * 2 ^ low + v := ⟨_, rfl⟩
    simp only
    rw [← hT]
    by_cases h5 : T ≤ 510
    · rw [if_pos h5]; exact ⟨decide_eq_true (by unfold unf; split <;> omega), rfl, hr⟩
    · rw [if_neg h5]; exact decide_eq_false (by unfold unf; split <;> omega)
theorem or_low (q v low : Nat) (hv : v < 2 ^ low) : q * 2 ^ low ||| v = q * 2 ^ low + v := by
  have := Nat.two_pow_add_eq_or_of_lt hv q
  rw [Nat.mul_comm] at this; exact this.symm

set_option maxHeartbeats 4000000 in
theorem rnumber_any (w : World) (g : Nat) (a : Option Addr) (n cap p low : Nat) (zs : List Int) (h : Rd w g a n cap p zs) (hb : ∀ z ∈ zs, z = 0 ∨ z = 1) (hn : n ≤ 2000) (hl : low ≤ 7) :
    Calls Tryd.prog 115 #[.pointer (some ⟨g, 0, none⟩), .int .i64 low] w fun e w' => ∃ x ok q, e = .returned (.tuple #[.int .i64 x, .bool ok]) ∧ Rd w' g a n cap q zs ∧ Only g w w' ∧ Hid (NumPost low zs p x ok q) := by
  have H := Lib.hid h
  have HB := Lib.hid hb
  have HLe := Lib.hid h.ints.len
  clear h hb
  go_enter Tryd.func115, Tryd.ntmps115
  go_wp2_with fail
  go_loopw [6] (fun v wr => ∃ q : Nat, p + q ≤ n ∧ v = .int .i64 q ∧ Hid (Rd wr g a n cap (p + q) zs ∧ Only g w wr ∧ unary (zs.drop p) = bump q (unary (zs.drop (p + q))))) (fun v _ => n - p - (intOf v).toNat)
  case atStart => exact ⟨0, by have := H.out.le; omega, rfl, H.out, Only.refl _ _, (bump_zero _).symm⟩
  case round =>
    obtain ⟨q, hq, rfl, hrel⟩ := hrel
    by_cases hp : p + q < n
    case neg =>
      have hp2 : p + q = n := by omega
      have hcall := rbit_no wr g a n cap (p + q) zs hrel.out.1 hp2
      have HC := Lib.hid hcall
      have HP := Lib.hid hp2
      clear hcall hp hp2
      go_wp2_with fail
      refine HC.out.mono ?_
      rintro e w1 ⟨rfl, hr1, ho1⟩
      have HR1 := Lib.hid hr1
      have HO1 := Lib.hid ho1
      clear hr1 ho1
      go_wp2_with fail
      go_ret2
      exact ⟨_, _, p + q, rfl, HR1.out, hrel.out.2.1.trans HO1.out, NumPost.end_ hrel.out.2.2 (by rw [HLe.out]; have := HP.out; omega)⟩
    have hcall := rbit_yes wr g a n cap (p + q) zs hrel.out.1 hp
    rcases HB.out _ (mem_getD zs (p + q) (by rw [HLe.out]; exact hp)) with hz | hz
    · rw [hz] at hcall
      have HC := Lib.hid hcall
      have HZ := Lib.hid hz
      clear hcall hz
      go_wp2_with fail
      refine HC.out.mono ?_
      rintro e w1 ⟨rfl, hr1, ho1⟩
      have HO1 := Lib.hid (hrel.out.2.1.trans ho1)
      have hc2 := rbits_any w1 g a n cap (p + q + 1) low zs hr1 HB.out (by omega)
      have HC2 := Lib.hid hc2
      clear hr1 ho1 hc2
      go_wp2_with fail
      refine HC2.out.mono ?_
      rintro e w2 ⟨x, ok, q2, rfl, hr2, ho2, hpost⟩
      have HR2 := Lib.hid hr2
      have HO2 := Lib.hid (HO1.out.trans ho2)
      obtain ⟨v, rfl, hv⟩ := hpost.out.val HB.out
      have hpw : 2 ^ low ≤ 2 ^ 7 := Nat.pow_le_pow_right (by omega) hl
      have hqm : q * 2 ^ low ≤ 2000 * 2 ^ 7 := Nat.mul_le_mul (by omega) hpw
      have hT : q * 2 ^ low + v ≤ 300000 := by omega
      have hor := bits_or_nat (q * 2 ^ low) v (by omega) (by omega)
      rw [or_low q v low hv] at hor
      have hw64 : RowKit.wrap64 ((q : Int) * 2 ^ low) = ((q * 2 ^ low : Nat) : Int) := by
        have e : (q : Int) * 2 ^ low = ((q * 2 ^ low : Nat) : Int) := by simp
        rw [e]; exact IntWalk.wrap64_in _ (by omega)
      rw [← hw64] at hor
      obtain ⟨T, hTT⟩ : ∃ T, T = q * 2 ^ low + v := ⟨_, rfl⟩
      rw [← hTT] at hT hor
      have hun : unary (zs.drop p) = bump q (unary (zs.drop (p + q))) := hrel.out.2.2
      have hfin : NumPost low zs p (unf T) (ok && restB (unf T)) q2 := by
        cases ok with
        | true => rw [hTT, Bool.true_and]; exact NumPost.bits hun HZ.out (by rw [HLe.out]; exact hp) hpost.out
        | false => exact NumPost.no_bits hun HZ.out (by rw [HLe.out]; exact hp) hpost.out
      have HF := Lib.hid hfin
      have HOR := Lib.hid hor
      clear hr2 ho2 hv hpw hqm hw64 hTT hfin hor hun hpost
      go_wp2_with fail
      rw [HOR.out]
      refine (unfold_any T w2 (by omega) (by omega)).mono ?_
      rintro e w3 ⟨rfl, rfl⟩
      cases ok with
      | true =>
        go_wp2_with (go_at_call 137; refine (rest_any _ _).mono ?_; rintro e w' ⟨rfl, rfl⟩)
        go_ret2
        exact ⟨_, _, q2, rfl, HR2.out, HO2.out, HF.out⟩
      | false =>
        go_wp2_with fail
        go_ret2
        exact ⟨_, _, q2, rfl, HR2.out, HO2.out, HF.out⟩
    · rw [hz] at hcall
      have hun := hrel.out.2.2
      rw [drop_cons zs (p + q) (by rw [HLe.out]; exact hp), hz, bump_one] at hun
      have HC := Lib.hid hcall
      have HUN := Lib.hid hun
      clear hcall hz hun
      go_wp2_with fail
      refine HC.out.mono ?_
      rintro e w1 ⟨rfl, hr1, ho1⟩
      have HO1 := Lib.hid (hrel.out.2.1.trans ho1)
      have HR1 := Lib.hid hr1
      clear hr1 ho1
      go_wp2_with fail
      go_roundw
      case rel => exact ⟨q + 1, by omega, by go_num, HR1.out, HO1.out, HUN.out⟩
      case measure => simp [intOf]; omega

theorem numbs_snoc {low : Nat} : ∀ {k : Nat} {l r vs : List Int}, numbs low k l = some (vs, r) → numbs low (k + 1) l = match numb low r with
    | none => none
    | some (v, r2) => some (vs ++ [v], r2)
  | 0, l, r, vs, h => by
    simp only [numbs, Option.some.injEq, Prod.mk.injEq] at h
    obtain ⟨rfl, rfl⟩ := h
    rw [numbs]
    cases numb low l with
    | none => rfl
    | some x => obtain ⟨v, r2⟩ := x; rfl
  | k + 1, l, r, vs, h => by
    rw [numbs] at h ⊢
    cases hn : numb low l with
    | none => rw [hn] at h; simp at h
    | some x =>
      obtain ⟨v, r1⟩ := x
      rw [hn] at h
      simp only at h ⊢
      cases hm : numbs low k r1 with
      | none => rw [hm] at h; simp at h
      | some y =>
        obtain ⟨us, r2⟩ := y
        rw [hm] at h
        simp only [Option.some.injEq, Prod.mk.injEq] at h
        obtain ⟨rfl, rfl⟩ := h
        rw [numbs_snoc hm]
        cases numb low r2 with
        | none => rfl
        | some z => obtain ⟨v2, r3⟩ := z; rfl
theorem numbs_dead1 {low : Nat} : ∀ {k : Nat} {l : List Int}, numbs low k l = none → numbs low (k + 1) l = none
  | 0, l, h => by simp [numbs] at h
  | k + 1, l, h => by
    rw [numbs] at h ⊢
    cases hn : numb low l with
    | none => rfl
    | some x =>
      obtain ⟨v, r1⟩ := x
      rw [hn] at h
      simp only at h ⊢
      cases hm : numbs low k r1 with
      | none => rw [numbs_dead1 hm]
      | some y => obtain ⟨us, r2⟩ := y; rw [hm] at h; simp at h
theorem numbs_dead {low : Nat} {k m : Nat} {l : List Int} (h : numbs low k l = none) (hm : k ≤ m) : numbs low m l = none := by
  obtain ⟨d, rfl⟩ : ∃ d, m = k + d := ⟨m - k, by omega⟩
  clear hm
  induction d with
  | zero => exact h
  | succ d ih => rw [← Nat.add_assoc]; exact numbs_dead1 ih
/-- What Numbers answers. -/
def NumsPost (low many : Nat) (zs : List Int) (p : Nat) (vs : List Int) (ok : Bool) (q : Nat) : Prop := match numbs low many (zs.drop p) with
  | some (us, r) => ok = true ∧ vs = us ∧ zs.drop q = r
  | none => ok = false ∧ vs = []
theorem NumPost.go {low : Nat} {zs : List Int} {p q q2 k : Nat} {vs : List Int} {x : Int} (hr : numbs low k (zs.drop p) = some (vs, zs.drop q)) (h : NumPost low zs q x true q2) : numbs low (k + 1) (zs.drop p) = some (vs ++ [x], zs.drop q2) := by
  rw [numbs_snoc hr]
  unfold NumPost at h
  cases hn : numb low (zs.drop q) with
  | none => rw [hn] at h; cases h
  | some y => obtain ⟨v, r⟩ := y; rw [hn] at h; rw [h.2.1, h.2.2]
theorem NumPost.stop {low : Nat} {zs : List Int} {p q q2 q3 k m : Nat} {vs : List Int} {x : Int} (hr : numbs low k (zs.drop p) = some (vs, zs.drop q)) (h : NumPost low zs q x false q2) (hm : k < m) : NumsPost low m zs p [] false q3 := by
  have hd : numbs low (k + 1) (zs.drop p) = none := by
    rw [numbs_snoc hr]
    unfold NumPost at h
    cases hn : numb low (zs.drop q) with
    | none => rfl
    | some y => obtain ⟨v, r⟩ := y; rw [hn] at h; exact absurd h.1 (by simp)
  unfold NumsPost; rw [numbs_dead hd hm]; exact ⟨rfl, rfl⟩
theorem NumPost.wf {low : Nat} {zs : List Int} {q q2 : Nat} {x : Int} (hb : ∀ z ∈ zs, z = 0 ∨ z = 1) (h : NumPost low zs q x true q2) : -255 ≤ x ∧ x ≤ 255 := by
  unfold NumPost at h
  cases hn : numb low (zs.drop q) with
  | none => rw [hn] at h; cases h
  | some y =>
    obtain ⟨v, r⟩ := y
    rw [hn] at h
    obtain ⟨a1, a2, _⟩ := numb_inv (fun z hz => hb z (List.mem_of_mem_drop hz)) hn
    rw [h.2.1]; exact ⟨a1, a2⟩

set_option maxHeartbeats 4000000 in
set_option maxRecDepth 100000 in
theorem rnumbers_anyF (w : World) (g : Nat) (a : Option Addr) (n cap p low many : Nat) (zs : List Int) (h : Rd w g a n cap p zs) (hb : ∀ z ∈ zs, z = 0 ∨ z = 1) (hn : n ≤ 2000) (hl : low ≤ 7) (hm : many ≤ 1000000) :
    Calls Tryd.prog 97 #[.pointer (some ⟨g, 0, none⟩), .int .i64 low, .int .i64 many] w fun e w' => ∃ c k cc vs ok q, e = .returned (.tuple #[.slice c k cc, .bool ok]) ∧ IntsAt w' c k cc vs ∧ Fresh w c k ∧ Rd w' g a n cap q zs ∧ But g w w' ∧ Hid (NumsPost low many zs p vs ok q) := by
  have H := Lib.hid h
  have HB := Lib.hid hb
  obtain ⟨B, hB⟩ : ∃ B, B = w.heap.size := ⟨_, rfl⟩
  have HBS := Lib.hid hB
  clear h hb hB
  go_enter Tryd.func97, Tryd.ntmps97
  go_wp2_with fail
  go_loopw [8, 12] (fun v i wr => ∃ (k q : Nat) (vs : List Int), k ≤ many ∧ i = .int .i64 k ∧ Hid (vs.length = k ∧ (∀ z ∈ vs, -255 ≤ z ∧ z ≤ 255) ∧ OwnInts wr B v vs ∧ Rd wr g a n cap q zs ∧ But g w wr ∧ numbs low k (zs.drop p) = some (vs, zs.drop q))) (fun _ i _ => many - (intOf i).toNat)
  case atStart => exact ⟨0, p, [], Nat.zero_le _, rfl, rfl, by simp, Own.nil _ _ _, H.out, But.refl _ _, rfl⟩
  case round =>
    obtain ⟨k, q, vs, hk, rfl, hrel⟩ := hrel
    obtain ⟨r1, r2, r3, r4, r5, r6⟩ := hrel.out
    have R1 := Lib.hid r1
    have R2 := Lib.hid r2
    have R3 := Lib.hid r3
    have R4 := Lib.hid r4
    have R5 := Lib.hid r5
    have R6 := Lib.hid r6
    clear hrel r1 r2 r3 r4 r5 r6
    by_cases hlt : k < many
    · have hcall := rnumber_any wr g a n cap q low zs R4.out HB.out hn hl
      have HC := Lib.hid hcall
      clear hcall
      go_wp2_with fail
      refine HC.out.mono ?_
      rintro e w1 ⟨x, ok, q2, rfl, hr1, ho1, hpost⟩
      have HR1 := Lib.hid hr1
      have HB1 := Lib.hid (R5.out.trans ho1.but)
      have HOW := Lib.hid (Own.only R3.out ho1 (show g < B by rw [HBS.out]; exact H.out.lt))
      clear hr1 ho1
      cases ok with
      | false =>
        go_wp2_with fail
        go_ret2
        exact ⟨none, 0, 0, [], false, q2, rfl, IntsAt.nil _, fun _ _ _ _ _ hn => absurd rfl hn, HR1.out, HB1.out, NumPost.stop R6.out hpost.out hlt⟩
      | true =>
        have hx := NumPost.wf HB.out hpost.out
        have hlen : vs.length < 1000000000000 := by rw [R1.out]; omega
        have hBs : B ≤ w1.heap.size := by rw [HBS.out]; exact HB1.out.size
        have HX := Lib.hid hx
        have HL := Lib.hid hlen
        have HBZ := Lib.hid hBs
        clear hx hlen hBs
        go_wp2_with (at_builtin; refine app_intB w1 B rfl _ _ rfl _ _ _ (by rfl) HOW.out (by rfl) HL.out HBZ.out ?_)
        intro v' w3 hown3 hb3 hstep3
        rw [HBS.out] at hb3
        have HOW3 := Lib.hid hown3
        have HB3 := Lib.hid hb3
        clear hown3 hb3 hstep3
        go_wp2_with fail
        go_roundw
        case rel => exact ⟨k + 1, q2, vs ++ [x], by omega, by go_num, by rw [List.length_append, R1.out]; rfl, fun z hz => by
          rcases List.mem_append.1 hz with hz | hz
          · exact R2.out z hz
          · rw [List.mem_singleton.1 hz]; exact HX.out, HOW3.out, Rd.below H.out HR1.out HB1.out HB3.out, HB1.out.below HB3.out, NumPost.go R6.out hpost.out⟩
        case measure => simp [intOf]; omega
    · obtain rfl : k = many := by omega
      obtain ⟨va, vc, rfl, hat⟩ := OwnInts.sliceN R3.out (fun z hz => by have := R2.out z hz; omega) R1.out
      have hfr : Fresh w va k := fun g' hg' => own_ne R3.out (by rw [HBS.out]; exact hg')
      have HFR := Lib.hid hfr
      have HAT := Lib.hid hat
      clear hat hfr
      go_wp2_with fail
      go_ret2
      exact ⟨va, k, vc, vs, true, q, rfl, HAT.out, HFR.out, R4.out, R5.out, by unfold NumsPost; rw [R6.out]; exact ⟨rfl, rfl, rfl⟩⟩
theorem rnumbers_any (w : World) (g : Nat) (a : Option Addr) (n cap p low many : Nat) (zs : List Int) (h : Rd w g a n cap p zs) (hb : ∀ z ∈ zs, z = 0 ∨ z = 1) (hn : n ≤ 2000) (hl : low ≤ 7) (hm : many ≤ 1000000) :
    Calls Tryd.prog 97 #[.pointer (some ⟨g, 0, none⟩), .int .i64 low, .int .i64 many] w fun e w' => ∃ c k cc vs ok q, e = .returned (.tuple #[.slice c k cc, .bool ok]) ∧ IntsAt w' c k cc vs ∧ Rd w' g a n cap q zs ∧ But g w w' ∧ Hid (NumsPost low many zs p vs ok q) :=
  (rnumbers_anyF w g a n cap p low many zs h hb hn hl hm).mono fun _ _ ⟨c, k, cc, vs, ok, q, h1, h2, _, h3⟩ => ⟨c, k, cc, vs, ok, q, h1, h2, h3⟩
end Go.Proofs.YtooepflfofgnnaaDoor
