import Derived.Test.YtcpookgbneoilaaGreatDoorBase
import Derived.Laws.Bits64b
import Derived.IntWalk
import Derived.Test.YtcpookgbneoilaaGreatDoorBytePlain
import Derived.Test.YtcpookgbneoilaaGreatDoorMapF
import Derived.Test.YtcpookgbneoilaaGreatDoorMix
import Derived.Test.YtcpookgbneoilaaGreatDoorEarPlaysT
import Derived.Test.YtcpookgbneoilaaGreatDoorBytes
import Derived.Test.YtcpookgbneoilaaGreatDoorFr
import Derived.Deep.MidRow
import Derived.Deep.LoopGhost
import Derived.Deep.DeepCutAuto
import Derived.Deep.CutBlock
import Derived.StillTailTactics
namespace Go.Proofs.YtcpookgbneoilaaGreatDoor

theorem ofInt_nat (a : Nat) (ha : a < 9223372036854775808) : (BitVec.ofInt 64 (a : Int)).toNat = a := by
  rw [BitVec.ofInt_natCast, BitVec.toNat_ofNat]; exact Nat.mod_eq_of_lt (by omega)
theorem bits_and_nat (a b : Nat) (ha : a < 9223372036854775808) (hb : b < 9223372036854775808) : bits .and .i64 (a : Int) (b : Int) = ((a &&& b : Nat) : Int) := by
  have hx : a &&& b < 2 ^ 63 := Nat.and_lt_two_pow _ (by omega)
  show IntKind.i64.wrap ((BitVec.ofInt 64 (a : Int) &&& BitVec.ofInt 64 (b : Int)).toNat : Int) = _
  rw [BitVec.toNat_and, ofInt_nat a ha, ofInt_nat b hb]
  exact IntWalk.i64_in _ (by omega)
theorem bits_or_nat (a b : Nat) (ha : a < 9223372036854775808) (hb : b < 9223372036854775808) : bits .or .i64 (a : Int) (b : Int) = ((a ||| b : Nat) : Int) := by
  have hx : a ||| b < 2 ^ 63 := Nat.or_lt_two_pow (by omega) (by omega)
  show IntKind.i64.wrap ((BitVec.ofInt 64 (a : Int) ||| BitVec.ofInt 64 (b : Int)).toNat : Int) = _
  rw [BitVec.toNat_or, ofInt_nat a ha, ofInt_nat b hb]
  exact IntWalk.i64_in _ (by omega)
theorem bits_and_one (a : Nat) (ha : a < 9223372036854775808) : bits .and .i64 (a : Int) 1 = ((a % 2 : Nat) : Int) := by
  have := bits_and_nat a 1 ha (by omega)
  rw [Nat.and_one_is_mod] at this
  exact this
end Go.Proofs.YtcpookgbneoilaaGreatDoor

namespace Go.Proofs.YtcpookgbneoilaaGreatDoor

abbrev Vec := Nat × List UInt8
def vx (u v : Vec) : Vec := (u.1 ^^^ v.1, xorL u.2 v.2)
def vz (m : Nat) : Vec := (0, noughts m)
theorem noughts_len (m : Nat) : (noughts m).length = m := List.length_replicate
theorem vx_comm (u v : Vec) : vx u v = vx v u := by unfold vx; rw [Nat.xor_comm, xorL_comm]
theorem vx_assoc (u v x : Vec) : vx (vx u v) x = vx u (vx v x) := by unfold vx; simp only [Nat.xor_assoc, xorL_assoc]
theorem vx_self {u : Vec} {m : Nat} (h : u.2.length = m) : vx u u = vz m := by unfold vx vz; rw [Nat.xor_self, xorL_self, h]
theorem vx_zero {u : Vec} {m : Nat} (h : u.2.length = m) : vx u (vz m) = u := by unfold vx vz; subst h; simp only [Nat.xor_zero, xorL_noughts]
theorem vx_len {u v : Vec} {m : Nat} (h : u.2.length = m) (h2 : v.2.length = m) : (vx u v).2.length = m := by unfold vx; rw [xorL_length _ _ (by omega)]; exact h
theorem vx_cancel {u v : Vec} {m : Nat} (h : u.2.length = m) (h2 : v.2.length = m) : vx (vx u v) v = u := by rw [vx_assoc, vx_self h2, vx_zero h]
theorem vx_bit (u v : Vec) (b : Nat) : (vx u v).1.testBit b = (u.1.testBit b ^^ v.1.testBit b) := Nat.testBit_xor _ _ _
theorem vz_bit (m b : Nat) : (vz m).1.testBit b = false := Nat.zero_testBit b

def sumV (m : Nat) : List Vec → Vec
  | [] => vz m
  | u :: M => vx u (sumV m M)
def Wf (m : Nat) (L : List Vec) : Prop := ∀ u ∈ L, u.2.length = m
theorem sumV_len {m : Nat} : ∀ {M : List Vec}, Wf m M → (sumV m M).2.length = m
  | [], _ => noughts_len m
  | u :: _, h => vx_len (h u (List.mem_cons_self ..)) (sumV_len fun x hx => h x (List.mem_cons_of_mem _ hx))
theorem sumV_append {m : Nat} : ∀ {M N : List Vec}, Wf m N → sumV m (M ++ N) = vx (sumV m M) (sumV m N)
  | [], N, h => by show sumV m N = vx (vz m) (sumV m N); rw [vx_comm, vx_zero (sumV_len h)]
  | u :: M, N, h => by show vx u (sumV m (M ++ N)) = vx (vx u (sumV m M)) (sumV m N); rw [sumV_append h, vx_assoc]
def Sp (m : Nat) (L : List Vec) (v : Vec) : Prop := ∃ M, (∀ u ∈ M, u ∈ L) ∧ v = sumV m M
theorem Sp.zero (m : Nat) (L : List Vec) : Sp m L (vz m) := ⟨[], by simp, rfl⟩
theorem Sp.len {m : Nat} {L : List Vec} (hL : Wf m L) {v : Vec} (h : Sp m L v) : v.2.length = m := by
  obtain ⟨M, hM, rfl⟩ := h
  exact sumV_len fun u hu => hL u (hM u hu)
theorem Sp.over {m : Nat} {L : List Vec} (hL : Wf m L) {u v : Vec} (h : Sp m L u) (k : Sp m L v) : Sp m L (vx u v) := by
  obtain ⟨M, hM, rfl⟩ := h
  obtain ⟨N, hN, rfl⟩ := k
  refine ⟨M ++ N, fun x hx => ?_, (sumV_append fun x hx => hL x (hN x hx)).symm⟩
  rcases List.mem_append.1 hx with hx | hx
  · exact hM x hx
  · exact hN x hx
theorem Sp.mem {m : Nat} {L : List Vec} (hL : Wf m L) {u : Vec} (h : u ∈ L) : Sp m L u :=
  ⟨[u], by simpa using h, by show u = vx u (vz m); rw [vx_zero (hL u h)]⟩
theorem Sp.sub {m : Nat} {L L' : List Vec} (hL' : Wf m L') (h : ∀ u ∈ L, Sp m L' u) {v : Vec} (hv : Sp m L v) : Sp m L' v := by
  obtain ⟨M, hM, rfl⟩ := hv
  induction M with
  | nil => exact Sp.zero m L'
  | cons u M ih => exact Sp.over hL' (h u (hM u (List.mem_cons_self ..))) (ih fun x hx => hM x (List.mem_cons_of_mem _ hx))
theorem Sp.mono {m : Nat} {L L' : List Vec} (h : ∀ u ∈ L, u ∈ L') {v : Vec} (hv : Sp m L v) : Sp m L' v := by
  obtain ⟨M, hM, rfl⟩ := hv
  exact ⟨M, fun u hu => h u (hM u hu), rfl⟩

def Low (n b : Nat) : Prop := n.testBit b = true ∧ ∀ j, j < b → n.testBit j = false
theorem Low.uniq {n b c : Nat} (h : Low n b) (k : Low n c) : b = c := by
  rcases Nat.lt_trichotomy b c with h1 | h1 | h1
  · have := k.2 b h1; rw [h.1] at this; cases this
  · exact h1
  · have := h.2 c h1; rw [k.1] at this; cases this
theorem first_or_none (P : Nat → Prop) : ∀ n, (∀ j, j < n → ¬ P j) ∨ ∃ b, b < n ∧ P b ∧ ∀ j, j < b → ¬ P j
  | 0 => .inl fun j hj => absurd hj (Nat.not_lt_zero _)
  | n + 1 => by
    rcases first_or_none P n with h | ⟨b, hb, hp, hl⟩
    · by_cases hn : P n
      · exact .inr ⟨n, by omega, hn, h⟩
      · exact .inl fun j hj => by
          by_cases e : j = n
          · subst e; exact hn
          · exact h j (by omega)
    · exact .inr ⟨b, by omega, hp, hl⟩
theorem low_ex {n k : Nat} (h : n ≠ 0) (hk : n < 2 ^ k) : ∃ b, b < k ∧ Low n b := by
  rcases first_or_none (fun j => n.testBit j = true) k with h1 | ⟨b, hb, hp, hl⟩
  · exfalso; apply h
    apply Nat.eq_of_testBit_eq
    intro i
    rw [Nat.zero_testBit]
    by_cases hi : i < k
    · simpa using h1 i hi
    · exact Nat.testBit_lt_two_pow (Nat.lt_of_lt_of_le hk (Nat.pow_le_pow_right (by omega) (by omega)))
  · exact ⟨b, hb, hp, fun j hj => by simpa using hl j hj⟩

structure TI (m k : Nat) (T : Nat → Option Vec) : Prop where
  lt : ∀ b x, T b = some x → b < k
  low : ∀ b x, T b = some x → Low x.1 b
  bits : ∀ b x, T b = some x → x.1 < 2 ^ k
  len : ∀ b x, T b = some x → x.2.length = m
def rowsT (T : Nat → Option Vec) (k : Nat) : List Vec := (List.range k).filterMap T
theorem mem_rowsT {T : Nat → Option Vec} {k : Nat} {u : Vec} : u ∈ rowsT T k ↔ ∃ b, b < k ∧ T b = some u := by
  unfold rowsT; rw [List.mem_filterMap]; simp
theorem TI.wf {m k : Nat} {T : Nat → Option Vec} (h : TI m k T) : Wf m (rowsT T k) := fun u hu => by
  obtain ⟨b, _, hb⟩ := mem_rowsT.1 hu
  exact h.len b u hb
def comb (m : Nat) (T : Nat → Option Vec) (c : Nat → Bool) : Nat → Vec
  | 0 => vz m
  | b + 1 => match c b, T b with
    | true, some x => vx (comb m T c b) x
    | _, _ => comb m T c b
theorem comb_take {m : Nat} {T : Nat → Option Vec} {c : Nat → Bool} {b : Nat} {x : Vec} (h : c b = true) (h2 : T b = some x) : comb m T c (b + 1) = vx (comb m T c b) x := by rw [comb, h, h2]
theorem comb_no {m : Nat} {T : Nat → Option Vec} {c : Nat → Bool} {b : Nat} (h : c b = false) : comb m T c (b + 1) = comb m T c b := by rw [comb, h]
theorem comb_none {m : Nat} {T : Nat → Option Vec} {c : Nat → Bool} {b : Nat} (h : T b = none) : comb m T c (b + 1) = comb m T c b := by rw [comb, h]; cases c b <;> rfl
theorem comb_len {m k : Nat} {T : Nat → Option Vec} (hT : TI m k T) (c : Nat → Bool) : ∀ n, (comb m T c n).2.length = m
  | 0 => noughts_len m
  | n + 1 => by
    cases hc : c n with
    | false => rw [comb_no hc]; exact comb_len hT c n
    | true =>
      cases ht : T n with
      | none => rw [comb_none ht]; exact comb_len hT c n
      | some x => rw [comb_take hc ht]; exact vx_len (comb_len hT c n) (hT.len n x ht)
theorem comb_zero {m : Nat} {T : Nat → Option Vec} {c : Nat → Bool} : ∀ n, (∀ j, j < n → ¬ (c j = true ∧ T j ≠ none)) → comb m T c n = vz m
  | 0, _ => rfl
  | n + 1, h => by
    have ih := comb_zero (m := m) n (fun j hj => h j (by omega))
    cases hc : c n with
    | false => rw [comb_no hc]; exact ih
    | true =>
      cases ht : T n with
      | none => rw [comb_none ht]; exact ih
      | some x => exact absurd ⟨hc, by rw [ht]; simp⟩ (h n (by omega))
theorem comb_low {m k : Nat} {T : Nat → Option Vec} (hT : TI m k T) {c : Nat → Bool} {b : Nat} {x : Vec} (hc : c b = true) (hx : T b = some x) (hl : ∀ j, j < b → ¬ (c j = true ∧ T j ≠ none)) : ∀ n, b < n → Low (comb m T c n).1 b
  | 0, h => by omega
  | n + 1, h => by
    have lx := hT.low b x hx
    by_cases e : b = n
    · subst e
      rw [comb_take hc hx, comb_zero _ hl]
      exact ⟨by rw [vx_bit, vz_bit, lx.1]; rfl, fun j hj => by rw [vx_bit, vz_bit, lx.2 j hj]; rfl⟩
    · have ih := comb_low hT hc hx hl n (by omega)
      cases hcn : c n with
      | false => rw [comb_no hcn]; exact ih
      | true =>
        cases ht : T n with
        | none => rw [comb_none ht]; exact ih
        | some y =>
          have ly := hT.low n y ht
          rw [comb_take hcn ht]
          exact ⟨by rw [vx_bit, ih.1, ly.2 b (by omega)]; rfl, fun j hj => by rw [vx_bit, ih.2 j hj, ly.2 j (by omega)]; rfl⟩
theorem comb_congr {m : Nat} {T : Nat → Option Vec} {c d : Nat → Bool} : ∀ n, (∀ j, j < n → c j = d j) → comb m T c n = comb m T d n
  | 0, _ => rfl
  | n + 1, h => by
    have ih := comb_congr (m := m) (T := T) n (fun j hj => h j (by omega))
    have hn := h n (by omega)
    rw [comb, comb, ih, hn]
theorem comb_flip {m k : Nat} {T : Nat → Option Vec} (hT : TI m k T) {c : Nat → Bool} {b : Nat} {x : Vec} (hx : T b = some x) : ∀ n, b < n → comb m T (fun j => if j = b then !c b else c j) n = vx x (comb m T c n)
  | 0, h => by omega
  | n + 1, h => by
    have hxl := hT.len b x hx
    by_cases e : b = n
    · subst e
      have e1 : ∀ v : Bool, comb m T (fun j => if j = b then v else c j) b = comb m T c b := fun v => comb_congr b fun j hj => if_neg (by omega)
      have hl := comb_len hT c b
      cases hc : c b with
      | false =>
        rw [comb_take (x := x) (by simp) hx, comb_no hc, e1, vx_comm]
      | true =>
        rw [comb_no (by simp), comb_take hc hx, e1, vx_comm x, vx_cancel hl hxl]
    · have ih := comb_flip hT (c := c) hx n (by omega)
      have hn : (fun j => if j = b then !c b else c j) n = c n := if_neg (fun h => e h.symm)
      cases hcn : c n with
      | false => rw [comb_no (hn.trans hcn), comb_no hcn]; exact ih
      | true =>
        cases ht : T n with
        | none => rw [comb_none ht, comb_none ht]; exact ih
        | some y => rw [comb_take (hn.trans hcn) ht, comb_take hcn ht, ih, vx_assoc]
theorem sp_comb {m k : Nat} {T : Nat → Option Vec} (hT : TI m k T) {u : Vec} (h : Sp m (rowsT T k) u) : ∃ c, u = comb m T c k := by
  obtain ⟨M, hM, rfl⟩ := h
  induction M with
  | nil => exact ⟨fun _ => false, (comb_zero k (by simp)).symm⟩
  | cons v M ih =>
    obtain ⟨c, hc⟩ := ih fun x hx => hM x (List.mem_cons_of_mem _ hx)
    obtain ⟨b, hb, hv⟩ := mem_rowsT.1 (hM v (List.mem_cons_self ..))
    refine ⟨fun j => if j = b then !c b else c j, ?_⟩
    show vx v (sumV m M) = _
    rw [hc]
    exact (comb_flip hT hv k hb).symm
theorem sp_none {m k : Nat} {T : Nat → Option Vec} (hT : TI m k T) {u : Vec} (h : Sp m (rowsT T k) u) (hb : ∀ b, T b ≠ none → u.1.testBit b = false) : u = vz m := by
  obtain ⟨c, rfl⟩ := sp_comb hT h
  rcases first_or_none (fun j => c j = true ∧ T j ≠ none) k with h1 | ⟨b, hbk, ⟨hc, ht⟩, hl⟩
  · exact comb_zero k h1
  · cases hx : T b with
    | none => exact absurd hx ht
    | some x =>
      have := (comb_low hT hc hx hl k hbk).1
      rw [hb b ht] at this; cases this
theorem sp_lead {m k : Nat} {T : Nat → Option Vec} (hT : TI m k T) {u : Vec} (h : Sp m (rowsT T k) u) (hu : u.1 ≠ 0) : ∃ b, T b ≠ none ∧ Low u.1 b := by
  obtain ⟨c, rfl⟩ := sp_comb hT h
  rcases first_or_none (fun j => c j = true ∧ T j ≠ none) k with h1 | ⟨b, hbk, ⟨hc, ht⟩, hl⟩
  · rw [comb_zero k h1] at hu; exact absurd rfl hu
  · cases hx : T b with
    | none => exact absurd hx ht
    | some x => exact ⟨b, ht, comb_low hT hc hx hl k hbk⟩

def leftTo (T : Nat → Option Vec) (v : Vec) : Nat → Vec
  | 0 => v
  | b + 1 => match (leftTo T v b).1.testBit b, T b with
    | true, some x => vx (leftTo T v b) x
    | _, _ => leftTo T v b
theorem leftTo_take {T : Nat → Option Vec} {v : Vec} {b : Nat} {x : Vec} (h : (leftTo T v b).1.testBit b = true) (h2 : T b = some x) : leftTo T v (b + 1) = vx (leftTo T v b) x := by rw [leftTo, h, h2]
theorem leftTo_no {T : Nat → Option Vec} {v : Vec} {b : Nat} (h : (leftTo T v b).1.testBit b = false) : leftTo T v (b + 1) = leftTo T v b := by rw [leftTo, h]
theorem leftTo_none {T : Nat → Option Vec} {v : Vec} {b : Nat} (h : T b = none) : leftTo T v (b + 1) = leftTo T v b := by rw [leftTo, h]; cases (leftTo T v b).1.testBit b <;> rfl
theorem leftTo_bits {m k : Nat} {T : Nat → Option Vec} (hT : TI m k T) (v : Vec) : ∀ n b, b < n → T b ≠ none → (leftTo T v n).1.testBit b = false
  | 0, b, h, _ => by omega
  | n + 1, b, h, hb => by
    by_cases e : b = n
    · subst e
      cases ht : T b with
      | none => exact absurd ht hb
      | some x =>
        cases hc : (leftTo T v b).1.testBit b with
        | false => rw [leftTo_no hc]; exact hc
        | true => rw [leftTo_take hc ht, vx_bit, hc, (hT.low b x ht).1]; rfl
    · have ih := leftTo_bits hT v n b (by omega) hb
      cases hc : (leftTo T v n).1.testBit n with
      | false => rw [leftTo_no hc]; exact ih
      | true =>
        cases ht : T n with
        | none => rw [leftTo_none ht]; exact ih
        | some x => rw [leftTo_take hc ht, vx_bit, ih, (hT.low n x ht).2 b (by omega)]; rfl
theorem leftTo_sp {m k : Nat} {T : Nat → Option Vec} (hT : TI m k T) {v : Vec} (hv : v.2.length = m) : ∀ n, ∃ s, Sp m (rowsT T k) s ∧ leftTo T v n = vx v s
  | 0 => ⟨vz m, Sp.zero _ _, (vx_zero hv).symm⟩
  | n + 1 => by
    obtain ⟨s, hs, he⟩ := leftTo_sp hT hv n
    cases hc : (leftTo T v n).1.testBit n with
    | false => rw [leftTo_no hc]; exact ⟨s, hs, he⟩
    | true =>
      cases ht : T n with
      | none => rw [leftTo_none ht]; exact ⟨s, hs, he⟩
      | some x => exact ⟨vx s x, Sp.over hT.wf hs (Sp.mem hT.wf (mem_rowsT.2 ⟨n, hT.lt n x ht, ht⟩)), by rw [leftTo_take hc ht, he, vx_assoc]⟩
theorem leftTo_lt {m k : Nat} {T : Nat → Option Vec} (hT : TI m k T) {v : Vec} (hv : v.1 < 2 ^ k) : ∀ n, (leftTo T v n).1 < 2 ^ k
  | 0 => hv
  | n + 1 => by
    have ih := leftTo_lt hT hv n
    cases hc : (leftTo T v n).1.testBit n with
    | false => rw [leftTo_no hc]; exact ih
    | true =>
      cases ht : T n with
      | none => rw [leftTo_none ht]; exact ih
      | some x => rw [leftTo_take hc ht]; exact Nat.xor_lt_two_pow ih (hT.bits n x ht)
theorem leftTo_len {m k : Nat} {T : Nat → Option Vec} (hT : TI m k T) {v : Vec} (hv : v.2.length = m) (n : Nat) : (leftTo T v n).2.length = m := by
  obtain ⟨s, hs, he⟩ := leftTo_sp hT hv n
  rw [he]; exact vx_len hv (Sp.len hT.wf hs)
theorem left_iff {m k : Nat} {T : Nat → Option Vec} (hT : TI m k T) {v : Vec} (hv : v.2.length = m) : leftTo T v k = vz m ↔ Sp m (rowsT T k) v := by
  obtain ⟨s, hs, he⟩ := leftTo_sp hT hv k
  have hsl := Sp.len hT.wf hs
  constructor
  · intro h
    rw [he] at h
    have e : v = s := by
      have := vx_cancel hv hsl
      rw [h, vx_comm, vx_zero hsl] at this
      exact this.symm
    rw [e]; exact hs
  · intro h
    refine sp_none hT (by rw [he]; exact Sp.over hT.wf h hs) (fun b hb => ?_)
    by_cases hbk : b < k
    · exact leftTo_bits hT v k b hbk hb
    · cases hx : T b with
      | none => exact absurd hx hb
      | some x => exact absurd (hT.lt b x hx) hbk
def insT (T : Nat → Option Vec) (b : Nat) (r : Vec) : Nat → Option Vec := fun j => if j = b then some r else T j

structure St (m k : Nat) (T : Nat → Option Vec) (L : List Vec) : Prop where
  ti : TI m k T
  wf : Wf m L
  sp : ∀ u, Sp m (rowsT T k) u ↔ Sp m L u
theorem St.nil (m k : Nat) : St m k (fun _ => none) [] :=
  ⟨⟨fun _ _ h => (by cases h), fun _ _ h => (by cases h), fun _ _ h => (by cases h), fun _ _ h => (by cases h)⟩, fun _ h => (by simp at h), fun u => by
    have e : rowsT (fun _ => none) k = [] := by unfold rowsT; simp
    rw [e]⟩
theorem wf_snoc {m : Nat} {L : List Vec} {v : Vec} (h : Wf m L) (hv : v.2.length = m) : Wf m (L ++ [v]) := fun u hu => by
  rcases List.mem_append.1 hu with hu | hu
  · exact h u hu
  · rw [List.mem_singleton] at hu; subst hu; exact hv
theorem St.same {m k : Nat} {T : Nat → Option Vec} {L : List Vec} (h : St m k T L) {v : Vec} (hv : v.2.length = m) (hl : leftTo T v k = vz m) : St m k T (L ++ [v]) := by
  refine ⟨h.ti, wf_snoc h.wf hv, fun u => ?_⟩
  rw [h.sp]
  constructor
  · exact Sp.mono fun x hx => List.mem_append_left _ hx
  · refine Sp.sub h.wf fun x hx => ?_
    rcases List.mem_append.1 hx with hx | hx
    · exact Sp.mem h.wf hx
    · rw [List.mem_singleton] at hx; subst hx; rw [← h.sp]; exact (left_iff h.ti hv).1 hl
theorem left_low_none {m k : Nat} {T : Nat → Option Vec} (hT : TI m k T) {v : Vec} {b : Nat} (hb : b < k) (hl : Low (leftTo T v k).1 b) : T b = none := by
  cases hx : T b with
  | none => rfl
  | some x =>
    have := leftTo_bits hT v k b hb (by rw [hx]; simp)
    rw [hl.1] at this; cases this
theorem St.ins {m k : Nat} {T : Nat → Option Vec} {L : List Vec} (h : St m k T L) {v : Vec} (hv : v.2.length = m) (hk : v.1 < 2 ^ k) {b : Nat} (hb : b < k) (hl : Low (leftTo T v k).1 b) :
    St m k (insT T b (leftTo T v k)) (L ++ [v]) := by
  have hT := h.ti
  have hn := left_low_none hT hb hl
  have hlen := leftTo_len hT hv k
  obtain ⟨s, hs, he⟩ := leftTo_sp hT hv k
  have hTi : TI m k (insT T b (leftTo T v k)) := by
    refine ⟨fun j x hx => ?_, fun j x hx => ?_, fun j x hx => ?_, fun j x hx => ?_⟩ <;>
    · unfold insT at hx
      by_cases e : j = b
      · rw [if_pos e] at hx; cases hx; subst e
        first | exact hb | exact hl | exact leftTo_lt hT hk k | exact hlen
      · rw [if_neg e] at hx
        first | exact hT.lt j x hx | exact hT.low j x hx | exact hT.bits j x hx | exact hT.len j x hx
  have hwf := wf_snoc h.wf hv
  have hold : ∀ u, Sp m (rowsT T k) u → Sp m (rowsT (insT T b (leftTo T v k)) k) u := fun u hu => Sp.mono (fun x hx => by
    obtain ⟨j, hj, hjx⟩ := mem_rowsT.1 hx
    refine mem_rowsT.2 ⟨j, hj, ?_⟩
    unfold insT
    rw [if_neg (by rintro rfl; rw [hn] at hjx; cases hjx)]; exact hjx) hu
  refine ⟨hTi, hwf, fun u => ⟨Sp.sub hwf fun x hx => ?_, Sp.sub hTi.wf fun x hx => ?_⟩⟩
  · obtain ⟨j, hj, hjx⟩ := mem_rowsT.1 hx
    unfold insT at hjx
    by_cases e : j = b
    · rw [if_pos e] at hjx; cases hjx
      rw [he]
      exact Sp.over hwf (Sp.mem hwf (List.mem_append_right _ (List.mem_singleton.2 rfl))) (Sp.mono (fun y hy => List.mem_append_left _ hy) ((h.sp s).1 hs))
    · rw [if_neg e] at hjx
      exact Sp.mono (fun y hy => List.mem_append_left _ hy) ((h.sp x).1 (Sp.mem hT.wf (mem_rowsT.2 ⟨j, hj, hjx⟩)))
  · rcases List.mem_append.1 hx with hx | hx
    · exact hold x ((h.sp x).2 (Sp.mem h.wf hx))
    · rw [List.mem_singleton] at hx; subst hx
      have e : x = vx (leftTo T x k) s := by rw [he, vx_cancel hv (Sp.len hT.wf hs)]
      have h2 : Sp m (rowsT (insT T b (leftTo T x k)) k) (vx (leftTo T x k) s) := Sp.over hTi.wf (Sp.mem hTi.wf (mem_rowsT.2 ⟨b, hb, if_pos rfl⟩)) (hold s hs)
      rwa [← e] at h2
def NoClash (m : Nat) (L : List Vec) : Prop := ∀ u, Sp m L u → u.1 = 0 → u.2 = noughts m
theorem St.noClash {m k : Nat} {T : Nat → Option Vec} {L : List Vec} (h : St m k T L) : NoClash m L := fun u hu h0 => by
  have := sp_none h.ti ((h.sp u).2 hu) (fun b _ => by rw [h0]; exact Nat.zero_testBit b)
  rw [this]; rfl
theorem St.clash {m k : Nat} {T : Nat → Option Vec} {L : List Vec} (h : St m k T L) {v : Vec} (hv : v.2.length = m) (h0 : (leftTo T v k).1 = 0) (h1 : (leftTo T v k).2 ≠ noughts m) (M : List Vec) : ¬ NoClash m (L ++ [v] ++ M) := fun hn => by
  obtain ⟨s, hs, he⟩ := leftTo_sp h.ti hv k
  have hwf := wf_snoc h.wf hv
  have h2 : Sp m (L ++ [v]) (leftTo T v k) := by
    rw [he]
    exact Sp.over hwf (Sp.mem hwf (List.mem_append_right _ (List.mem_singleton.2 rfl))) (Sp.mono (fun y hy => List.mem_append_left _ hy) ((h.sp s).1 hs))
  exact h1 (hn _ (Sp.mono (fun y hy => List.mem_append_left _ hy) h2) h0)
def Lead (m : Nat) (L : List Vec) (b : Nat) : Prop := ∃ u, Sp m L u ∧ Low u.1 b
theorem St.lead {m k : Nat} {T : Nat → Option Vec} {L : List Vec} (h : St m k T L) (b : Nat) : T b ≠ none ↔ Lead m L b := by
  constructor
  · intro hb
    cases hx : T b with
    | none => exact absurd hx hb
    | some x => exact ⟨x, (h.sp x).1 (Sp.mem h.ti.wf (mem_rowsT.2 ⟨b, h.ti.lt b x hx, hx⟩)), h.ti.low b x hx⟩
  · rintro ⟨u, hu, hl⟩
    have hne : u.1 ≠ 0 := by intro e; rw [e] at hl; have := hl.1; rw [Nat.zero_testBit] at this; cases this
    obtain ⟨c, hc, hlc⟩ := sp_lead h.ti ((h.sp u).2 hu) hne
    rw [Low.uniq hl hlc]; exact hc
end Go.Proofs.YtcpookgbneoilaaGreatDoor

namespace Go.Proofs.YtcpookgbneoilaaGreatDoor

def lowA (n : Nat) : Nat → Nat → Nat
  | 0, b => b
  | f + 1, b => if n.testBit b = true then b else lowA n f (b + 1)
def lowI (n : Nat) : Nat := lowA n 64 0
theorem lowA_eq {n c : Nat} (h : Low n c) : ∀ f b, b ≤ c → c < b + f → lowA n f b = c
  | 0, b, h1, h2 => by omega
  | f + 1, b, h1, h2 => by
    unfold lowA
    by_cases e : b = c
    · subst e; rw [if_pos h.1]
    · rw [if_neg (by rw [h.2 b (by omega)]; simp)]
      exact lowA_eq h f (b + 1) (by omega) (by omega)
theorem lowI_low {n k : Nat} (h : n ≠ 0) (hk : n < 2 ^ k) (h64 : k ≤ 64) : Low n (lowI n) ∧ lowI n < k := by
  obtain ⟨b, hb, hl⟩ := low_ex h hk
  have e : lowI n = b := lowA_eq hl 64 0 (by omega) (by omega)
  rw [e]; exact ⟨hl, hb⟩
def addT (k : Nat) (T : Nat → Option Vec) (v : Vec) : Nat → Option Vec := if (leftTo T v k).1 = 0 then T else insT T (lowI (leftTo T v k).1) (leftTo T v k)
def rsT (k : Nat) (T : Nat → Option Vec) (v : Vec) : Bool := decide ((leftTo T v k).1 ≠ 0)
def rnkT (T : Nat → Option Vec) : Nat → Nat
  | 0 => 0
  | b + 1 => rnkT T b + (if (T b).isSome = true then 1 else 0)
theorem rnkT_le (T : Nat → Option Vec) : ∀ k, rnkT T k ≤ k
  | 0 => Nat.le_refl _
  | k + 1 => by have := rnkT_le T k; unfold rnkT; split <;> omega
theorem rnkT_congr {T U : Nat → Option Vec} : ∀ {k : Nat}, (∀ b, b < k → (T b).isSome = (U b).isSome) → rnkT T k = rnkT U k
  | 0, _ => rfl
  | k + 1, h => by unfold rnkT; rw [rnkT_congr fun b hb => h b (by omega), h k (by omega)]
theorem rnkT_full {T : Nat → Option Vec} : ∀ {k : Nat}, rnkT T k = k → ∀ b, b < k → (T b).isSome = true
  | 0, _, b, hb => by omega
  | k + 1, h, b, hb => by
    have hl := rnkT_le T k
    unfold rnkT at h
    split at h
    · rename_i hk
      by_cases e : b = k
      · subst e; exact hk
      · exact rnkT_full (k := k) (by omega) b (by omega)
    · omega
theorem rnkT_all {T : Nat → Option Vec} : ∀ {k : Nat}, (∀ b, b < k → (T b).isSome = true) → rnkT T k = k
  | 0, _ => rfl
  | k + 1, h => by unfold rnkT; rw [rnkT_all fun b hb => h b (by omega), if_pos (h k (by omega))]
theorem rnkT_none : ∀ k, rnkT (fun _ => none) k = 0
  | 0 => rfl
  | k + 1 => by unfold rnkT; rw [rnkT_none k]; rfl
theorem rnkT_ins {T : Nat → Option Vec} {b : Nat} {r : Vec} (hn : T b = none) : ∀ {k : Nat}, rnkT (insT T b r) k = rnkT T k + if b < k then 1 else 0
  | 0 => by rw [if_neg (by omega)]; rfl
  | k + 1 => by
    have ih := rnkT_ins (T := T) (b := b) (r := r) hn (k := k)
    unfold rnkT
    rw [ih]
    by_cases e : k = b
    · subst e
      have h1 : (insT T k r k).isSome = true := by unfold insT; rw [if_pos rfl]; rfl
      rw [if_neg (by omega), if_pos h1, if_neg (by rw [hn]; simp), if_pos (by omega)]
    · have h1 : (insT T b r k).isSome = (T k).isSome := by unfold insT; rw [if_neg e]
      rw [h1]
      by_cases hb : b < k
      · rw [if_pos hb, if_pos (show b < k + 1 by omega)]; omega
      · rw [if_neg hb, if_neg (show ¬ b < k + 1 by omega)]; omega
theorem St.addT {m k : Nat} {T : Nat → Option Vec} {L : List Vec} (h : St m k T L) (h64 : k ≤ 64) {v : Vec} (hv : v.2.length = m) (hk : v.1 < 2 ^ k) (hok : (leftTo T v k).1 = 0 → (leftTo T v k).2 = noughts m) : St m k (addT k T v) (L ++ [v]) := by
  unfold Go.Proofs.YtcpookgbneoilaaGreatDoor.addT
  by_cases h0 : (leftTo T v k).1 = 0
  · rw [if_pos h0]
    exact h.same hv (Prod.ext h0 (hok h0))
  · rw [if_neg h0]
    obtain ⟨hl, hb⟩ := lowI_low h0 (leftTo_lt h.ti hk k) h64
    exact h.ins hv hk hb hl
theorem rnk_addT {m k : Nat} {T : Nat → Option Vec} {L : List Vec} (h : St m k T L) (h64 : k ≤ 64) {v : Vec} (hk : v.1 < 2 ^ k) : rnkT (addT k T v) k = rnkT T k + if rsT k T v = true then 1 else 0 := by
  unfold Go.Proofs.YtcpookgbneoilaaGreatDoor.addT rsT
  by_cases h0 : (leftTo T v k).1 = 0
  · rw [if_pos h0, if_neg (by simp [h0])]; omega
  · rw [if_neg h0, if_pos (by simp [h0])]
    obtain ⟨hl, hb⟩ := lowI_low h0 (leftTo_lt h.ti hk k) h64
    rw [rnkT_ins (left_low_none h.ti hb hl), if_pos hb]
def tabT (k : Nat) (L : List Vec) : Nat → Option Vec := L.foldl (addT k) (fun _ => none)
theorem tabT_snoc (k : Nat) (L : List Vec) (v : Vec) : tabT k (L ++ [v]) = addT k (tabT k L) v := by unfold tabT; rw [List.foldl_append]; rfl
def Bare (k : Nat) (L : List Vec) : Prop := ∀ v ∈ L, v.2 = [] ∧ v.1 < 2 ^ k
theorem Bare.snoc {k : Nat} {L : List Vec} {v : Vec} (h : Bare k L) (h1 : v.2 = []) (h2 : v.1 < 2 ^ k) : Bare k (L ++ [v]) := fun u hu => by
  rcases List.mem_append.1 hu with hu | hu
  · exact h u hu
  · rw [List.mem_singleton.1 hu]; exact ⟨h1, h2⟩
theorem Bare.init {k : Nat} {L : List Vec} {v : Vec} (h : Bare k (L ++ [v])) : Bare k L ∧ v.2 = [] ∧ v.1 < 2 ^ k :=
  ⟨fun u hu => h u (List.mem_append_left _ hu), h v (List.mem_append_right _ (List.mem_singleton.2 rfl))⟩
theorem len_zero {l : List UInt8} (h : l.length = 0) : l = noughts 0 := by
  cases l with
  | nil => rfl
  | cons a l => simp at h
theorem st_tab {k : Nat} (h64 : k ≤ 64) : ∀ (n : Nat) (L : List Vec), L.length = n → Bare k L → St 0 k (tabT k L) L
  | 0, L, hn, _ => by rw [List.length_eq_zero_iff.1 hn]; exact St.nil 0 k
  | n + 1, L, hn, h => by
    obtain ⟨M, v, rfl⟩ : ∃ M v, L = M ++ [v] := by
      have hne : L ≠ [] := by rintro rfl; simp at hn
      exact ⟨L.dropLast, L.getLast hne, (List.dropLast_concat_getLast hne).symm⟩
    obtain ⟨h1, h2, h3⟩ := h.init
    have ih := st_tab h64 n M (by rw [List.length_append, List.length_singleton] at hn; omega) h1
    rw [tabT_snoc]
    exact ih.addT h64 (by rw [h2]; rfl) h3 (fun _ => len_zero (leftTo_len ih.ti (by rw [h2]; rfl) k))
theorem tab_st {k : Nat} (h64 : k ≤ 64) {L : List Vec} (h : Bare k L) : St 0 k (tabT k L) L := st_tab h64 _ L rfl h
def rk (k : Nat) (L : List Vec) : Nat := rnkT (tabT k L) k
def raises (k : Nat) (L : List Vec) (v : Vec) : Bool := rsT k (tabT k L) v
theorem rk_nil (k : Nat) : rk k [] = 0 := rnkT_none k
theorem rk_snoc {k : Nat} (h64 : k ≤ 64) {L : List Vec} {v : Vec} (h : Bare k L) (hk : v.1 < 2 ^ k) : rk k (L ++ [v]) = rk k L + if raises k L v = true then 1 else 0 := by
  unfold rk raises; rw [tabT_snoc]; exact rnk_addT (tab_st h64 h) h64 hk
theorem rk_le (k : Nat) (L : List Vec) : rk k L ≤ k := rnkT_le _ k
theorem rk_append {k : Nat} (h64 : k ≤ 64) {L : List Vec} : ∀ (n : Nat) (M : List Vec), M.length = n → Bare k (L ++ M) → rk k L ≤ rk k (L ++ M) ∧ rk k (L ++ M) ≤ rk k L + M.length
  | 0, M, hn, _ => by rw [List.length_eq_zero_iff.1 hn, List.append_nil]; exact ⟨Nat.le_refl _, Nat.le_add_right _ _⟩
  | n + 1, M, hn, h => by
    obtain ⟨N, v, rfl⟩ : ∃ N v, M = N ++ [v] := by
      have hne : M ≠ [] := by rintro rfl; simp at hn
      exact ⟨M.dropLast, M.getLast hne, (List.dropLast_concat_getLast hne).symm⟩
    rw [← List.append_assoc] at h ⊢
    obtain ⟨h1, h2, h3⟩ := h.init
    have ih := rk_append h64 n N (by rw [List.length_append, List.length_singleton] at hn; omega) h1
    rw [rk_snoc h64 h1 h3, List.length_append, List.length_singleton]
    split <;> omega
theorem rk_len {k : Nat} (h64 : k ≤ 64) {L : List Vec} (h : Bare k L) : rk k L ≤ L.length := by
  have := (rk_append h64 (L := []) _ L rfl (by simpa using h)).2
  rw [List.nil_append, rk_nil] at this; omega
theorem rk_sp {k : Nat} (h64 : k ≤ 64) {L M : List Vec} (hL : Bare k L) (hM : Bare k M) (h : ∀ b, Lead 0 L b ↔ Lead 0 M b) : rk k L = rk k M := by
  unfold rk
  refine rnkT_congr fun b hb => ?_
  have h1 := (tab_st h64 hL).lead b
  have h2 := (tab_st h64 hM).lead b
  have h3 := h b
  cases e1 : tabT k L b <;> cases e2 : tabT k M b <;> simp_all
def unit (b : Nat) : Vec := (2 ^ b, [])
theorem unit_low (b : Nat) : Low (unit b).1 b := ⟨Nat.testBit_two_pow_self, fun j hj => by
  show (2 ^ b).testBit j = false
  rw [Nat.testBit_two_pow]; simp; omega⟩
theorem unit_lt {b k : Nat} (h : b < k) : (unit b).1 < 2 ^ k := Nat.pow_lt_pow_right (by omega) h
theorem rk_units {k : Nat} (h64 : k ≤ 64) {L : List Vec} (hL : Bare k L) (h : ∀ b, b < k → Sp 0 L (unit b)) : rk k L = k := by
  unfold rk
  refine rnkT_all fun b hb => ?_
  have := ((tab_st h64 hL).lead b).2 ⟨unit b, h b hb, unit_low b⟩
  cases e : tabT k L b with
  | none => exact absurd e this
  | some x => rfl
theorem Bare.wf {k : Nat} {L : List Vec} (h : Bare k L) : Wf 0 L := fun u hu => by rw [(h u hu).1]; rfl
theorem raises_iff {k : Nat} (h64 : k ≤ 64) {L : List Vec} (hL : Bare k L) {v : Vec} (hv : v.2 = []) : raises k L v = false ↔ Sp 0 L v := by
  have hs := tab_st h64 hL
  have hv0 : v.2.length = 0 := by rw [hv]; rfl
  rw [← hs.sp v, ← left_iff hs.ti hv0]
  unfold raises rsT
  constructor
  · intro h
    have h0 : (leftTo (tabT k L) v k).1 = 0 := by simpa using h
    exact Prod.ext h0 (len_zero (leftTo_len hs.ti hv0 k))
  · intro h
    rw [h]; simp [vz]
end Go.Proofs.YtcpookgbneoilaaGreatDoor

namespace Go.Proofs.YtcpookgbneoilaaGreatDoor
open Go.ChangeShapes Go.WideShapes Go.ChangeAt Go.RowKit Go.Maps

def rowV (x : Vec) : Value := .agg #[.int .u64 x.1, .string (S x.2)]
def rowElem : Value → Option (DataW Unit × List MemPlace)
  | .agg cs => match cs.toList with
    | [.int q n, .string s] => some (.agg [.lit (.int q n), .lit (.string s.data.toList)], [])
    | _ => none
  | _ => none
theorem rowElem_mk (q : IntKind) (n : Int) (s : ByteArray) : rowElem (.agg #[.int q n, .string s]) = some (.agg [.lit (.int q n), .lit (.string s.data.toList)], []) := rfl
theorem rowElem_inv {v : Value} {z : DataW Unit × List MemPlace} (h : rowElem v = some z) : ∃ q n s, v = .agg #[.int q n, .string s] ∧ z = (.agg [.lit (.int q n), .lit (.string s.data.toList)], []) := by
  unfold rowElem at h
  split at h
  · rename_i cs
    split at h
    · rename_i q n s he
      injection h with h
      exact ⟨q, n, s, by rw [← he], h.symm⟩
    · cases h
  · cases h
theorem rowCodec : Codec rowElem := ⟨fun u v d p q h1 h2 => by
  obtain ⟨q1, n1, s1, rfl, e1⟩ := rowElem_inv h1
  obtain ⟨q2, n2, s2, rfl, e2⟩ := rowElem_inv h2
  injection e1 with e1 _
  injection e2 with e2 _
  rw [e1] at e2
  injection e2 with e2
  injection e2 with e3 e4
  injection e4 with e4 _
  injection e3 with e3
  injection e3 with e5 e6
  injection e4 with e4
  injection e4 with e4
  subst e5
  subst e6
  have : s1 = s2 := by
    cases s1 with | mk d1 => cases s2 with | mk d2 => exact congrArg ByteArray.mk (Array.ext' e4)
  rw [this]⟩
def bitP (i : Nat) : Nat := 2 ^ i
theorem bitP_lt {i : Nat} (h : i < 63) : bitP i < 9223372036854775808 := Nat.pow_lt_pow_right (by omega) h
theorem bitP_succ (i : Nat) : bitP (i + 1) = 2 * bitP i := by unfold bitP; rw [Nat.pow_succ, Nat.mul_comm]
theorem bitP_pos (i : Nat) : 0 < bitP i := Nat.pow_pos (by omega)
theorem wf_pow (i : Nat) (h : i < 63) : (Lit.int .u64 (bitP i : Int)).wf = true := by
  have h2 := bitP_lt h
  simp [Lit.wf, IntKind.min, IntKind.max, IntKind.signed, IntKind.bits]
  omega

structure TabAt (w : World) (p b k : Nat) (T : Nat → Option Vec) : Prop where
  cell : w.cell? ⟨p, 0, none⟩ = some (.map (some b))
  free : w.frozen? ⟨p, 0, none⟩ = false
  ne : p ≠ b
  map : ∃ f, MapF Tryz.prog 109 .u64 rowElem b (rnkT T k) f w ∧ ∀ i, i < 63 → f (bitP i : Int) = (T i).map rowV
theorem TabAt.lt {w : World} {p b k : Nat} {T : Nat → Option Vec} (h : TabAt w p b k T) : p < w.heap.size ∧ b < w.heap.size := by
  obtain ⟨f, hm, _⟩ := h.map
  have := World.block_lt_of_cell? _ _ h.cell
  exact ⟨this, hm.lt⟩
theorem TabAt.fr {w w' : World} {Sf : Nat → Prop} {p b k : Nat} {T : Nat → Option Vec} (h : TabAt w p b k T) (hf : Fr Sf w w') (hp : ¬ Sf p) (hb : ¬ Sf b) : TabAt w' p b k T := by
  obtain ⟨f, hm, h2⟩ := h.map
  exact ⟨hf.cell_at h.cell hp, hf.free_at h.lt.1 h.free hp, h.ne, f, hm.fr hf hb, h2⟩
theorem TabAt.keep {w w' : World} {p b k : Nat} {T : Nat → Option Vec} (h : TabAt w p b k T) (hb : Lat w w') : TabAt w' p b k T := h.fr (Sf := fun _ => False) (Fr.lat hb) (fun e => e) (fun e => e)

theorem u_uint : Tryz.prog.underlying 109 = some (.int .u64) := by kernel_rfl
theorem u_map : Tryz.prog.underlying 140 = some (.map 109 112) := by kernel_rfl
theorem zero_row (w : World) : (zeroValue 112).run Tryz.prog w = .ok (.agg #[.int .u64 0, .string .empty]) w := by kernel_rfl

theorem TabAt.look_ok {w : World} {p b k : Nat} {T : Nat → Option Vec} (h : TabAt w p b k T) (i : Nat) (hi : i < 63) :
    (Instr.lookup 140 (.map (some b)) (.int .u64 (bitP i : Int)) true).run Tryz.prog w = .ok (.tuple #[((T i).map rowV).getD (.agg #[.int .u64 0, .string .empty]), .bool (T i).isSome]) w := by
  obtain ⟨f, hm, h2⟩ := h.map
  have := hm.look_ok rowCodec u_uint u_map (zero_row w) (rowElem_mk _ _ _) _ (wf_pow i hi)
  rw [h2 i hi] at this
  rw [this]
  cases T i <;> rfl
theorem TabAt.look {w : World} {p b k : Nat} {T : Nat → Option Vec} (h : TabAt w p b k T) (i : Nat) (hi : i < 63) :
    (Instr.lookup 140 (.map (some b)) (.int .u64 (bitP i : Int)) false).run Tryz.prog w = .ok (((T i).map rowV).getD (.agg #[.int .u64 0, .string .empty])) w := by
  obtain ⟨f, hm, h2⟩ := h.map
  have := hm.look rowCodec u_uint u_map (zero_row w) (rowElem_mk _ _ _) _ (wf_pow i hi)
  rw [h2 i hi] at this
  rw [this]
theorem TabAt.len {w : World} {p b k : Nat} {T : Nat → Option Vec} (h : TabAt w p b k T) (ty : TypeId) : (Builtin.len_ #[140] ty #[.map (some b)]).run Tryz.prog w = .ok (.int .i64 (rnkT T k)) w := by
  obtain ⟨f, hm, _⟩ := h.map
  exact hm.len u_map ty
theorem pow_inj {i j : Nat} (h : (bitP i : Int) = (bitP j : Int)) : i = j := by
  have h2 : bitP i = bitP j := by omega
  exact Nat.pow_right_inj (Nat.le_refl 2) |>.1 h2
theorem TabAt.store {w : World} {p b k : Nat} {T : Nat → Option Vec} (h : TabAt w p b k T) (hk : k ≤ 16) (i : Nat) (hi : i < k) (hn : T i = none) (x : Vec) :
    ∃ w', (Instr.mapUpdate 140 (.map (some b)) (.int .u64 (bitP i : Int)) (rowV x)).run Tryz.prog w = .ok () w' ∧ TabAt w' p b k (insT T i x) ∧ Fr (fun j => j = b) w w' := by
  obtain ⟨f, hm, h2⟩ := h.map
  have hr := rnkT_le T k
  obtain ⟨w', hrun, hm2, hf⟩ := hm.store u_uint u_map (by omega) _ (wf_pow i (by omega)) (val := rowV x) (rowElem_mk _ _ _)
  have hfi := h2 i (by omega)
  rw [hn] at hfi
  rw [hfi] at hm2
  have hrk : rnkT (insT T i x) k = rnkT T k + 1 := by rw [rnkT_ins hn, if_pos hi]
  refine ⟨w', hrun, ⟨hf.cell_at h.cell h.ne, hf.free_at h.lt.1 h.free h.ne, h.ne, _, by rw [hrk]; simpa using hm2, fun j hj => ?_⟩, hf⟩
  unfold updF insT
  by_cases e : j = i
  · subst e; rw [if_pos rfl, if_pos rfl]; rfl
  · rw [if_neg (fun h => e (pow_inj h)), if_neg e]; exact h2 j hj
end Go.Proofs.YtcpookgbneoilaaGreatDoor

namespace Go.Proofs.YtcpookgbneoilaaGreatDoor

def lowB (n : Nat) : Bool := Nat.beq (Nat.land n (18446744073709551616 - n)) (Nat.pow 2 (lowI n))
def lowAll : Nat → Nat → Bool
  | 0, _ => true
  | m + 1, s => lowB s && lowAll m (s + 1)
theorem lowAll_at : ∀ m s, lowAll m s = true → ∀ n, s ≤ n → n < s + m → lowB n = true
  | 0, s, _, n, h1, h2 => by omega
  | m + 1, s, h, n, h1, h2 => by
    unfold lowAll at h
    rw [Bool.and_eq_true] at h
    by_cases e : n = s
    · subst e; exact h.1
    · exact lowAll_at m (s + 1) h.2 n (by omega) (by omega)
theorem lowAll0 : lowAll 4095 1 = true := by decide +kernel
theorem lowAll1 : lowAll 4096 4096 = true := by decide +kernel
theorem lowAll2 : lowAll 4096 8192 = true := by decide +kernel
theorem lowAll3 : lowAll 4096 12288 = true := by decide +kernel
theorem lowAll4 : lowAll 4096 16384 = true := by decide +kernel
theorem lowAll5 : lowAll 4096 20480 = true := by decide +kernel
theorem lowAll6 : lowAll 4096 24576 = true := by decide +kernel
theorem lowAll7 : lowAll 4096 28672 = true := by decide +kernel
theorem lowAll8 : lowAll 4096 32768 = true := by decide +kernel
theorem lowAll9 : lowAll 4096 36864 = true := by decide +kernel
theorem lowAll10 : lowAll 4096 40960 = true := by decide +kernel
theorem lowAll11 : lowAll 4096 45056 = true := by decide +kernel
theorem lowAll12 : lowAll 4096 49152 = true := by decide +kernel
theorem lowAll13 : lowAll 4096 53248 = true := by decide +kernel
theorem lowAll14 : lowAll 4096 57344 = true := by decide +kernel
theorem lowAll15 : lowAll 4096 61440 = true := by decide +kernel
theorem low_and (n : Nat) (h0 : n ≠ 0) (hn : n < 65536) : n &&& (18446744073709551616 - n) = 2 ^ lowI n := by
  have key : lowB n = true := by
    by_cases c0 : n < 4096
    · exact lowAll_at _ _ lowAll0 n (by omega) (by omega)
    by_cases c1 : n < 8192
    · exact lowAll_at _ _ lowAll1 n (by omega) (by omega)
    by_cases c2 : n < 12288
    · exact lowAll_at _ _ lowAll2 n (by omega) (by omega)
    by_cases c3 : n < 16384
    · exact lowAll_at _ _ lowAll3 n (by omega) (by omega)
    by_cases c4 : n < 20480
    · exact lowAll_at _ _ lowAll4 n (by omega) (by omega)
    by_cases c5 : n < 24576
    · exact lowAll_at _ _ lowAll5 n (by omega) (by omega)
    by_cases c6 : n < 28672
    · exact lowAll_at _ _ lowAll6 n (by omega) (by omega)
    by_cases c7 : n < 32768
    · exact lowAll_at _ _ lowAll7 n (by omega) (by omega)
    by_cases c8 : n < 36864
    · exact lowAll_at _ _ lowAll8 n (by omega) (by omega)
    by_cases c9 : n < 40960
    · exact lowAll_at _ _ lowAll9 n (by omega) (by omega)
    by_cases c10 : n < 45056
    · exact lowAll_at _ _ lowAll10 n (by omega) (by omega)
    by_cases c11 : n < 49152
    · exact lowAll_at _ _ lowAll11 n (by omega) (by omega)
    by_cases c12 : n < 53248
    · exact lowAll_at _ _ lowAll12 n (by omega) (by omega)
    by_cases c13 : n < 57344
    · exact lowAll_at _ _ lowAll13 n (by omega) (by omega)
    by_cases c14 : n < 61440
    · exact lowAll_at _ _ lowAll14 n (by omega) (by omega)
    by_cases c15 : n < 65536
    · exact lowAll_at _ _ lowAll15 n (by omega) (by omega)
    omega
  exact Nat.eq_of_beq_eq_true key
end Go.Proofs.YtcpookgbneoilaaGreatDoor

namespace Go.Proofs.YtcpookgbneoilaaGreatDoor
open Go.ChangeShapes Go.WideShapes Go.ChangeAt Go.RowKit

def bitsTo (zs : List Int) : Nat → Nat
  | 0 => 0
  | j + 1 => bitsTo zs j ||| bitP (zs.getD j 0).toNat
def bitsN (zs : List Int) : Nat := bitsTo zs zs.length
theorem bitsTo_lt (zs : List Int) (k : Nat) (hz : ∀ z ∈ zs, 0 ≤ z ∧ z < k) : ∀ j, j ≤ zs.length → bitsTo zs j < 2 ^ k
  | 0, _ => Nat.pow_pos (by omega)
  | j + 1, hj => by
    have h := hz _ (getD_mem zs j (by omega))
    exact Nat.or_lt_two_pow (bitsTo_lt zs k hz j (by omega)) (Nat.pow_lt_pow_right (by omega) (by omega))

theorem bits_xor_u64_nat (a b : Nat) (ha : a < 9223372036854775808) (hb : b < 9223372036854775808) : bits .xor .u64 (a : Int) (b : Int) = ((a ^^^ b : Nat) : Int) := by
  have hx : a ^^^ b < 2 ^ 63 := Nat.xor_lt_two_pow (by omega) (by omega)
  show IntKind.u64.wrap ((BitVec.ofInt 64 (a : Int) ^^^ BitVec.ofInt 64 (b : Int)).toNat : Int) = _
  rw [BitVec.toNat_xor, ofInt_nat a ha, ofInt_nat b hb]
  exact IntWalk.u64_in _ (by omega)
theorem wrap_pow (z : Nat) (h : z < 63) : IntKind.u64.wrap ((2 : Int) ^ z) = (bitP z : Int) := by
  have h2 := bitP_lt h
  have h3 : (2 : Int) ^ z = (bitP z : Int) := by unfold bitP; exact (Int.natCast_pow 2 z).symm
  rw [h3]; exact IntWalk.u64_in _ (by omega)
theorem low_run (n : Nat) (h0 : n ≠ 0) (hn : n < 65536) : bits .and .u64 (n : Int) (IntKind.u64.wrap (-(n : Int))) = (bitP (lowI n) : Int) := by
  have h1 : IntKind.u64.wrap (-(n : Int)) = ((18446744073709551616 - n : Nat) : Int) := by rw [IntKind.wrap_u64]; omega
  rw [h1, bits_and_u64_nat _ _ (by omega) (by omega), low_and n h0 hn]; rfl
set_option maxRecDepth 100000 in
theorem bits_any (a : Option Addr) (n cap : Nat) (zs : List Int) (w : World) (h : IntsAt w a n cap zs) (hz : ∀ z ∈ zs, 0 ≤ z ∧ z < 16) :
    Calls Tryz.prog 52 #[.slice a n cap] w fun e w' => e = .returned (.int .u64 (bitsN zs)) ∧ w = w' := by
  have hcap2 := h.row.cap
  have hle2 := h.row.le
  unfold maxLen at hcap2
  have hlt := fun j hj => bitsTo_lt zs 16 hz j hj
  have hl := h.len
  rw [hl] at hlt
  have hfin : bitsN zs = bitsTo zs n := by unfold bitsN; rw [hl]
  have H := Lib.hid h; have HZ := Lib.hid hz; have HLT := Lib.hid hlt; have HFIN := Lib.hid hfin
  clear h hz hl hlt hfin
  go_enter Tryz.func52, Tryz.ntmps52
  go_wp2
  go_loop [3, 5, 8] (fun o _ i => ∃ k : Nat, k ≤ n ∧ i = .int .i64 k ∧ o = .int .u64 (bitsTo zs k)) (fun _ _ i => n - (intOf i).toNat)
  case atStart => exact ⟨0, Nat.zero_le _, rfl, rfl⟩
  case round =>
    obtain ⟨k, hk, rfl, rfl⟩ := hrel
    by_cases hlt : k < n
    · obtain ⟨b, o, rfl, hc⟩ := H.out.row.at_ (by omega)
      have c1 := hc k hlt
      have hm := HZ.out _ (getD_mem zs k (by rw [H.out.len]; exact hlt))
      obtain ⟨z, hzd⟩ : ∃ z : Nat, zs.getD k 0 = (z : Int) := ⟨(zs.getD k 0).toNat, by omega⟩
      rw [hzd] at c1 hm
      have hz16 : z < 16 := by omega
      have hst : bitsTo zs (k + 1) = bitsTo zs k ||| bitP z := by rw [bitsTo, hzd, Int.toNat_natCast]
      have hb1 : bitsTo zs k < 65536 := HLT.out k (by omega)
      obtain ⟨B, hB⟩ : ∃ B, B = bitsTo zs k := ⟨_, rfl⟩
      rw [← hB] at hst hb1 ⊢
      have HST := Lib.hid hst
      clear hc hzd hst hB hm
      have hw := wrap_pow z (by omega)
      have hbz : bitP z < 65536 := Nat.pow_lt_pow_right (by omega) hz16
      have ho := bits_or_u64_nat B (bitP z) (by omega) (by omega)
      have HW := Lib.hid hw; have HO := Lib.hid ho
      clear hw ho hbz
      go_wp2
      go_round
      case rel => exact ⟨k + 1, by omega, by go_num, by rw [HW.out, HO.out, HST.out]⟩
      case measure => simp [intOf]; omega
    · obtain rfl : k = n := by omega
      go_wp2
      go_ret
      exact ⟨by show Ending.returned (.int .u64 (bitsTo zs k : Int)) = _; rw [HFIN.out], rfl⟩
set_option maxRecDepth 100000 in
theorem low_any (n : Nat) (w : World) (h0 : n ≠ 0) (hn : n < 65536) :
    Calls Tryz.prog 76 #[.int .u64 n] w fun e w' => e = .returned (.int .u64 (bitP (lowI n))) ∧ w = w' := by
  have HR := Lib.hid (low_run n h0 hn)
  clear h0
  go_enter Tryz.func76, Tryz.ntmps76
  go_wp2
  go_ret
  exact ⟨by show Ending.returned (.int .u64 (bits .and .u64 (n : Int) (IntKind.u64.wrap (-(n : Int))))) = _; rw [HR.out], rfl⟩
set_option maxRecDepth 100000 in
theorem newTable_any (k : Nat) (w : World) :
    Calls Tryz.prog 50 #[] w fun e w' => (∃ p b, e = .returned (.pointer (some ⟨p, 0, none⟩)) ∧ w.heap.size ≤ p ∧ w.heap.size ≤ b ∧ TabAt w' p b k (fun _ => none)) ∧ Lat w w' := by
  have hmm := @run_makeMap Tryz.prog
  have hm0 := MapF.made w Tryz.prog 109 .u64 rowElem
  have ht : TabAt ((w.alloc (.map #[] 0)).alloc (.cells #[.map (some w.heap.size)] 142)) (w.heap.size + 1) w.heap.size k (fun _ => none) :=
    ⟨by rw [World.cell?_alloc_at _ _ _ _ (by simp)]; rfl, by
      have hh := heap_alloc_new (w.alloc (.map #[] 0)) (.cells #[.map (some w.heap.size)] 142)
      rw [World.size_alloc] at hh
      unfold World.frozen?
      rw [hh]; rfl, by omega, _, by rw [rnkT_none]; exact hm0.keep (Lat.alloc _ _), fun _ _ => rfl⟩
  have HT := Lib.hid ht
  clear ht hm0
  go_enter Tryz.func50, Tryz.ntmps50
  go_wp2
  go_ret
  exact ⟨⟨_, _, rfl, Nat.le_succ _, Nat.le_refl _, HT.out⟩, Lat.trans (Lat.alloc _ _) (Lat.alloc _ _)⟩
set_option maxRecDepth 100000 in
theorem rank_tab (p b k : Nat) (T : Nat → Option Vec) (w : World) (h : TabAt w p b k T) :
    Calls Tryz.prog 53 #[.pointer (some ⟨p, 0, none⟩)] w fun e w' => e = .returned (.int .i64 (rnkT T k)) ∧ w = w' := by
  have hc := h.cell
  have hlen := fun ty => h.len ty
  obtain ⟨r, hr⟩ : ∃ r, r = rnkT T k := ⟨_, rfl⟩
  rw [← hr] at hlen ⊢
  clear h hr
  go_enter Tryz.func53, Tryz.ntmps53
  go_wp2
  go_ret
  exact ⟨rfl, rfl⟩
end Go.Proofs.YtcpookgbneoilaaGreatDoor

namespace Go.Proofs.YtcpookgbneoilaaGreatDoor

theorem Bare.append {k : Nat} {L M : List Vec} (h : Bare k L) (h2 : Bare k M) : Bare k (L ++ M) := fun v hv => by
  rcases List.mem_append.1 hv with hv | hv
  · exact h v hv
  · exact h2 v hv
theorem Bare.nil (k : Nat) : Bare k [] := fun v hv => by cases hv
theorem Bare.take {k : Nat} {L : List Vec} (h : Bare k L) (i : Nat) : Bare k (L.take i) := fun v hv => h v (List.mem_of_mem_take hv)
theorem bare_units {k : Nat} (l : List Nat) (h : ∀ i ∈ l, i < k) : Bare k (l.map unit) := fun v hv => by
  obtain ⟨i, hi, rfl⟩ := List.mem_map.1 hv
  exact ⟨rfl, unit_lt (h i hi)⟩
def lackL (k : Nat) (L : List Vec) : Nat → List Nat
  | 0 => []
  | i + 1 => if raises k (L ++ (List.range i).map unit) (unit i) = true then lackL k L i ++ [i] else lackL k L i
theorem lackL_lt (k : Nat) (L : List Vec) : ∀ i, ∀ j ∈ lackL k L i, j < i
  | 0, j, h => by cases h
  | i + 1, j, h => by
    unfold lackL at h
    split at h
    · rcases List.mem_append.1 h with h | h
      · have := lackL_lt k L i j h; omega
      · have := List.mem_singleton.1 h; omega
    · have := lackL_lt k L i j h; omega
theorem units_snoc (i : Nat) : (List.range (i + 1)).map unit = (List.range i).map unit ++ [unit i] := by rw [List.range_succ, List.map_append]; rfl
theorem bare_range {k i : Nat} (h : i ≤ k) : Bare k ((List.range i).map unit) := bare_units _ fun j hj => by have := List.mem_range.1 hj; omega
theorem lackL_len {k : Nat} (h64 : k ≤ 64) {L : List Vec} (h : Bare k L) : ∀ i, i ≤ k → (lackL k L i).length + rk k L = rk k (L ++ (List.range i).map unit)
  | 0, _ => by simp [lackL]
  | i + 1, hi => by
    have ih := lackL_len h64 h i (by omega)
    rw [units_snoc, ← List.append_assoc, rk_snoc h64 (h.append (bare_range (by omega))) (unit_lt (by omega)), ← ih]
    have e : lackL k L (i + 1) = if raises k (L ++ (List.range i).map unit) (unit i) = true then lackL k L i ++ [i] else lackL k L i := rfl
    rw [e]
    by_cases hr : raises k (L ++ (List.range i).map unit) (unit i) = true
    · rw [if_pos hr, if_pos hr, List.length_append, List.length_singleton]; omega
    · rw [if_neg hr, if_neg hr]; omega
theorem rk_range {k : Nat} (h64 : k ≤ 64) {L : List Vec} (h : Bare k L) : rk k (L ++ (List.range k).map unit) = k := by
  have hb := h.append (bare_range (Nat.le_refl k))
  refine rk_units h64 hb fun b hlt => Sp.mem hb.wf (List.mem_append_right _ (List.mem_map.2 ⟨b, List.mem_range.2 hlt, rfl⟩))
theorem lack_len {k : Nat} (h64 : k ≤ 64) {L : List Vec} (h : Bare k L) : (lackL k L k).length + rk k L = k := by
  rw [lackL_len h64 h k (Nat.le_refl _), rk_range h64 h]
theorem lack_fills {k : Nat} (h64 : k ≤ 64) {L : List Vec} (h : Bare k L) : ∀ i, i ≤ k → ∀ j, j < i → Sp 0 (L ++ (lackL k L i).map unit) (unit j)
  | 0, _, j, hj => by omega
  | i + 1, hi, j, hj => by
    have ih := lack_fills h64 h i (by omega)
    have hbi : Bare k (L ++ (lackL k L i).map unit) := h.append (bare_units _ fun x hx => by have := lackL_lt k L i x hx; omega)
    have hbi1 : Bare k (L ++ (lackL k L (i + 1)).map unit) := h.append (bare_units _ fun x hx => by have := lackL_lt k L (i + 1) x hx; omega)
    have hsub : ∀ v, Sp 0 (L ++ (lackL k L i).map unit) v → Sp 0 (L ++ (lackL k L (i + 1)).map unit) v := fun v hv => Sp.mono (fun x hx => by
      rcases List.mem_append.1 hx with hx | hx
      · exact List.mem_append_left _ hx
      · refine List.mem_append_right _ ?_
        obtain ⟨y, hy, rfl⟩ := List.mem_map.1 hx
        refine List.mem_map.2 ⟨y, ?_, rfl⟩
        unfold lackL
        split
        · exact List.mem_append_left _ hy
        · exact hy) hv
    by_cases e : j = i
    · subst e
      cases hr : raises k (L ++ (List.range j).map unit) (unit j) with
      | true =>
        refine Sp.mem hbi1.wf (List.mem_append_right _ (List.mem_map.2 ⟨j, ?_, rfl⟩))
        unfold lackL
        rw [if_pos hr]; exact List.mem_append_right _ (List.mem_singleton.2 rfl)
      | false =>
        have hsp := (raises_iff h64 (h.append (bare_range (show j ≤ k by omega))) (v := unit j) rfl).1 hr
        refine hsub _ (Sp.sub hbi.wf (fun u hu => ?_) hsp)
        rcases List.mem_append.1 hu with hu | hu
        · exact Sp.mem hbi.wf (List.mem_append_left _ hu)
        · obtain ⟨y, hy, rfl⟩ := List.mem_map.1 hu
          exact ih y (List.mem_range.1 hy)
    · exact hsub _ (ih j (by omega))
theorem rk_filled {k : Nat} (h64 : k ≤ 64) {L : List Vec} (h : Bare k L) : rk k (L ++ (lackL k L k).map unit) = k :=
  rk_units h64 (h.append (bare_units _ fun x hx => lackL_lt k L k x hx)) (lack_fills h64 h k (Nat.le_refl _))
def newL (k : Nat) (L : List Vec) : Nat → List Nat
  | 0 => []
  | i + 1 => if raises k (L.take i) (L.getD i (0, [])) = true then newL k L i ++ [i] else newL k L i
theorem take_snocV (L : List Vec) (i : Nat) (h : i < L.length) : L.take (i + 1) = L.take i ++ [L.getD i (0, [])] := by
  rw [List.take_succ_eq_append_getElem h, List.getD_eq_getElem?_getD, List.getElem?_eq_getElem h]; rfl
theorem getD_bits {k : Nat} {L : List Vec} (h : Bare k L) (i : Nat) (hi : i < L.length) : (L.getD i (0, [])).2 = [] ∧ (L.getD i (0, [])).1 < 2 ^ k := by
  rw [List.getD_eq_getElem?_getD, List.getElem?_eq_getElem hi]; exact h _ (List.getElem_mem hi)
theorem newL_len {k : Nat} (h64 : k ≤ 64) {L : List Vec} (h : Bare k L) : ∀ i, i ≤ L.length → (newL k L i).length = rk k (L.take i)
  | 0, _ => by rw [List.take_zero, rk_nil]; rfl
  | i + 1, hi => by
    have ih := newL_len h64 h i (by omega)
    rw [take_snocV L i (by omega), rk_snoc h64 (h.take i) (getD_bits h i (by omega)).2, ← ih]
    have e : newL k L (i + 1) = if raises k (L.take i) (L.getD i (0, [])) = true then newL k L i ++ [i] else newL k L i := rfl
    rw [e]
    by_cases hr : raises k (L.take i) (L.getD i (0, [])) = true
    · rw [if_pos hr, if_pos hr, List.length_append, List.length_singleton]
    · rw [if_neg hr, if_neg hr]; omega
theorem rk_take_mono {k : Nat} (h64 : k ≤ 64) {L : List Vec} (h : Bare k L) {i j : Nat} (hij : i ≤ j) : rk k (L.take i) ≤ rk k (L.take j) := by
  have e : L.take j = L.take i ++ (L.drop i).take (j - i) := by
    rw [← List.take_add, show i + (j - i) = j by omega]
  have hb := h.take j
  rw [e] at hb ⊢
  exact (rk_append h64 _ _ rfl hb).1
def fstA (k : Nat) (L : List Vec) : Nat → Nat → Nat
  | 0, _ => 0
  | f + 1, i => if rk k (L.take (i + 1)) = k then i + 1 else fstA k L f (i + 1)
theorem fstA_ne {k : Nat} {L : List Vec} : ∀ f i, fstA k L f i ≠ 0 → rk k (L.take (fstA k L f i)) = k ∧ i < fstA k L f i ∧ fstA k L f i ≤ i + f ∧ ∀ j, i ≤ j → j + 1 < fstA k L f i → rk k (L.take (j + 1)) ≠ k
  | 0, i, h => absurd rfl h
  | f + 1, i, h => by
    unfold fstA at h ⊢
    by_cases e : rk k (L.take (i + 1)) = k
    · rw [if_pos e] at h ⊢
      exact ⟨e, by omega, by omega, fun j h1 h2 => by omega⟩
    · rw [if_neg e] at h ⊢
      obtain ⟨h1, h2, h3, h4⟩ := fstA_ne f (i + 1) h
      refine ⟨h1, by omega, by omega, fun j hj hj2 => ?_⟩
      by_cases ej : j = i
      · subst ej; exact e
      · exact h4 j (by omega) hj2
theorem fstA_zero {k : Nat} {L : List Vec} : ∀ f i, fstA k L f i = 0 → ∀ j, i ≤ j → j < i + f → rk k (L.take (j + 1)) ≠ k
  | 0, i, _, j, h1, h2 => by omega
  | f + 1, i, h, j, h1, h2 => by
    unfold fstA at h
    by_cases e : rk k (L.take (i + 1)) = k
    · rw [if_pos e] at h; omega
    · rw [if_neg e] at h
      by_cases ej : j = i
      · subst ej; exact e
      · exact fstA_zero f (i + 1) h j (by omega) (by omega)
def fstN (k : Nat) (L : List Vec) : Nat := fstA k L L.length 0
theorem fst_iff {k : Nat} (h64 : k ≤ 64) (hk : 1 ≤ k) {L : List Vec} (h : Bare k L) : fstN k L ≠ 0 ↔ rk k L = k := by
  constructor
  · intro hn
    obtain ⟨h1, _, h3, _⟩ := fstA_ne _ _ hn
    have h2 := rk_take_mono h64 h (i := fstN k L) (j := L.length) (by unfold fstN; omega)
    rw [List.take_length] at h2
    have h4 : rk k (L.take (fstN k L)) = k := h1
    have := rk_le k L
    omega
  · intro hr hn
    have hl : L.length ≠ 0 := fun e => by
      rw [List.length_eq_zero_iff.1 e, rk_nil] at hr; omega
    have := fstA_zero _ _ hn (L.length - 1) (by omega) (by omega)
    rw [show L.length - 1 + 1 = L.length by omega, List.take_length] at this
    exact this hr
end Go.Proofs.YtcpookgbneoilaaGreatDoor

namespace Go.Proofs.YtcpookgbneoilaaGreatDoor

def Ext (K K' : Kn) : Prop := ∀ z b, K z = some b → K' z = some b
theorem xorL_swap3 (d b c : Bts) : xorL (xorL d b) c = xorL (xorL d c) b := by rw [xorL_assoc, xorL_assoc, xorL_comm b c]
theorem ovK_swap (K K' : Kn) (d : Bts) (y z : Int) : ovK K (ovK K' d z) y = ovK K' (ovK K d y) z := by
  unfold ovK
  cases K y <;> cases K' z <;> first | rfl | exact xorL_swap3 _ _ _
theorem fold_swap (K K' : Kn) (z : Int) : ∀ (l : List Int) (d : Bts), l.foldl (ovK K) (ovK K' d z) = ovK K' (l.foldl (ovK K) d) z
  | [], _ => rfl
  | y :: l, d => by
    rw [List.foldl_cons, List.foldl_cons, ovK_swap]
    exact fold_swap K K' z l _
theorem fold_twice {K K' : Kn} (h : Ext K K') : ∀ (l : List Int) (d : Bts), (l.filter (unkn K)).foldl (ovK K') (l.foldl (ovK K) d) = l.foldl (ovK K') d
  | [], _ => rfl
  | z :: l, d => by
    rw [List.foldl_cons, List.foldl_cons]
    cases hz : K z with
    | some b =>
      have hu : unkn K z = false := by unfold unkn; rw [hz]; rfl
      have h1 : ovK K d z = xorL d b := by unfold ovK; rw [hz]
      have h2 : ovK K' d z = xorL d b := by unfold ovK; rw [h z b hz]
      rw [List.filter_cons_of_neg (by rw [hu]; decide), h1, h2]
      exact fold_twice h l _
    | none =>
      have hu : unkn K z = true := by unfold unkn; rw [hz]; rfl
      have h1 : ovK K d z = d := by unfold ovK; rw [hz]
      rw [List.filter_cons_of_pos hu, List.foldl_cons, h1, fold_swap, fold_swap, fold_twice h l]
theorem unkn_ext {K K' : Kn} (h : Ext K K') (z : Int) (hz : unkn K' z = true) : unkn K z = true := by
  unfold unkn at *
  cases hk : K z with
  | none => rfl
  | some b => rw [h z b hk] at hz; cases hz
theorem filter_twice {K K' : Kn} (h : Ext K K') (l : List Int) : (l.filter (unkn K)).filter (unkn K') = l.filter (unkn K') := by
  rw [List.filter_filter]
  refine List.filter_congr fun z _ => ?_
  cases hz : unkn K' z with
  | false => rfl
  | true => rw [unkn_ext h z hz]; rfl
theorem wout_twice {K K' : Kn} (h : Ext K K') (x : Wt) : wout K' (wout K x) = wout K' x := by
  unfold wout
  rw [fold_twice h, filter_twice h]
theorem some1_ext {K K' : Kn} (h : Ext K K') (x : Wt) (hx : some1 (wout K' x) = true) : some1 (wout K x) = true := by
  unfold some1 wout at *
  have h1 := of_decide_eq_true hx
  refine decide_eq_true ?_
  obtain ⟨z, hz⟩ := List.length_pos_iff_exists_mem.1 h1
  obtain ⟨hm, hu⟩ := List.mem_filter.1 hz
  exact List.length_pos_iff_exists_mem.2 ⟨z, List.mem_filter.2 ⟨hm, unkn_ext h z hu⟩⟩
theorem leftW_cons (K : Kn) (x : Wt) (L : List Wt) : leftW K (x :: L) = if some1 (wout K x) = true then wout K x :: leftW K L else leftW K L := by
  unfold leftW
  rw [List.map_cons, List.filter_cons]
theorem leftW_append (K : Kn) (L M : List Wt) : leftW K (L ++ M) = leftW K L ++ leftW K M := by
  unfold leftW
  rw [List.map_append, List.filter_append]
theorem leftW_twice {K K' : Kn} (h : Ext K K') : ∀ L : List Wt, leftW K' (leftW K L) = leftW K' L
  | [] => rfl
  | x :: L => by
    rw [leftW_cons K, leftW_cons K']
    by_cases h1 : some1 (wout K x) = true
    · rw [if_pos h1, leftW_cons, wout_twice h, leftW_twice h L]
    · rw [if_neg h1, if_neg (fun e => h1 (some1_ext h x e)), leftW_twice h L]
theorem Ext.refl (K : Kn) : Ext K K := fun _ _ h => h
theorem Ext.trans {K K' K'' : Kn} (h : Ext K K') (k : Ext K' K'') : Ext K K'' := fun z b e => k z b (h z b e)
theorem Ext.upd {K : Kn} {z : Int} (h : K z = none) (b : Bts) : Ext K (updK K z b) := fun y c e => by
  unfold updK
  rw [if_neg (fun e2 => by rw [e2, h] at e; cases e)]; exact e

theorem filter_one {α : Type} {p q : α → Bool} : ∀ {l : List α} {a : α}, l.Nodup → a ∈ l → q a = true → p a = false → (∀ x, x ≠ a → p x = q x) → (l.filter p).length + 1 = (l.filter q).length
  | [], a, _, h, _, _, _ => by cases h
  | x :: r, a, hn, h, hq, hp, hs => by
    obtain ⟨hx, hr⟩ := List.nodup_cons.1 hn
    rw [List.filter_cons, List.filter_cons]
    by_cases e : x = a
    · subst e
      have hc : r.filter p = r.filter q := List.filter_congr fun y hy => hs y fun e => hx (e ▸ hy)
      rw [hq, hp, hc]; simp
    · have ih := filter_one hr ((List.mem_cons.1 h).resolve_left fun e2 => e e2.symm) hq hp hs
      rw [hs x e]
      cases q x <;> simp <;> omega
theorem unkC_upd1 {k : Nat} {K : Kn} {z : Int} (b : Bts) (hz : 0 ≤ z ∧ z < (k : Int)) (hn : K z = none) : unkC (updK K z b) k + 1 = unkC K k := by
  unfold unkC
  refine filter_one (a := z.toNat) List.nodup_range (List.mem_range.2 (by omega)) ?_ ?_ fun x hx => ?_
  · unfold unkn; rw [Int.toNat_of_nonneg hz.1, hn]; rfl
  · unfold unkn updK; rw [Int.toNat_of_nonneg hz.1, if_pos rfl]; rfl
  · unfold unkn updK
    rw [if_neg (fun e => hx (by omega))]
inductive ClP (Ds : List Wt) : Int → Prop where
  | step (x : Wt) (z : Int) : x ∈ Ds → z ∈ x.1 → (∀ y ∈ x.1, y ≠ z → ClP Ds y) → ClP Ds z
theorem ClP.mono {Ds Es : List Wt} (h : ∀ x ∈ Ds, x ∈ Es) {z : Int} (hz : ClP Ds z) : ClP Es z := by
  induction hz with
  | step x z hx hm _ ih => exact .step x z (h x hx) hm ih
def ovB (B : Int → Bts) (d : Bts) (z : Int) : Bts := xorL d (B z)
theorem ovB_swap (B : Int → Bts) (z : Int) : ∀ (l : List Int) (d : Bts), l.foldl (ovB B) (ovB B d z) = ovB B (l.foldl (ovB B) d) z
  | [], _ => rfl
  | y :: l, d => by
    rw [List.foldl_cons, List.foldl_cons, show ovB B (ovB B d z) y = ovB B (ovB B d y) z from xorL_swap3 _ _ _]
    exact ovB_swap B z l _
theorem ovB_len {B : Int → Bts} {m : Nat} : ∀ (l : List Int) (d : Bts), (∀ z ∈ l, (B z).length = m) → d.length = m → (l.foldl (ovB B) d).length = m
  | [], _, _, h => h
  | z :: l, d, hB, h => ovB_len l _ (fun y hy => hB y (List.mem_cons_of_mem _ hy)) (by unfold ovB; rw [xorL_length _ _ (by rw [h, hB z (List.mem_cons_self ..)])]; exact h)
theorem fold_right {K : Kn} {B : Int → Bts} {m : Nat} (hK : ∀ z b, K z = some b → b = B z) : ∀ (l : List Int) (d : Bts), (∀ z ∈ l, (B z).length = m) → d.length = m → l.foldl (ovK K) (l.foldl (ovB B) d) = (l.filter (unkn K)).foldl (ovB B) d
  | [], _, _, _ => rfl
  | z :: l, d, hB, hd => by
    have hBz := hB z (List.mem_cons_self ..)
    have hBl : ∀ y ∈ l, (B y).length = m := fun y hy => hB y (List.mem_cons_of_mem _ hy)
    rw [List.foldl_cons, List.foldl_cons]
    cases hz : K z with
    | some b =>
      have hu : unkn K z = false := by unfold unkn; rw [hz]; rfl
      have h1 : ∀ e, ovK K e z = xorL e (B z) := fun e => by unfold ovK; rw [hz]; show xorL e b = _; rw [hK z b hz]
      rw [List.filter_cons_of_neg (by rw [hu]; decide), h1, ovB_swap]
      show l.foldl (ovK K) (xorL (xorL (l.foldl (ovB B) d) (B z)) (B z)) = _
      rw [xorL_back _ _ (by rw [ovB_len l d hBl hd, hBz])]
      exact fold_right hK l d hBl hd
    | none =>
      have hu : unkn K z = true := by unfold unkn; rw [hz]; rfl
      have h1 : ∀ e, ovK K e z = e := fun e => by unfold ovK; rw [hz]
      rw [List.filter_cons_of_pos hu, List.foldl_cons, h1]
      exact fold_right hK l _ hBl (by unfold ovB; rw [xorL_length _ _ (by rw [hd, hBz])]; exact hd)

structure DOk (k m : Nat) (B : Int → Bts) (Ds : List Wt) : Prop where
  of : ∀ x ∈ Ds, ∀ z ∈ x.1, 0 ≤ z ∧ z < (k : Int)
  len : ∀ z : Int, 0 ≤ z → z < (k : Int) → (B z).length = m
  dif : ∀ x ∈ Ds, x.1.Nodup
  eq : ∀ x ∈ Ds, x.2 = x.1.foldl (ovB B) (noughts m)
structure PI (k m : Nat) (B : Int → Bts) (Ds : List Wt) (K : Kn) (L : List Wt) : Prop where
  left : leftW K L = leftW K Ds
  just : ∀ z, K z ≠ none → ClP Ds z
  val : ∀ z b, K z = some b → 0 ≤ z ∧ z < (k : Int) ∧ b = B z
theorem learn_law {k m : Nat} {B : Int → Bts} {Ds : List Wt} (hD : DOk k m B Ds) : ∀ (f : Nat) (K : Kn) (L : List Wt) (out : List Int), PI k m B Ds K L → unkC K k < f →
    PI k m B Ds (learnF f K L out).1 (learnF f K L out).2.1 ∧ (learnF f K L out).2.1 = leftW (learnF f K L out).1 Ds ∧ (∀ x ∈ (learnF f K L out).2.1, x.1.length ≠ 1) ∧ Ext K (learnF f K L out).1 ∧ (learnF f K L out).2.2.length + unkC (learnF f K L out).1 k = out.length + unkC K k
  | 0, _, _, _, _, h => absurd h (Nat.not_lt_zero _)
  | f + 1, K, L, out, h, hf => by
    cases hq : (leftW K L).find? one1 with
    | none =>
      have e : learnF (f + 1) K L out = (K, leftW K L, out) := by rw [learnF, hq]
      rw [e]
      refine ⟨⟨by show leftW K (leftW K L) = _; rw [leftW_twice (Ext.refl K)]; exact h.left, h.just, h.val⟩, h.left, fun x hx hl => ?_, Ext.refl K, rfl⟩
      have := List.find?_eq_none.1 hq x hx
      exact this (decide_eq_true hl)
    | some x =>
      have e : learnF (f + 1) K L out = learnF f (updK K (x.1.headD 0) x.2) (leftW K L) (out ++ [x.1.headD 0]) := by rw [learnF, hq]
      obtain ⟨hxm, z, hz, hKz⟩ := leftW_one hq
      rw [e, hz]
      simp only [List.headD_cons]
      rw [h.left] at hxm
      obtain ⟨y, hy, rfl⟩ := List.mem_map.1 (List.mem_filter.1 hxm).1
      have hzf : z ∈ y.1.filter (unkn K) := by
        have : (wout K y).1 = y.1.filter (unkn K) := rfl
        rw [← this, hz]; exact List.mem_singleton.2 rfl
      have hzy := (List.mem_filter.1 hzf).1
      have hzr := hD.of y hy z hzy
      have hval : (wout K y).2 = B z := by
        show y.1.foldl (ovK K) y.2 = B z
        rw [hD.eq y hy, fold_right (m := m) (fun z b e => (h.val z b e).2.2) y.1 _ (fun z hz => hD.len z (hD.of y hy z hz).1 (hD.of y hy z hz).2) (by simp [noughts])]
        have : y.1.filter (unkn K) = [z] := hz
        rw [this]
        exact xorL_noughts_l _ _ (hD.len z hzr.1 hzr.2)
      have hex := Ext.upd hKz (wout K y).2
      have hun := unkC_upd (k := k) (K := K) (wout K y).2 hzr hKz
      have hun1 : unkC (updK K z (wout K y).2) k + 1 = unkC K k := unkC_upd1 (k := k) (K := K) (wout K y).2 hzr hKz
      have hpi : PI k m B Ds (updK K z (wout K y).2) (leftW K L) := by
        refine ⟨by rw [leftW_twice hex, ← leftW_twice hex L, h.left, leftW_twice hex], fun q hq2 => ?_, fun q b hb => ?_⟩
        · by_cases e2 : q = z
          · subst e2
            refine .step y q hy hzy fun u hu hne => h.just u fun hKu => hne ?_
            have : u ∈ y.1.filter (unkn K) := List.mem_filter.2 ⟨hu, by unfold unkn; rw [hKu]; rfl⟩
            have h2 : y.1.filter (unkn K) = [q] := hz
            rw [h2] at this
            exact List.mem_singleton.1 this
          · refine h.just q fun hKq => hq2 ?_
            unfold updK
            rw [if_neg e2]; exact hKq
        · unfold updK at hb
          by_cases e2 : q = z
          · rw [if_pos e2] at hb
            cases hb
            subst e2
            exact ⟨hzr.1, hzr.2, hval⟩
          · rw [if_neg e2] at hb
            exact h.val q b hb
      obtain ⟨r1, r2, r3, r4, r5⟩ := learn_law hD f _ _ (out ++ [z]) hpi (by omega)
      exact ⟨r1, r2, r3, hex.trans r4, by rw [r5, List.length_append, List.length_singleton]; omega⟩
end Go.Proofs.YtcpookgbneoilaaGreatDoor

namespace Go.Proofs.YtcpookgbneoilaaGreatDoor
open Go.ChangeShapes Go.WideShapes Go.ChangeAt Go.RowKit

theorem degF_top (k n : Nat) (h0 : ¬ n * k < 1000) (h2 : 2 ≤ k) (h3 : ∀ x, 2 ≤ x → x < k → ¬ dgc k n x) : degF k n = k := by
  unfold degF; rw [if_neg h0]; exact degFrom_eq k n (k - 2) 2 k h2 (by omega) h3 (.inr (by omega))

set_option maxHeartbeats 400000 in
set_option maxRecDepth 100000 in
theorem refDegree (k n : Nat) (w : World) (hk : 1 ≤ k) (hk2 : k ≤ 16) (hn : n ≤ 999) :
    Calls Tryz.prog 55 #[.int .i64 k, .int .i64 n] w fun e w' => e = .returned (.int .i64 (degF k n)) ∧ w = w' := by
  have hp : n * k ≤ 999 * 16 := Nat.mul_le_mul hn hk2
  have hp' : (n : Int) * (k : Int) ≤ 15984 := by rw [← Int.natCast_mul]; omega
  have hp0 : 0 ≤ (n : Int) * (k : Int) := by rw [← Int.natCast_mul]; omega
  by_cases h1 : n * k < 1000
  · have e1 : degF k n = 1 := by unfold degF; rw [if_pos h1]
    have E := Lib.hid e1; clear e1
    have h1' : (n : Int) * (k : Int) < 1000 := by rw [← Int.natCast_mul]; omega
    clear hp h1
    go_enter Tryz.func55, Tryz.ntmps55
    go_wp2
    go_ret
    exact ⟨by rw [E.out]; rfl, rfl⟩
  · have h1' : 1000 ≤ (n : Int) * (k : Int) := by rw [← Int.natCast_mul]; omega
    have h1b : decide ((n : Int) * (k : Int) < 1000) = false := decide_eq_false (by omega)
    have HN := Lib.hid h1
    have hk3 : 2 ≤ k := by
      rcases Nat.lt_or_ge k 2 with h2 | h2
      · have : k = 1 := by omega
        subst this; omega
      · exact h2
    clear hp h1
    go_enter Tryz.func55, Tryz.ntmps55
    go_wp2
    go_loop [5] (fun d => ∃ j : Nat, 2 ≤ j ∧ j ≤ k ∧ d = .int .i64 j ∧ Hid (∀ x, 2 ≤ x → x < j → ¬ dgc k n x)) (fun d => k - (intOf d).toNat)
    case atStart => exact ⟨2, Nat.le_refl _, hk3, rfl, fun x h1 h2 => by omega⟩
    case round =>
      obtain ⟨j, hj, hjk, rfl, hrel⟩ := hrel
      by_cases hlt : j < k
      · obtain ⟨A, hA⟩ : ∃ A, A = n * k * j := ⟨_, rfl⟩
        obtain ⟨B, hB⟩ : ∃ B, B = k * (j - 1) := ⟨_, rfl⟩
        have a1 : A ≤ 999 * 16 * 16 := by rw [hA]; exact Nat.mul_le_mul (Nat.mul_le_mul hn hk2) (by omega)
        have b1 : B ≤ 16 * 16 := by rw [hB]; exact Nat.mul_le_mul hk2 (by omega)
        have eA : (n : Int) * (k : Int) * (j : Int) = (A : Int) := by rw [hA]; simp
        have eB : (k : Int) * ((j : Int) - 1) = (B : Int) := by rw [hB, show ((j : Int) - 1) = ((j - 1 : Nat) : Int) from by omega]; simp
        have bA : 0 ≤ (n : Int) * (k : Int) * (j : Int) ∧ (n : Int) * (k : Int) * (j : Int) ≤ 255744 := by rw [eA]; omega
        have bB : 0 ≤ (k : Int) * ((j : Int) - 1) ∧ (k : Int) * ((j : Int) - 1) ≤ 256 := by rw [eB]; omega
        have hdg : dgc k n j ↔ (n : Int) * (k : Int) * (j : Int) < 1000 * ((j : Int) + (k : Int) * ((j : Int) - 1)) := by
          unfold dgc; rw [eA, eB, ← hA, ← hB]; omega
        have HD := Lib.hid hdg
        clear eA eB hdg hA hB a1 b1
        by_cases hc : (n : Int) * (k : Int) * (j : Int) < 1000 * ((j : Int) + (k : Int) * ((j : Int) - 1))
        · have he : degF k n = j := degF_eq k n j HN.out hj hjk hrel.out (HD.out.2 hc)
          have E := Lib.hid he; clear he
          go_wp2
          go_ret
          exact ⟨congrArg (fun x : Nat => Ending.returned (.int .i64 (x : Int))) E.out.symm, rfl⟩
        · have hc' : 1000 * ((j : Int) + (k : Int) * ((j : Int) - 1)) ≤ (n : Int) * (k : Int) * (j : Int) := by omega
          have HC := Lib.hid hc
          clear hc
          go_wp2
          go_round
          case rel => exact ⟨j + 1, by omega, by omega, by go_num, fun x h1 h2 => by
            by_cases hx : x = j
            · subst hx; intro h; exact HC.out (HD.out.1 h)
            · exact hrel.out x h1 (by omega)⟩
          case measure => simp [intOf]; omega
      · obtain rfl : j = k := by omega
        have he : degF j n = j := degF_top j n HN.out hk3 hrel.out
        have E := Lib.hid he; clear he
        go_wp2
        go_ret
        exact ⟨congrArg (fun x : Nat => Ending.returned (.int .i64 (x : Int))) E.out.symm, rfl⟩
end Go.Proofs.YtcpookgbneoilaaGreatDoor

namespace Go.Proofs.YtcpookgbneoilaaGreatDoor

def vzero : Vec := (0, [])
def rowG (A : List Vec) (i : Nat) : Vec := A.getD i vzero
theorem rowG_mem {A : List Vec} {i : Nat} (h : i < A.length) : rowG A i ∈ A := by
  unfold rowG; rw [List.getD_eq_getElem?_getD, List.getElem?_eq_getElem h]; exact List.getElem_mem _
theorem mem_rowG {A : List Vec} {u : Vec} (h : u ∈ A) : ∃ i, i < A.length ∧ rowG A i = u := by
  obtain ⟨i, hi, rfl⟩ := List.getElem_of_mem h
  exact ⟨i, hi, by unfold rowG; rw [List.getD_eq_getElem?_getD, List.getElem?_eq_getElem hi]; rfl⟩
def Ln (m k : Nat) (A : List Vec) : Prop := ∀ u ∈ A, u.2.length = m ∧ u.1 < 2 ^ k
theorem Ln.wf {m k : Nat} {A : List Vec} (h : Ln m k A) : Wf m A := fun u hu => (h u hu).1
theorem Ln.row {m k : Nat} {A : List Vec} (h : Ln m k A) {i : Nat} (hi : i < A.length) : (rowG A i).2.length = m ∧ (rowG A i).1 < 2 ^ k := h _ (rowG_mem hi)

def clrTo (A : List Vec) (p b s j : Nat) : List Vec := A.mapIdx fun i u => if (s ≤ i ∧ i < j ∧ i ≠ p) ∧ u.1.testBit b = true then vx u (rowG A p) else u
theorem clrTo_len (A : List Vec) (p b s j : Nat) : (clrTo A p b s j).length = A.length := List.length_mapIdx
theorem clrTo_row {A : List Vec} {i : Nat} (p b s j : Nat) (hi : i < A.length) : rowG (clrTo A p b s j) i = if (s ≤ i ∧ i < j ∧ i ≠ p) ∧ (rowG A i).1.testBit b = true then vx (rowG A i) (rowG A p) else rowG A i := by
  have e : rowG A i = A[i] := by unfold rowG; rw [List.getD_eq_getElem?_getD, List.getElem?_eq_getElem hi]; rfl
  have e2 : rowG (clrTo A p b s j) i = (clrTo A p b s j)[i]'(by rw [clrTo_len]; exact hi) := by unfold rowG; rw [List.getD_eq_getElem?_getD, List.getElem?_eq_getElem (by rw [clrTo_len]; exact hi)]; rfl
  rw [e2, e]
  unfold clrTo
  rw [List.getElem_mapIdx]
theorem ext_rowG {A B : List Vec} (h : A.length = B.length) (h2 : ∀ i, i < A.length → rowG A i = rowG B i) : A = B := by
  refine List.ext_getElem h fun i h1 h3 => ?_
  have := h2 i h1
  unfold rowG at this
  rw [List.getD_eq_getElem?_getD, List.getElem?_eq_getElem h1, List.getD_eq_getElem?_getD, List.getElem?_eq_getElem h3] at this
  exact this
theorem clrTo_zero {A : List Vec} {s j : Nat} (p b : Nat) (h : j ≤ s) : clrTo A p b s j = A := by
  refine ext_rowG (clrTo_len ..) fun i hi => ?_
  rw [clrTo_len] at hi
  rw [clrTo_row _ _ _ _ hi, if_neg (by omega)]
theorem rowG_set {A : List Vec} {i j : Nat} (x : Vec) (hj : j < A.length) : rowG (A.set j x) i = if i = j then x else rowG A i := by
  unfold rowG
  split
  · rename_i e
    rw [List.getD_eq_getElem?_getD, e, List.getElem?_set_self hj]; rfl
  · rename_i e
    rw [List.getD_eq_getElem?_getD, List.getElem?_set_ne (fun h => e h.symm), List.getD_eq_getElem?_getD]
theorem clrTo_succ {A : List Vec} {p b s j : Nat} (hs : s ≤ j) (hj : j < A.length) : clrTo A p b s (j + 1) = if j ≠ p ∧ (rowG A j).1.testBit b = true then (clrTo A p b s j).set j (vx (rowG A j) (rowG A p)) else clrTo A p b s j := by
  have hg : ∀ i, i ≠ j → ((s ≤ i ∧ i < j + 1 ∧ i ≠ p) ∧ (rowG A i).1.testBit b = true) = ((s ≤ i ∧ i < j ∧ i ≠ p) ∧ (rowG A i).1.testBit b = true) := fun i e => by
    rw [show (i < j + 1) = (i < j) from propext ⟨fun h => by omega, fun h => by omega⟩]
  split
  · rename_i h
    refine ext_rowG (by rw [List.length_set, clrTo_len, clrTo_len]) fun i hi => ?_
    rw [clrTo_len] at hi
    rw [rowG_set _ (by rw [clrTo_len]; exact hj), clrTo_row _ _ _ _ hi, clrTo_row _ _ _ _ hi]
    by_cases e : i = j
    · subst e
      rw [if_pos ⟨⟨hs, by omega, h.1⟩, h.2⟩, if_pos rfl]
    · rw [if_neg e]; exact ite_congr (hg i e) (fun _ => rfl) (fun _ => rfl)
  · rename_i h
    refine ext_rowG (by rw [clrTo_len, clrTo_len]) fun i hi => ?_
    rw [clrTo_len] at hi
    rw [clrTo_row _ _ _ _ hi, clrTo_row _ _ _ _ hi]
    by_cases e : i = j
    · subst e
      rw [if_neg (fun hh => h ⟨hh.1.2.2, hh.2⟩), if_neg (fun hh => h ⟨hh.1.2.2, hh.2⟩)]
    · exact ite_congr (hg i e) (fun _ => rfl) (fun _ => rfl)
theorem clr_ln {m k : Nat} {A : List Vec} (h : Ln m k A) {p : Nat} (hp : p < A.length) (b s j : Nat) : Ln m k (clrTo A p b s j) := fun u hu => by
  obtain ⟨i, hi, rfl⟩ := mem_rowG hu
  rw [clrTo_len] at hi
  rw [clrTo_row _ _ _ _ hi]
  have h1 := h.row hi
  have h2 := h.row hp
  split
  · exact ⟨vx_len h1.1 h2.1, Nat.xor_lt_two_pow h1.2 h2.2⟩
  · exact h1
theorem clr_sp {m k : Nat} {A : List Vec} (h : Ln m k A) {p : Nat} (hp : p < A.length) (b s j : Nat) (u : Vec) : Sp m (clrTo A p b s j) u ↔ Sp m A u := by
  have h2 := clr_ln h hp b s j
  have hpp : rowG (clrTo A p b s j) p = rowG A p := by rw [clrTo_row _ _ _ _ hp, if_neg (fun e => e.1.2.2 rfl)]
  constructor
  · refine Sp.sub h.wf fun x hx => ?_
    obtain ⟨i, hi, rfl⟩ := mem_rowG hx
    rw [clrTo_len] at hi
    rw [clrTo_row _ _ _ _ hi]
    split
    · exact Sp.over h.wf (Sp.mem h.wf (rowG_mem hi)) (Sp.mem h.wf (rowG_mem hp))
    · exact Sp.mem h.wf (rowG_mem hi)
  · refine Sp.sub h2.wf fun x hx => ?_
    obtain ⟨i, hi, rfl⟩ := mem_rowG hx
    have hmi : Sp m (clrTo A p b s j) (rowG (clrTo A p b s j) i) := Sp.mem h2.wf (rowG_mem (by rw [clrTo_len]; exact hi))
    have hmp : Sp m (clrTo A p b s j) (rowG A p) := by
      have := Sp.mem h2.wf (rowG_mem (A := clrTo A p b s j) (i := p) (by rw [clrTo_len]; exact hp))
      rwa [hpp] at this
    rw [clrTo_row _ _ _ _ hi] at hmi
    split at hmi
    · have := Sp.over h2.wf hmi hmp
      rwa [vx_cancel (h.row hi).1 (h.row hp).1] at this
    · exact hmi

def pick (A : List Vec) (us : Nat → Bool) (b : Nat) : Nat → Nat → Option Nat
  | 0, _ => none
  | f + 1, i => if (rowG A i).1.testBit b = true ∧ us i = false then some i else pick A us b f (i + 1)
theorem pick_some {A : List Vec} {us : Nat → Bool} {b p : Nat} : ∀ {f i}, pick A us b f i = some p → i ≤ p ∧ p < i + f ∧ (rowG A p).1.testBit b = true ∧ us p = false
  | 0, i, h => by cases h
  | f + 1, i, h => by
    unfold pick at h
    split at h
    · rename_i hh
      cases h
      exact ⟨Nat.le_refl _, by omega, hh⟩
    · have := pick_some h
      exact ⟨by omega, by omega, this.2.2⟩
theorem pick_none {A : List Vec} {us : Nat → Bool} {b : Nat} : ∀ {f i}, pick A us b f i = none → ∀ p, i ≤ p → p < i + f → us p = false → (rowG A p).1.testBit b = false
  | 0, i, _, p, h1, h2, _ => by omega
  | f + 1, i, h, p, h1, h2, h3 => by
    unfold pick at h
    split at h
    · cases h
    · rename_i hh
      by_cases e : p = i
      · subst e
        cases hc : (rowG A p).1.testBit b with
        | false => rfl
        | true => exact absurd ⟨hc, h3⟩ hh
      · exact pick_none h p (by omega) (by omega) h3

structure Cl (m k : Nat) (L A : List Vec) (at_ : Nat → Option Nat) (b : Nat) : Prop where
  len : A.length = L.length
  ln : Ln m k A
  sp : ∀ u, Sp m A u ↔ Sp m L u
  lt : ∀ c i, at_ c = some i → c < b ∧ i < A.length
  inj : ∀ c d i, at_ c = some i → at_ d = some i → c = d
  low : ∀ c i, at_ c = some i → Low (rowG A i).1 c
  one : ∀ c i j, at_ c = some i → j < A.length → j ≠ i → (rowG A j).1.testBit c = false
  free : ∀ i, i < A.length → (∀ c, at_ c ≠ some i) → ∀ j, j < b → (rowG A i).1.testBit j = false
theorem Cl.nil {m k : Nat} {L : List Vec} (h : Ln m k L) : Cl m k L L (fun _ => none) 0 :=
  ⟨rfl, h, fun _ => Iff.rfl, fun _ _ e => (by cases e), fun _ _ _ e => (by cases e), fun _ _ e => (by cases e), fun _ _ _ e => (by cases e), fun _ _ _ j hj => (by omega)⟩
def usedB (at_ : Nat → Option Nat) (b : Nat) (i : Nat) : Bool := (List.range b).any fun c => at_ c == some i
theorem usedB_false {at_ : Nat → Option Nat} {b i : Nat} (h : usedB at_ b i = false) (hlt : ∀ c i, at_ c = some i → c < b) : ∀ c, at_ c ≠ some i := fun c hc => by
  unfold usedB at h
  rw [List.any_eq_false] at h
  exact h c (List.mem_range.2 (hlt c i hc)) (by rw [hc]; simp)
theorem usedB_of {at_ : Nat → Option Nat} {b i : Nat} (h : ∀ c, at_ c ≠ some i) : usedB at_ b i = false := by
  unfold usedB
  rw [List.any_eq_false]
  intro c _ hc
  exact h c (by simpa using hc)
def updA (at_ : Nat → Option Nat) (b p : Nat) : Nat → Option Nat := fun c => if c = b then some p else at_ c
theorem Cl.skip {m k : Nat} {L A : List Vec} {at_ : Nat → Option Nat} {b : Nat} (h : Cl m k L A at_ b) (hn : pick A (usedB at_ b) b A.length 0 = none) : Cl m k L A at_ (b + 1) := by
  refine ⟨h.len, h.ln, h.sp, fun c i e => ⟨by have := (h.lt c i e).1; omega, (h.lt c i e).2⟩, h.inj, h.low, h.one, fun i hi hf j hj => ?_⟩
  by_cases e : j = b
  · subst e; exact pick_none hn i (by omega) (by omega) (usedB_of hf)
  · exact h.free i hi hf j (by omega)
theorem Cl.take {m k : Nat} {L A : List Vec} {at_ : Nat → Option Nat} {b p : Nat} (h : Cl m k L A at_ b) (hp : pick A (usedB at_ b) b A.length 0 = some p) : Cl m k L (clrTo A p b 0 A.length) (updA at_ b p) (b + 1) := by
  obtain ⟨_, hpl, hbit, hus⟩ := pick_some hp
  rw [Nat.zero_add] at hpl
  have hfree := usedB_false hus fun c i e => (h.lt c i e).1
  have hpf := h.free p hpl hfree
  have hlen := clrTo_len A p b 0 A.length
  have hr : ∀ i, i < A.length → rowG (clrTo A p b 0 A.length) i = if i ≠ p ∧ (rowG A i).1.testBit b = true then vx (rowG A i) (rowG A p) else rowG A i := fun i hi => by
    rw [clrTo_row _ _ _ _ hi]
    exact ite_congr (propext ⟨fun h => ⟨h.1.2.2, h.2⟩, fun h => ⟨⟨Nat.zero_le _, hi, h.1⟩, h.2⟩⟩) (fun _ => rfl) (fun _ => rfl)
  have hb : ∀ i j, i < A.length → j < b → (rowG (clrTo A p b 0 A.length) i).1.testBit j = (rowG A i).1.testBit j := fun i j hi hj => by
    rw [hr i hi]
    split
    · rw [vx_bit, hpf j hj, Bool.xor_false]
    · rfl
  have hbb : ∀ i, i < A.length → i ≠ p → (rowG (clrTo A p b 0 A.length) i).1.testBit b = false := fun i hi hne => by
    rw [hr i hi]
    cases hc : (rowG A i).1.testBit b with
    | false => rw [if_neg (by simp)]; exact hc
    | true => rw [if_pos ⟨hne, rfl⟩, vx_bit, hc, hbit]; rfl
  have hpp : rowG (clrTo A p b 0 A.length) p = rowG A p := by rw [hr p hpl, if_neg (fun e => e.1 rfl)]
  have hold : ∀ c i, updA at_ b p c = some i → (c = b ∧ i = p) ∨ (c ≠ b ∧ at_ c = some i ∧ i ≠ p) := fun c i e => by
    unfold updA at e
    split at e
    · rename_i ec; cases e; exact .inl ⟨ec, rfl⟩
    · rename_i ec; exact .inr ⟨ec, e, fun ei => hfree c (by rw [e, ei])⟩
  refine ⟨by rw [hlen, h.len], clr_ln h.ln hpl b _ _, fun u => (clr_sp h.ln hpl b _ _ u).trans (h.sp u), fun c i e => ?_, fun c d i e1 e2 => ?_, fun c i e => ?_, fun c i j e hj hne => ?_, fun i hi hf j hj => ?_⟩
  · rw [hlen]
    rcases hold c i e with ⟨rfl, rfl⟩ | ⟨_, e, _⟩
    · exact ⟨by omega, hpl⟩
    · exact ⟨by have := (h.lt c i e).1; omega, (h.lt c i e).2⟩
  · rcases hold c i e1 with ⟨rfl, rfl⟩ | ⟨_, f1, g1⟩
    · rcases hold d i e2 with ⟨rfl, _⟩ | ⟨_, _, g2⟩
      · rfl
      · exact absurd rfl g2
    · rcases hold d i e2 with ⟨_, rfl⟩ | ⟨_, f2, _⟩
      · exact absurd rfl g1
      · exact h.inj c d i f1 f2
  · rcases hold c i e with ⟨rfl, rfl⟩ | ⟨_, e, _⟩
    · rw [hpp]; exact ⟨hbit, hpf⟩
    · have hcl := h.lt c i e
      have hl := h.low c i e
      exact ⟨by rw [hb i c hcl.2 hcl.1]; exact hl.1, fun j hj => by rw [hb i j hcl.2 (by omega)]; exact hl.2 j hj⟩
  · rw [hlen] at hj
    rcases hold c i e with ⟨rfl, rfl⟩ | ⟨_, e, _⟩
    · exact hbb j hj hne
    · rw [hb j c hj (h.lt c i e).1]; exact h.one c i j e hj hne
  · rw [hlen] at hi
    have hip : i ≠ p := fun e => hf b (by unfold updA; rw [if_pos rfl, e])
    by_cases ej : j = b
    · subst ej; exact hbb i hi hip
    · rw [hb i j hi (by omega)]
      refine h.free i hi (fun c hc => ?_) j (by omega)
      refine hf c ?_
      unfold updA
      rw [if_neg (fun e => by have := (h.lt c i hc).1; omega)]; exact hc

def clrF (L : List Vec) : Nat → List Vec × (Nat → Option Nat)
  | 0 => (L, fun _ => none)
  | b + 1 => match pick (clrF L b).1 (usedB (clrF L b).2 b) b (clrF L b).1.length 0 with
    | none => clrF L b
    | some p => (clrTo (clrF L b).1 p b 0 (clrF L b).1.length, updA (clrF L b).2 b p)
theorem clrF_none {L : List Vec} {b : Nat} (h : pick (clrF L b).1 (usedB (clrF L b).2 b) b (clrF L b).1.length 0 = none) : clrF L (b + 1) = clrF L b := by rw [clrF, h]
theorem clrF_some {L : List Vec} {b p : Nat} (h : pick (clrF L b).1 (usedB (clrF L b).2 b) b (clrF L b).1.length 0 = some p) : clrF L (b + 1) = (clrTo (clrF L b).1 p b 0 (clrF L b).1.length, updA (clrF L b).2 b p) := by rw [clrF, h]
theorem clrF_cl {m k : Nat} {L : List Vec} (h : Ln m k L) : ∀ b, Cl m k L (clrF L b).1 (clrF L b).2 b
  | 0 => Cl.nil h
  | b + 1 => by
    have ih := clrF_cl h b
    cases hp : pick (clrF L b).1 (usedB (clrF L b).2 b) b (clrF L b).1.length 0 with
    | none => rw [clrF_none hp]; exact ih.skip hp
    | some p => rw [clrF_some hp]; exact ih.take hp
def clT (A : List Vec) (at_ : Nat → Option Nat) : Nat → Option Vec := fun b => (at_ b).map (rowG A)
theorem bits_zero {n k : Nat} (h : n < 2 ^ k) (h2 : ∀ j, j < k → n.testBit j = false) : n = 0 := by
  apply Nat.eq_of_testBit_eq
  intro i
  rw [Nat.zero_testBit]
  by_cases hi : i < k
  · exact h2 i hi
  · exact Nat.testBit_lt_two_pow (Nat.lt_of_lt_of_le h (Nat.pow_le_pow_right (by omega) (by omega)))
theorem Cl.ti {m k : Nat} {L A : List Vec} {at_ : Nat → Option Nat} (h : Cl m k L A at_ k) : TI m k (clT A at_) := by
  have hx : ∀ b x, clT A at_ b = some x → ∃ i, at_ b = some i ∧ x = rowG A i := fun b x e => by
    unfold clT at e
    cases ha : at_ b with
    | none => rw [ha] at e; cases e
    | some i => rw [ha] at e; cases e; exact ⟨i, rfl, rfl⟩
  refine ⟨fun b x e => ?_, fun b x e => ?_, fun b x e => ?_, fun b x e => ?_⟩ <;>
  · obtain ⟨i, hi, rfl⟩ := hx b x e
    first | exact (h.lt b i hi).1 | exact h.low b i hi | exact (h.ln.row (h.lt b i hi).2).2 | exact (h.ln.row (h.lt b i hi).2).1
def clashB (m : Nat) (A : List Vec) : Bool := A.any fun u => decide (u.1 = 0 ∧ u.2 ≠ noughts m)
theorem Cl.st {m k : Nat} {L A : List Vec} {at_ : Nat → Option Nat} (h : Cl m k L A at_ k) (hL : Wf m L) (hc : clashB m A = false) : St m k (clT A at_) L := by
  have hti := h.ti
  refine ⟨hti, hL, fun u => ?_⟩
  rw [← h.sp]
  constructor
  · refine Sp.mono fun x hx => ?_
    obtain ⟨b, hb, e⟩ := mem_rowsT.1 hx
    unfold clT at e
    cases ha : at_ b with
    | none => rw [ha] at e; cases e
    | some i => rw [ha] at e; cases e; exact rowG_mem (h.lt b i ha).2
  · refine Sp.sub hti.wf fun x hx => ?_
    obtain ⟨i, hi, rfl⟩ := mem_rowG hx
    by_cases hu : ∃ c, at_ c = some i
    · obtain ⟨c, hc⟩ := hu
      refine Sp.mem hti.wf (mem_rowsT.2 ⟨c, (h.lt c i hc).1, ?_⟩)
      unfold clT; rw [hc]; rfl
    · have h0 := bits_zero (h.ln.row hi).2 (h.free i hi fun c hc => hu ⟨c, hc⟩)
      have h1 : (rowG A i).2 = noughts m := by
        unfold clashB at hc
        rw [List.any_eq_false] at hc
        have := hc _ (rowG_mem hi)
        simp only [decide_eq_true_eq, not_and, Decidable.not_not] at this
        exact this h0
      have : rowG A i = vz m := Prod.ext h0 h1
      rw [this]; exact Sp.zero _ _
theorem Cl.clash {m k : Nat} {L A : List Vec} {at_ : Nat → Option Nat} (h : Cl m k L A at_ k) (hc : clashB m A = true) : ¬ NoClash m L := fun hn => by
  unfold clashB at hc
  rw [List.any_eq_true] at hc
  obtain ⟨u, hu, hd⟩ := hc
  simp only [decide_eq_true_eq] at hd
  exact hd.2 (hn u ((h.sp u).1 (Sp.mem h.ln.wf hu)) hd.1)

structure Rk (m k : Nat) (L A : List Vec) (T : Nat → Option Vec) (n b : Nat) : Prop where
  len : A.length = L.length
  ln : Ln m k A
  le : n ≤ A.length
  sp : ∀ u, Sp m A u ↔ Sp m L u
  ti : TI m k T
  lt : ∀ c x, T c = some x → c < b
  of : ∀ c x, T c = some x → ∃ i, i < n ∧ rowG A i = x
  has : ∀ i, i < n → ∃ c, T c = some (rowG A i)
  cnt : rnkT T k = n
  free : ∀ i, n ≤ i → i < A.length → ∀ j, j < b → (rowG A i).1.testBit j = false
theorem Rk.nil {m k : Nat} {L : List Vec} (h : Ln m k L) : Rk m k L L (fun _ => none) 0 0 :=
  ⟨rfl, h, Nat.zero_le _, fun _ => Iff.rfl, ⟨fun _ _ e => (by cases e), fun _ _ e => (by cases e), fun _ _ e => (by cases e), fun _ _ e => (by cases e)⟩, fun _ _ e => (by cases e), fun _ _ e => (by cases e), fun _ hi => (by omega), rnkT_none k, fun _ _ _ j hj => (by omega)⟩
def noUse : Nat → Bool := fun _ => false
theorem Rk.skip {m k : Nat} {L A : List Vec} {T : Nat → Option Vec} {n b : Nat} (h : Rk m k L A T n b) (hn : pick A noUse b (A.length - n) n = none) : Rk m k L A T n (b + 1) := by
  refine ⟨h.len, h.ln, h.le, h.sp, h.ti, fun c x e => by have := h.lt c x e; omega, h.of, h.has, h.cnt, fun i h1 h2 j hj => ?_⟩
  by_cases e : j = b
  · subst e; exact pick_none hn i h1 (by omega) rfl
  · exact h.free i h1 h2 j (by omega)
def swp (A : List Vec) (n p : Nat) : List Vec := (A.set p (rowG A n)).set n (rowG A p)
theorem swp_len (A : List Vec) (n p : Nat) : (swp A n p).length = A.length := by unfold swp; rw [List.length_set, List.length_set]
theorem swp_row {A : List Vec} {n p : Nat} (hn : n < A.length) (hp : p < A.length) (i : Nat) : rowG (swp A n p) i = if i = n then rowG A p else if i = p then rowG A n else rowG A i := by
  unfold swp
  rw [rowG_set _ (by rw [List.length_set]; exact hn), rowG_set _ hp]
theorem swp_mem {A : List Vec} {n p : Nat} (hn : n < A.length) (hp : p < A.length) (u : Vec) : u ∈ swp A n p ↔ u ∈ A := by
  constructor
  · intro h
    obtain ⟨i, hi, rfl⟩ := mem_rowG h
    rw [swp_len] at hi
    rw [swp_row hn hp]
    split
    · exact rowG_mem hp
    · split
      · exact rowG_mem hn
      · exact rowG_mem hi
  · intro h
    obtain ⟨i, hi, rfl⟩ := mem_rowG h
    have hs : ∀ j, j < A.length → rowG (swp A n p) j ∈ swp A n p := fun j hj => rowG_mem (by rw [swp_len]; exact hj)
    by_cases e : i = n
    · have := hs p hp
      rw [swp_row hn hp] at this
      by_cases g : p = n
      · rw [if_pos g] at this
        have e2 : rowG A n = rowG A p := by rw [g]
        rw [e, e2]; exact this
      · rw [if_neg g, if_pos rfl] at this; rw [e]; exact this
    · by_cases g : i = p
      · have := hs n hn
        rw [swp_row hn hp, if_pos rfl] at this
        rw [g]; exact this
      · have := hs i hi
        rw [swp_row hn hp, if_neg e, if_neg g] at this
        exact this
theorem Rk.take {m k : Nat} {L A : List Vec} {T : Nat → Option Vec} {n b p : Nat} (h : Rk m k L A T n b) (hb : b < k) (hp : pick A noUse b (A.length - n) n = some p) :
    Rk m k L (clrTo (swp A n p) n b (n + 1) A.length) (insT T b (rowG A p)) (n + 1) (b + 1) := by
  obtain ⟨hnp, hpl, hbit, _⟩ := pick_some hp
  have hle := h.le
  have hpA : p < A.length := by omega
  have hnA : n < A.length := by omega
  have hpf := h.free p hnp hpA
  have hsw := swp_row (A := A) (n := n) (p := p) hnA hpA
  have hswl := swp_len A n p
  have hnone : T b = none := by
    cases e : T b with
    | none => rfl
    | some x => exact absurd (h.lt b x e) (by omega)
  have hlow : Low (rowG A p).1 b := ⟨hbit, hpf⟩
  have hr : ∀ i, i < A.length → rowG (clrTo (swp A n p) n b (n + 1) A.length) i = if (n + 1 ≤ i ∧ i < A.length ∧ i ≠ n) ∧ (rowG (swp A n p) i).1.testBit b = true then vx (rowG (swp A n p) i) (rowG A p) else rowG (swp A n p) i := fun i hi => by
    rw [clrTo_row _ _ _ _ (by rw [hswl]; exact hi), hsw n, if_pos rfl]
  have hlo : ∀ i, i < n → rowG (clrTo (swp A n p) n b (n + 1) A.length) i = rowG A i := fun i hi => by
    rw [hr i (by omega), if_neg (by omega), hsw i, if_neg (by omega), if_neg (by omega)]
  have hat : rowG (clrTo (swp A n p) n b (n + 1) A.length) n = rowG A p := by
    rw [hr n hnA, if_neg (by omega), hsw n, if_pos rfl]
  have hsl : Ln m k (swp A n p) := fun u hu => h.ln u ((swp_mem hnA hpA u).1 hu)
  refine ⟨by rw [clrTo_len, hswl]; exact h.len, clr_ln hsl (by rw [hswl]; exact hnA) _ _ _, by rw [clrTo_len, hswl]; omega, fun u => ?_, ?_, fun c x e => ?_, fun c x e => ?_, fun i hi => ?_, ?_, fun i h1 h2 j hj => ?_⟩
  · rw [clr_sp hsl (by rw [hswl]; exact hnA), ← h.sp]
    exact ⟨Sp.mono fun x hx => (swp_mem hnA hpA x).1 hx, Sp.mono fun x hx => (swp_mem hnA hpA x).2 hx⟩
  · have hrow := h.ln.row hpA
    refine ⟨fun c x e => ?_, fun c x e => ?_, fun c x e => ?_, fun c x e => ?_⟩ <;>
    · unfold insT at e
      by_cases ec : c = b
      · rw [if_pos ec] at e; cases e; subst ec
        first | exact hb | exact hlow | exact hrow.2 | exact hrow.1
      · rw [if_neg ec] at e
        first | exact h.ti.lt c x e | exact h.ti.low c x e | exact h.ti.bits c x e | exact h.ti.len c x e
  · unfold insT at e
    split at e
    · omega
    · have := h.lt c x e; omega
  · unfold insT at e
    split at e
    · cases e; exact ⟨n, by omega, hat⟩
    · obtain ⟨i, hi, ex⟩ := h.of c x e
      exact ⟨i, by omega, by rw [hlo i hi]; exact ex⟩
  · by_cases e : i = n
    · subst e; exact ⟨b, by unfold insT; rw [if_pos rfl, hat]⟩
    · obtain ⟨c, hc⟩ := h.has i (by omega)
      refine ⟨c, ?_⟩
      unfold insT
      rw [if_neg (fun e => by rw [e, hnone] at hc; cases hc), hlo i (by omega)]; exact hc
  · rw [rnkT_ins hnone, h.cnt, if_pos hb]
  · rw [clrTo_len, hswl] at h2
    have hfi : ∀ j, j < b → (rowG (swp A n p) i).1.testBit j = false := fun j hj => by
      rw [hsw i, if_neg (by omega)]
      split
      · exact h.free n (Nat.le_refl _) hnA j hj
      · exact h.free i (by omega) h2 j hj
    rw [hr i h2]
    cases hc : (rowG (swp A n p) i).1.testBit b with
    | false =>
      rw [if_neg (by simp)]
      by_cases ej : j = b
      · subst ej; exact hc
      · exact hfi j (by omega)
    | true =>
      rw [if_pos ⟨⟨h1, h2, by omega⟩, rfl⟩, vx_bit]
      by_cases ej : j = b
      · subst ej; rw [hc, hbit]; rfl
      · rw [hfi j (by omega), hpf j (by omega)]; rfl
def rkF (L : List Vec) : Nat → List Vec × Nat
  | 0 => (L, 0)
  | b + 1 => match pick (rkF L b).1 noUse b ((rkF L b).1.length - (rkF L b).2) (rkF L b).2 with
    | none => rkF L b
    | some p => (clrTo (swp (rkF L b).1 (rkF L b).2 p) (rkF L b).2 b ((rkF L b).2 + 1) (rkF L b).1.length, (rkF L b).2 + 1)
theorem rkF_none {L : List Vec} {b : Nat} (h : pick (rkF L b).1 noUse b ((rkF L b).1.length - (rkF L b).2) (rkF L b).2 = none) : rkF L (b + 1) = rkF L b := by rw [rkF, h]
theorem rkF_some {L : List Vec} {b p : Nat} (h : pick (rkF L b).1 noUse b ((rkF L b).1.length - (rkF L b).2) (rkF L b).2 = some p) : rkF L (b + 1) = (clrTo (swp (rkF L b).1 (rkF L b).2 p) (rkF L b).2 b ((rkF L b).2 + 1) (rkF L b).1.length, (rkF L b).2 + 1) := by rw [rkF, h]
theorem rkF_rk {m k : Nat} {L : List Vec} (h : Ln m k L) : ∀ b, b ≤ k → ∃ T, Rk m k L (rkF L b).1 T (rkF L b).2 b
  | 0, _ => ⟨_, Rk.nil h⟩
  | b + 1, hb => by
    obtain ⟨T, ih⟩ := rkF_rk h b (by omega)
    cases hp : pick (rkF L b).1 noUse b ((rkF L b).1.length - (rkF L b).2) (rkF L b).2 with
    | none => rw [rkF_none hp]; exact ⟨T, ih.skip hp⟩
    | some p => rw [rkF_some hp]; exact ⟨_, ih.take (by omega) hp⟩
theorem Rk.st {k : Nat} {L A : List Vec} {T : Nat → Option Vec} {n : Nat} (h : Rk 0 k L A T n k) (hL : Wf 0 L) : St 0 k T L := by
  refine ⟨h.ti, hL, fun u => ?_⟩
  rw [← h.sp]
  constructor
  · refine Sp.mono fun x hx => ?_
    obtain ⟨b, hb, e⟩ := mem_rowsT.1 hx
    obtain ⟨i, hi, rfl⟩ := h.of b x e
    exact rowG_mem (Nat.lt_of_lt_of_le hi h.le)
  · refine Sp.sub h.ti.wf fun x hx => ?_
    obtain ⟨i, hi, rfl⟩ := mem_rowG hx
    by_cases hu : i < n
    · obtain ⟨c, hc⟩ := h.has i hu
      exact Sp.mem h.ti.wf (mem_rowsT.2 ⟨c, h.ti.lt c _ hc, hc⟩)
    · have h0 := bits_zero (h.ln.row hi).2 (h.free i (by omega) hi)
      have h1 := len_zero (h.ln.row hi).1
      have : rowG A i = vz 0 := Prod.ext h0 h1
      rw [this]; exact Sp.zero _ _
theorem Bare.ln {k : Nat} {L : List Vec} (h : Bare k L) : Ln 0 k L := fun u hu => ⟨by rw [(h u hu).1]; rfl, (h u hu).2⟩
theorem rnk_st {k : Nat} (h64 : k ≤ 64) {L : List Vec} (hL : Bare k L) {T : Nat → Option Vec} (h : St 0 k T L) : rnkT T k = rk k L := by
  unfold rk
  refine rnkT_congr fun b _ => ?_
  have h1 := h.lead b
  have h2 := (tab_st h64 hL).lead b
  cases e1 : T b <;> cases e2 : tabT k L b <;> simp_all
theorem rkF_eq {k : Nat} (h64 : k ≤ 64) {L : List Vec} (hL : Bare k L) : (rkF L k).2 = rk k L := by
  obtain ⟨T, h⟩ := rkF_rk hL.ln k (Nat.le_refl k)
  rw [← rnk_st h64 hL (h.st hL.wf)]; exact h.cnt.symm
theorem bare_noClash {k : Nat} {A : List Vec} (h : Ln 0 k A) : clashB 0 A = false := by
  unfold clashB
  rw [List.any_eq_false]
  intro u hu hd
  simp only [decide_eq_true_eq] at hd
  exact hd.2 (len_zero (h u hu).1)
def cntA (at_ : Nat → Option Nat) : Nat → Nat
  | 0 => 0
  | b + 1 => cntA at_ b + (if (at_ b).isSome = true then 1 else 0)
theorem cntA_rnk (A : List Vec) (at_ : Nat → Option Nat) : ∀ k, cntA at_ k = rnkT (clT A at_) k
  | 0 => rfl
  | k + 1 => by
    have : (clT A at_ k).isSome = (at_ k).isSome := by unfold clT; rw [Option.isSome_map]
    unfold cntA rnkT; rw [cntA_rnk A at_ k, this]
theorem clrF_eq {k : Nat} (h64 : k ≤ 64) {L : List Vec} (hL : Bare k L) : cntA (clrF L k).2 k = rk k L := by
  have h := clrF_cl hL.ln k
  rw [cntA_rnk (clrF L k).1, rnk_st h64 hL (h.st hL.wf (bare_noClash h.ln))]
end Go.Proofs.YtcpookgbneoilaaGreatDoor

namespace Go.Proofs.YtcpookgbneoilaaGreatDoor
open Go.ChangeShapes Go.WideShapes Go.ChangeAt Go.RowKit

end Go.Proofs.YtcpookgbneoilaaGreatDoor

namespace Go.Proofs.YtcpookgbneoilaaGreatDoor
open Go.ChangeShapes Go.WideShapes Go.ChangeAt Go.RowKit

theorem zero_any (n : Nat) (w : World) (hn : n ≤ 100000) :
    Calls Tryz.prog 57 #[.int .i64 n] w fun e w' => e = .returned (.string (S (noughts n))) ∧ Lat w w' := by
  go_enter Tryz.func57, Tryz.ntmps57
  go_wp2
  go_loop [3, 4] (fun s i => ∃ k : Nat, k ≤ n ∧ i = .int .i64 k ∧ s = .string (S (noughts k))) (fun _ i => n - (intOf i).toNat)
  case atStart => exact ⟨0, Nat.zero_le _, rfl, rfl⟩
  case round =>
    obtain ⟨k, hk, rfl, rfl⟩ := hrel
    have hl : (noughts k).length ≤ 100000 := by simp [noughts]; omega
    by_cases hlt : k < n
    · go_wp2
      go_round
      case rel => exact ⟨k + 1, by omega, by go_num, congrArg Value.string (noughts_succ k)⟩
      case measure => simp [intOf]; omega
    · obtain rfl : k = n := by omega
      go_wp2
      go_ret
      exact ⟨rfl, Below.refl _ _⟩
end Go.Proofs.YtcpookgbneoilaaGreatDoor

namespace Go.Proofs.YtcpookgbneoilaaGreatDoor
open Go.ChangeShapes Go.WideShapes Go.ChangeAt Go.RowKit

theorem refIn_no (a : Option Addr) (n cap : Nat) (zs : List Int) (v : Int) (w : World) (h : IntsAt w a n cap zs) (hv : v ∉ zs) :
    Calls Tryz.prog 22 #[.slice a n cap, .int .i64 v] w fun e w' => e = .returned (.bool false) ∧ w = w' := by
  have hcap2 := h.row.cap
  have hle2 := h.row.le
  unfold maxLen at hcap2
  have H := Lib.hid h
  have HV := Lib.hid hv
  clear h hv
  go_enter Tryz.func22, Tryz.ntmps22
  go_wp2
  go_loop [5] (fun i => ∃ k : Nat, k ≤ n ∧ i = .int .i64 k) (fun i => n - (intOf i).toNat)
  case atStart => exact ⟨0, Nat.zero_le _, rfl⟩
  case round =>
    obtain ⟨k, hk, rfl⟩ := hrel
    by_cases hlt : k < n
    · obtain ⟨b, o, rfl, hc⟩ := H.out.row.at_ (by omega)
      have c1 := hc k hlt
      have hm := getD_mem zs k (by rw [H.out.len]; exact hlt)
      obtain ⟨z, hz⟩ : ∃ z, z = zs.getD k 0 := ⟨_, rfl⟩
      rw [← hz] at c1 hm
      have ht : (z == v) = false := by rw [beq_eq_false_iff_ne]; intro e; exact HV.out (e ▸ hm)
      clear hc hz hm
      go_wp2
      go_round
      case rel => exact ⟨k + 1, by omega, by go_num⟩
      case measure => simp [intOf]; omega
    · go_wp2
      go_ret
      exact ⟨rfl, rfl⟩
theorem refIn_yes (a : Option Addr) (n cap : Nat) (zs : List Int) (v : Int) (w : World) (h : IntsAt w a n cap zs) (hv : v ∈ zs) :
    Calls Tryz.prog 22 #[.slice a n cap, .int .i64 v] w fun e w' => e = .returned (.bool true) ∧ w = w' := by
  have hcap2 := h.row.cap
  have hle2 := h.row.le
  unfold maxLen at hcap2
  obtain ⟨j0, hj0, hj1⟩ : ∃ j, j < n ∧ zs.getD j 0 = v := by
    obtain ⟨j, hj, e⟩ := List.getElem_of_mem hv
    exact ⟨j, by rw [← h.len]; exact hj, by rw [List.getD_eq_getElem?_getD, List.getElem?_eq_getElem hj]; exact e⟩
  have H := Lib.hid h
  have HV := Lib.hid hj1
  clear h hv hj1
  go_enter Tryz.func22, Tryz.ntmps22
  go_wp2
  go_loop [5] (fun i => ∃ k : Nat, k ≤ j0 ∧ i = .int .i64 k) (fun i => n - (intOf i).toNat)
  case atStart => exact ⟨0, Nat.zero_le _, rfl⟩
  case round =>
    obtain ⟨k, hk, rfl⟩ := hrel
    have hlt : k < n := by omega
    obtain ⟨b, o, rfl, hc⟩ := H.out.row.at_ (by omega)
    have c1 := hc k hlt
    obtain ⟨z, hz⟩ : ∃ z, z = zs.getD k 0 := ⟨_, rfl⟩
    rw [← hz] at c1
    by_cases he : z = v
    · have ht : (z == v) = true := by rw [beq_iff_eq]; exact he
      clear hc hz he
      go_wp2
      go_ret
      exact ⟨rfl, rfl⟩
    · have ht : (z == v) = false := by rw [beq_eq_false_iff_ne]; exact he
      have hkj : k < j0 := by
        rcases Nat.lt_or_ge k j0 with h | h
        · exact h
        · have : k = j0 := by omega
          subst this
          exact absurd (hz.trans HV.out) he
      clear hc hz he
      go_wp2
      go_round
      case rel => exact ⟨k + 1, by omega, by go_num⟩
      case measure => simp [intOf]; omega

def hv (x : Nat) : Nat → Nat
  | 0 => x
  | k + 1 => hv x k / 2
def pw : Nat → Nat
  | 0 => 1
  | k + 1 => 2 * pw k
def nx (x y : Nat) : Nat → Nat
  | 0 => 0
  | k + 1 => nx x y k + if hv x k % 2 ≠ hv y k % 2 then pw k else 0
theorem hv_succ (x k : Nat) : hv x (k + 1) = hv x k / 2 := rfl
theorem pw_succ (k : Nat) : pw (k + 1) = 2 * pw k := rfl
theorem nx_succ (x y k : Nat) : nx x y (k + 1) = nx x y k + if hv x k % 2 ≠ hv y k % 2 then pw k else 0 := rfl
theorem xor_half (a b : Nat) : a ^^^ b = (if a % 2 ≠ b % 2 then 1 else 0) + 2 * ((a / 2) ^^^ (b / 2)) := by
  have h1 : (a ^^^ b) % 2 = 1 ↔ ¬ (a % 2 = 1 ↔ b % 2 = 1) := Nat.xor_mod_two_eq_one
  have h2 : (a ^^^ b) / 2 = a / 2 ^^^ b / 2 := Nat.xor_div_two
  rw [← h2]
  by_cases h : a % 2 = b % 2
  · rw [if_neg (by simpa using h)]
    have : ¬ (a ^^^ b) % 2 = 1 := fun e => h1.1 e (by rw [h])
    omega
  · rw [if_pos h]
    have : (a ^^^ b) % 2 = 1 := h1.2 (by omega)
    omega
theorem nx_inv (x y : Nat) : ∀ k, nx x y k + pw k * (hv x k ^^^ hv y k) = x ^^^ y
  | 0 => by simp [nx, pw, hv]
  | k + 1 => by
    have ih := nx_inv x y k
    rw [xor_half (hv x k) (hv y k)] at ih
    rw [nx_succ, pw_succ, hv_succ, hv_succ, ← ih, Nat.mul_add]
    split
    · rw [Nat.mul_one, ← Nat.mul_assoc, Nat.mul_comm (pw k) 2]; omega
    · rw [Nat.mul_zero, ← Nat.mul_assoc, Nat.mul_comm (pw k) 2]; omega
theorem hv_eight (x : Nat) (h : x < 256) : hv x 8 = 0 := by
  show x / 2 / 2 / 2 / 2 / 2 / 2 / 2 / 2 = 0
  omega
theorem nx_eight (x y : Nat) (hx : x < 256) (hy : y < 256) : nx x y 8 = x ^^^ y := by
  have h := nx_inv x y 8
  rw [hv_eight x hx, hv_eight y hy] at h
  simpa using h
theorem nx_le (x y : Nat) (hx : x < 256) (hy : y < 256) (k : Nat) : nx x y k < 256 := by
  have h := nx_inv x y k
  have h2 : x ^^^ y < 256 := Nat.xor_lt_two_pow (n := 8) hx hy
  omega
theorem hv_le (x : Nat) : ∀ k, hv x k ≤ x
  | 0 => Nat.le_refl _
  | k + 1 => by have := hv_le x k; unfold hv; omega
theorem pw_le : ∀ k, k ≤ 8 → pw k ≤ 256 := by decide

theorem xorL_take_succ (a b : List UInt8) (k : Nat) (ha : k < a.length) (hb : k < b.length) : (xorL a b).take (k + 1) = (xorL a b).take k ++ [a[k] ^^^ b[k]] := by
  have hl : k < (xorL a b).length := by simp [xorL]; omega
  rw [List.take_succ_eq_append_getElem hl]
  simp [xorL]

set_option maxHeartbeats 1000000 in
set_option maxRecDepth 100000 in
theorem refXor (A B : ByteArray) (w : World) (hab : A.size = B.size) (ha : A.size ≤ 1000000) :
    Calls Tryz.prog 43 #[.string A, .string B] w fun e w' => e = .returned (.string (S (xorL A.data.toList B.data.toList))) ∧ Lat w w' := by
  have HAB := Lib.hid hab; clear hab
  go_enter Tryz.func43, Tryz.ntmps43
  go_wp2
  go_loopw [5, 6] (fun v i wr => ∃ k : Nat, k ≤ A.size ∧ i = .int .i64 k ∧ Hid (OwnBytes wr w.heap.size v ((xorL A.data.toList B.data.toList).take k) ∧ Lat w wr)) (fun _ i _ => A.size - (intOf i).toNat)
  case atStart => exact ⟨0, Nat.zero_le _, rfl, Own.nil _ _ _, Lat.refl _⟩
  case round =>
    obtain ⟨k, hk, rfl, hrel⟩ := hrel
    by_cases hlt : k < A.size
    · have hbk : k < B.size := by rw [← HAB.out]; exact hlt
      obtain ⟨X, hX⟩ : ∃ X, X = bt A k := ⟨_, rfl⟩
      obtain ⟨Y, hY⟩ : ∃ Y, Y = bt B k := ⟨_, rfl⟩
      have eX : A[k].toNat = X := by rw [hX]; exact bt_get A k hlt
      have eY : B[k].toNat = Y := by rw [hY]; exact bt_get B k hbk
      have X256 : X < 256 := by rw [hX]; exact bt_lt A k
      have Y256 : Y < 256 := by rw [hY]; exact bt_lt B k
      have hlA : k < A.data.toList.length := by simpa using hlt
      have hlB : k < B.data.toList.length := by simpa using hbk
      have hst : (xorL A.data.toList B.data.toList).take (k + 1) = (xorL A.data.toList B.data.toList).take k ++ [UInt8.ofNat (X ^^^ Y)] := by
        rw [xorL_take_succ _ _ k hlA hlB]
        congr 2
        apply UInt8.toNat_inj.1
        rw [UInt8.toNat_xor, UInt8.toNat_ofNat', hX, hY]
        unfold bt
        rw [List.getD_eq_getElem?_getD, List.getD_eq_getElem?_getD, List.getElem?_eq_getElem hlA, List.getElem?_eq_getElem hlB]
        exact (Nat.mod_eq_of_lt (Nat.xor_lt_two_pow (n := 8) (UInt8.toNat_lt _) (UInt8.toNat_lt _))).symm
      have HST := Lib.hid hst
      clear hX hY hlA hlB hst
      go_wp2
      go_loop [7, 8, 9, 10, 11] (fun x y n p j => ∃ q : Nat, q ≤ 8 ∧ j = .int .i64 q ∧ x = .int .i64 (hv X q) ∧ y = .int .i64 (hv Y q) ∧ n = .int .i64 (nx X Y q) ∧ p = .int .i64 (pw q)) (fun _ _ _ _ j => 8 - (intOf j).toNat)
      case atStart => exact ⟨0, by omega, rfl, rfl, rfl, rfl, rfl⟩
      case round =>
        obtain ⟨q, hq, rfl, rfl, rfl, rfl, rfl⟩ := hrel
        have b1 := hv_le X q
        have b2 := hv_le Y q
        have b3 := nx_le X Y X256 Y256 q
        have b4 := pw_le q hq
        by_cases hq8 : q < 8
        · by_cases hbit : hv X q % 2 = hv Y q % 2
          · have dt : ((hv X q : Int) % 2 != (hv Y q : Int) % 2) = false := by rw [bne_eq_false_iff_eq]; omega
            have e1 : nx X Y (q + 1) = nx X Y q := by rw [nx_succ, if_neg (by simpa using hbit)]; rfl
            have E1 := Lib.hid e1
            clear hbit e1
            go_wp2
            go_round
            case rel => exact ⟨q + 1, by omega, by go_num, by rw [hv_succ]; go_num, by rw [hv_succ]; go_num, by rw [E1.out], by rw [pw_succ]; go_num⟩
            case measure => simp [intOf]; omega
          · have dt : ((hv X q : Int) % 2 != (hv Y q : Int) % 2) = true := by rw [bne_iff_ne]; omega
            have e1 : nx X Y (q + 1) = nx X Y q + pw q := by rw [nx_succ, if_pos hbit]
            have E1 := Lib.hid e1
            clear hbit e1
            go_wp2
            go_round
            case rel => exact ⟨q + 1, by omega, by go_num, by rw [hv_succ]; go_num, by rw [hv_succ]; go_num, by rw [E1.out]; go_num, by rw [pw_succ]; go_num⟩
            case measure => simp [intOf]; omega
        · have e8 : q = 8 := by omega
          have en : nx X Y q = X ^^^ Y := by rw [e8]; exact nx_eight X Y X256 Y256
          have hxl : X ^^^ Y < 256 := Nat.xor_lt_two_pow (n := 8) X256 Y256
          obtain ⟨Z, hZ⟩ : ∃ Z, Z = X ^^^ Y := ⟨_, rfl⟩
          rw [en, ← hZ]
          rw [← hZ] at hxl
          have HZ := Lib.hid hZ
          have hlen : ((xorL A.data.toList B.data.toList).take k).length < 1000000000000 := by rw [List.length_take]; omega
          have HLEN := Lib.hid hlen
          clear e8 en hZ hlen b1 b2 b3 b4
          go_wp2_with (at_builtin; refine app_u8 wr w _ rfl _ _ rfl _ _ Z rfl hrel.out.1 rfl hxl HLEN.out rfl hrel.out.2 ?_; intro v' w2 hown' hb' _)
          go_roundw
          case rel => exact ⟨k + 1, by omega, by go_num, by rw [HST.out, ← HZ.out]; exact hown', hb'⟩
          case measure => simp [intOf]; omega
    · have hfin : (xorL A.data.toList B.data.toList).take k = xorL A.data.toList B.data.toList := by
        apply List.take_of_length_le
        unfold xorL
        rw [List.length_zipWith]
        have : A.data.toList.length = A.size := by simp
        omega
      have hcv := conv_own hrel.out.1
      rw [hfin] at hcv
      have HF := Lib.hid hfin
      clear hfin
      go_wp2
      go_ret
      exact ⟨rfl, hrel.out.2⟩

end Go.Proofs.YtcpookgbneoilaaGreatDoor

namespace Go.Proofs.YtcpookgbneoilaaGreatDoor
open Go.ChangeShapes Go.WideShapes Go.ChangeAt Go.RowKit

def lineF (v : Vec) (j : Nat) : Value := if j < 16 then .bool (v.1.testBit j) else .string (S v.2)
def lineC (v : Vec) : List Value := (List.range 17).map (lineF v)
theorem lineC_len (v : Vec) : (lineC v).length = 17 := by unfold lineC; rw [List.length_map, List.length_range]
theorem lineC_get (v : Vec) {j : Nat} (h : j < 17) : (lineC v)[j]? = some (lineF v j) := by
  unfold lineC
  rw [List.getElem?_map, List.getElem?_range h]; rfl
theorem lineF_one (v : Vec) (j : Nat) : (lineF v j).oneCell' = true := by unfold lineF; split <;> rfl
theorem lineC_one (v : Vec) : ∀ u ∈ lineC v, u.oneCell' = true := fun u hu => by
  unfold lineC at hu
  obtain ⟨j, _, rfl⟩ := List.mem_map.1 hu
  exact lineF_one v j
abbrev lineV (v : Vec) : Value := .agg (lineC v).toArray
theorem blk_new (w : World) (cs : List Value) (n : Nat) (F : Nat → Value) (t : TypeId) (h : ∀ j, j < n → cs[j]? = some (F j)) : Blk (w.alloc (.cells cs.toArray t)) w.heap.size n F :=
  ⟨by simp, fun j hj => by rw [World.cell?_alloc_at _ _ _ _ rfl]; simpa using h j hj, fun j _ => World.frozen?_alloc_new ..⟩
theorem blk_line (w : World) (v : Vec) (t : TypeId) : Blk (w.alloc (.cells (lineC v).toArray t)) w.heap.size 17 (lineF v) := blk_new w _ 17 _ t fun _ h => lineC_get v h
theorem Blk.range {w : World} {g : Nat} {v : Vec} (h : Blk w g 17 (lineF v)) : w.rangeAt g 0 (lineC v) := fun j u hu => by
  have hj : j < 17 := by rw [← lineC_len v]; exact (List.getElem?_eq_some_iff.1 hu).1
  rw [lineC_get v hj] at hu
  injection hu with hu
  rw [Nat.zero_add, ← hu]; exact h.cell j hj
theorem Blk.there {w : World} {g n : Nat} {F : Nat → Value} (h : Blk w g n F) : w.there g 0 n := fun j hj => by
  rw [Nat.zero_add]
  exact ⟨by rw [h.cell j hj]; rfl, h.free j hj⟩
def ovF (u v : Vec) (i j : Nat) : Value := if j < 16 then .bool (if j < i then (u.1.testBit j != v.1.testBit j) else u.1.testBit j) else .string (S u.2)

def Ov (w : World) (u v : Vec) (i : Nat) (W : World) : Prop := Lat w W ∧ Blk W w.heap.size 17 (ovF u v i) ∧ Blk W (w.heap.size + 1) 17 (lineF v) ∧ Blk W (w.heap.size + 1 + 1) 17 (lineF (0, []))
theorem ov_start (w : World) (u v : Vec) (t : TypeId) : Ov w u v 0 (((w.alloc (.cells (lineC u).toArray t)).alloc (.cells (lineC v).toArray t)).alloc (.cells (lineC (0, [])).toArray t)) := by
  have h1 := blk_line w u t
  have h2 := blk_line (w.alloc (.cells (lineC u).toArray t)) v t
  have h3 := blk_line ((w.alloc (.cells (lineC u).toArray t)).alloc (.cells (lineC v).toArray t)) (0, []) t
  rw [World.size_alloc] at h2
  rw [World.size_alloc, World.size_alloc] at h3
  have k1 : Lat (w.alloc (.cells (lineC u).toArray t)) (((w.alloc (.cells (lineC u).toArray t)).alloc (.cells (lineC v).toArray t)).alloc (.cells (lineC (0, [])).toArray t)) := (Lat.alloc _ _).trans (Lat.alloc _ _)
  refine ⟨(Lat.alloc _ _).trans k1, (h1.keep k1).congr fun j _ => ?_, h2.keep (Lat.alloc _ _), h3⟩
  unfold lineF ovF
  simp
theorem blk_oth {w : World} {g n h : Nat} {F : Nat → Value} (hb : Blk w g n F) (hne : g ≠ h) (o : Nat) (v : Value) : Blk (w.setCell ⟨h, o, none⟩ v) g n F :=
  ⟨by simpa [World.setCell] using hb.lt, fun j hj => by rw [World.cell?_setCell_other _ _ _ _ (by intro e; injection e with e1 _ _; exact hne e1.symm)]; exact hb.cell j hj, fun j hj => by rw [World.frozen?_setCell]; exact hb.free j hj⟩
theorem Ov.keep {w W W' : World} {u v : Vec} {i : Nat} (h : Ov w u v i W) (hb : Lat W W') : Ov w u v i W' := ⟨h.1.trans hb, h.2.1.keep hb, h.2.2.1.keep hb, h.2.2.2.keep hb⟩
theorem Ov.next {w W : World} {u v : Vec} {i : Nat} (h : Ov w u v i W) (hi : i < 16) : Ov w u v (i + 1) (W.setCell ⟨w.heap.size, i, none⟩ (.bool (u.1.testBit i != v.1.testBit i))) := by
  refine ⟨h.1.setCell (p := ⟨w.heap.size, i, none⟩) (Nat.le_refl _) _, (h.2.1.set (by omega) _).congr fun j _ => ?_, blk_oth h.2.2.1 (by omega) _ _, blk_oth h.2.2.2 (by omega) _ _⟩
  unfold ovF
  by_cases e : j = i
  · subst e; rw [if_pos rfl, if_pos hi, if_pos (by omega)]
  · rw [if_neg e]
    by_cases g : j < i
    · rw [if_pos g, if_pos (show j < i + 1 by omega)]
    · rw [if_neg g, if_neg (show ¬ j < i + 1 by omega)]
theorem ov_end {w W : World} {u v : Vec} (h : Ov w u v 16 W) : Blk (W.setCell ⟨w.heap.size, 16, none⟩ (.string (S (xorL u.2 v.2)))) w.heap.size 17 (lineF (vx u v)) := by
  refine (h.2.1.set (by omega) _).congr fun j hj => ?_
  unfold ovF lineF
  by_cases e : j = 16
  · rw [if_pos e, if_neg (by omega)]; rfl
  · rw [if_neg e, if_pos (by omega), if_pos (by omega), if_pos (by omega), vx_bit]
theorem zero_cells : (lineC (0, [])).toArray = #[Value.bool false, Value.bool false, Value.bool false, Value.bool false, Value.bool false, Value.bool false, Value.bool false, Value.bool false, Value.bool false, Value.bool false, Value.bool false, Value.bool false, Value.bool false, Value.bool false, Value.bool false, Value.bool false, Value.string { data := #[] }] := by kernel_rfl

theorem line_u : ∃ d, Tryz.prog.underlying 76 = some d ∧ d.isRow = true := ⟨_, Tryz.underlying76, rfl⟩
theorem line_i (v : Vec) : (Tryz.prog.info? 76).map (·.size) = some (lineC v).length := by rw [lineC_len]; kernel_rfl
theorem line_load {w : World} {b o : Nat} {v : Vec} (h : w.rangeAt b o (lineC v)) : (loadVar 76 ⟨b, o, none⟩).run Tryz.prog w = .ok (lineV v) w := by
  obtain ⟨d, hu, hd⟩ := line_u
  exact run_loadVar_mid w b o _ _ d h hu hd (line_i v)
theorem at_load {ops : Array Oper} {rest : List Oper} {op : Oper} {a : Act} {w : World} {Q : Exit → Act → World → Prop} (hgd : op.guard = none) (x : Operand) (ho : op.op = .load 76 x)
    (b o : Nat) (hx : a.eval x = .pointer (some ⟨b, o, none⟩)) (v : Vec) (hc : w.rangeAt b o (lineC v)) (h : wpList Tryz.prog ops Q rest (a.put op.dst (lineV v)) w) : wpList Tryz.prog ops Q (op :: rest) a w := by
  obtain ⟨d, hu, hd⟩ := line_u
  exact wpList_load_mid hgd _ x ho b o hx _ d hc hu hd (line_i v) h
theorem at_store {ops : Array Oper} {rest : List Oper} {op : Oper} {a : Act} {w : World} {Q : Exit → Act → World → Prop} (hgd : op.guard = none) (x y : Operand) (ho : op.op = .store 76 x y)
    (b o : Nat) (v : Vec) (hx : a.eval x = .pointer (some ⟨b, o, none⟩)) (hy : a.eval y = lineV v) (ht : w.there b o 17) (h : wpList Tryz.prog ops Q rest (a.put op.dst undef) (w.setCells b o (lineC v))) : wpList Tryz.prog ops Q (op :: rest) a w :=
  wpList_store_mid hgd _ x y ho b o (lineC v).toArray hx hy (by rw [List.size_toArray, lineC_len]; exact ht) (by rw [List.size_toArray]; exact line_i v) (all_oneCell_toArray (lineC_one v)) (by simpa using h)

theorem results_cell1 {P : Program} {fn : Func} {tmps : Array Value} {i : Nat} {t : TypeId} {ad : Addr} {v : Value} {w : World} (hr : fn.results = #[.cell i t]) (ha : tmps.getD i undef = .pointer (some ad)) (h : (loadVar t ad).run P w = .ok v w) :
    (results fn tmps).run P w = .ok v w := by
  rw [Array.getD_eq_getD_getElem?] at ha
  unfold results
  rw [hr]
  simp [ha, asAddr, h]
theorem results_tmp_cell {P : Program} {fn : Func} {tmps : Array Value} {i j : Nat} {t : TypeId} {ad : Addr} {u v : Value} {w : World} (hr : fn.results = #[.tmp j, .cell i t]) (hu : tmps.getD j undef = u) (ha : tmps.getD i undef = .pointer (some ad)) (h : (loadVar t ad).run P w = .ok v w) :
    (results fn tmps).run P w = .ok (.tuple #[u, v]) w := by
  rw [Array.getD_eq_getD_getElem?] at ha hu
  unfold results
  rw [hr]
  simp [hu, ha, asAddr, h]

set_option maxHeartbeats 2000000 in
set_option maxRecDepth 100000 in
theorem refOver (u v : Vec) (w : World) (h : u.2.length = v.2.length) (hl : u.2.length ≤ 1000000) :
    Calls Tryz.prog 56 #[lineV u, lineV v] w fun e w' => e = .returned (lineV (vx u v)) ∧ Lat w w' := by
  have hst := ov_start w u v 76
  rw [zero_cells] at hst
  have HST := Lib.hid hst; have HH := Lib.hid h; have HLN := Lib.hid hl
  clear hst h hl
  go_enter Tryz.func56, Tryz.ntmps56
  go_upto_region 1 with fail
  go_wp2_with fail
  go_loopg [5] 16 (fun f iv wr => ∃ i : Nat, i + f = 16 ∧ iv = .int .i64 i ∧ Hid (Ov w u v i wr))
  case atStart => exact ⟨0, rfl, rfl, HST.out⟩
  case round =>
    clear HST
    obtain ⟨i, hi, rfl, hrel⟩ := hrel
    by_cases hlt : i < 16
    · obtain ⟨f, rfl⟩ : ∃ f, gk = f + 1 := ⟨gk - 1, by omega⟩
      have di : decide ((i : Int) < 16) = true := decide_eq_true (by omega)
      have cA : wr.cell? ⟨w.heap.size, i, none⟩ = some (.bool (u.1.testBit i)) := by
        have := hrel.out.2.1.cell i (by omega)
        rw [this]; unfold ovF; rw [if_pos hlt, if_neg (by omega)]
      have fA := hrel.out.2.1.free i (by omega)
      have cB : wr.cell? ⟨w.heap.size + 1, i, none⟩ = some (.bool (v.1.testBit i)) := by
        have := hrel.out.2.2.1.cell i (by omega)
        rw [this]; unfold lineF; rw [if_pos hlt]
      have i0 : (0 : Int) ≤ (i : Int) := by omega
      have i1 : (i : Int) < 16 := by omega
      have HNX := Lib.hid ((hrel.out.keep (Lat.drew wr)).next hlt)
      go_wp2_with fail
      go_still_tail 12, (by kernel_rfl)
      clear hrel
      go_wp2_with fail
      go_roundg f
      case measure => omega
      case rel => exact ⟨i + 1, by omega, by go_num, HNX.out⟩
    · obtain rfl : i = 16 := by omega
      have hr := hrel.out
      have HR := Lib.hid hr
      have cA : wr.cell? ⟨w.heap.size, 16, none⟩ = some (.string (S u.2)) := hr.2.1.cell 16 (by decide)
      have cB : wr.cell? ⟨w.heap.size + 1, 16, none⟩ = some (.string (S v.2)) := hr.2.2.1.cell 16 (by decide)
      clear hrel hr
      go_wp2_with fail
      refine (refXor (S u.2) (S v.2) _ (by rw [S_size, S_size]; exact HH.out) (by rw [S_size]; exact HLN.out)).mono ?_
      rintro e w2 ⟨rfl, hb2⟩
      have hr2 := HR.out.keep hb2
      have cA2 := hr2.2.1.cell 16 (by decide)
      have fA2 := hr2.2.1.free 16 (by decide)
      have HE := Lib.hid (ov_end hr2)
      have HR2 := Lib.hid hr2
      clear hr2 HR hb2 cA cB
      go_upto_region 6 with fail
      refine wp_region_lit ?_
      refine at_load rfl (.tmp 2) rfl w.heap.size 0 rfl (vx u v) HE.out.range ?_
      refine at_store rfl (.tmp 4) (.tmp 28) rfl (w.heap.size + 1 + 1) 0 (vx u v) rfl rfl (blk_oth HR2.out.2.2.2 (by omega) _ _).there ?_
      have hW := HE.out.lt
      obtain ⟨W3, hW3⟩ : ∃ W3, W3 = (w2.setCell ⟨w.heap.size, 16, none⟩ (.string (S (xorL u.2 v.2)))).setCells (w.heap.size + 1 + 1) 0 (lineC (vx u v)) := ⟨_, rfl⟩
      have hth := (blk_oth HR2.out.2.2.2 (show w.heap.size + 1 + 1 ≠ w.heap.size by omega) 16 (.string (S (xorL u.2 v.2)))).there
      have hld := line_load (World.rangeAt_setCells_same _ (w.heap.size + 1 + 1) 0 (lineC (vx u v)) (by rw [lineC_len]; exact hth))
      have hlat : Lat w W3 := by
        rw [hW3]
        exact (Fr.setCells _ _ _ _).lat_of (HR2.out.1.setCell (p := ⟨w.heap.size, 16, none⟩) (Nat.le_refl _) _) (fun k e => by rw [e]; omega)
      rw [← hW3] at hld ⊢
      have HLAT := Lib.hid hlat
      clear hW hth hlat hW3
      go_wp2_with fail
      refine bodyPost_ret (v := lineV (vx u v)) ?_ rfl ⟨rfl, HLAT.out⟩
      exact results_cell1 Tryz.results56 rfl hld

def Ofs (w : World) (zs : List Int) (i : Nat) (W : World) : Prop := Lat w W ∧ Blk W (w.heap.size + 1) 17 (lineF (bitsTo zs i, [])) ∧ Blk W w.heap.size 17 (lineF (0, []))
theorem ofs_start (w : World) (zs : List Int) (t : TypeId) : Ofs w zs 0 ((w.alloc (.cells (lineC (0, [])).toArray t)).alloc (.cells (lineC (0, [])).toArray t)) := by
  have h1 := blk_line w (0, []) t
  have h2 := blk_line (w.alloc (.cells (lineC (0, [])).toArray t)) (0, []) t
  rw [World.size_alloc] at h2
  exact ⟨(Lat.alloc _ _).trans (Lat.alloc _ _), h2, h1.keep (Lat.alloc _ _)⟩
theorem Ofs.next {w W : World} {zs : List Int} {i z : Nat} (h : Ofs w zs i W) (hz : zs.getD i 0 = (z : Int)) (hz2 : z < 16) : Ofs w zs (i + 1) (W.setCell ⟨w.heap.size + 1, z, none⟩ (.bool true)) := by
  refine ⟨h.1.setCell (p := ⟨w.heap.size + 1, z, none⟩) (Nat.le_succ _) _, (h.2.1.set (by omega) _).congr fun j _ => ?_, blk_oth h.2.2 (by omega) _ _⟩
  show _ = lineF (bitsTo zs i ||| bitP (zs.getD i 0).toNat, []) j
  rw [hz, Int.toNat_natCast]
  unfold lineF bitP
  rw [Nat.testBit_or, Nat.testBit_two_pow]
  by_cases e : j = z
  · subst e; rw [if_pos rfl, if_pos hz2, decide_eq_true rfl, Bool.or_true]
  · rw [if_neg e, decide_eq_false (fun h => e h.symm), Bool.or_false]

set_option maxHeartbeats 2000000 in
set_option maxRecDepth 100000 in
theorem refOf (a : Option Addr) (n cap : Nat) (zs : List Int) (d : List UInt8) (w : World) (h : IntsAt w a n cap zs) (hz : ∀ z ∈ zs, 0 ≤ z ∧ z < 16) (hn : n ≤ 1000000) :
    Calls Tryz.prog 31 #[.slice a n cap, .string (S d)] w fun e w' => e = .returned (lineV (bitsN zs, d)) ∧ Lat w w' := by
  have hst := ofs_start w zs 76
  rw [zero_cells] at hst
  have hlen := h.len
  have HST := Lib.hid hst; have HH := Lib.hid h; have HZ := Lib.hid hz; have HLEN := Lib.hid hlen
  clear hst h hz hlen
  go_enter Tryz.func31, Tryz.ntmps31
  go_upto_region 2 with fail
  go_wp2_with fail
  go_loopg [6] n (fun f iv wr => ∃ i : Nat, i + f = n ∧ iv = .int .i64 i ∧ Hid (Ofs w zs i wr))
  case atStart => exact ⟨0, by omega, rfl, HST.out⟩
  case round =>
    clear HST
    obtain ⟨i, hi, rfl, hrel⟩ := hrel
    by_cases hlt : i < n
    · obtain ⟨f, rfl⟩ : ∃ f, gk = f + 1 := ⟨gk - 1, by omega⟩
      have di : decide (i < n) = true := decide_eq_true hlt
      have hzi := HZ.out _ (getD_mem zs i (by rw [HLEN.out]; exact hlt))
      obtain ⟨z, hzz⟩ : ∃ z : Nat, zs.getD i 0 = (z : Int) := ⟨(zs.getD i 0).toNat, by omega⟩
      obtain ⟨b, o, rfl, hc⟩ := (HH.out.keep hrel.out.1).row.at_ (by omega)
      have c0 := hc i hlt
      rw [hzz] at hzi c0
      have z1 : (0 : Int) ≤ (z : Int) := by omega
      have z2 : (z : Int) < 16 := by omega
      have hzn : z < 16 := by omega
      have cB := hrel.out.2.1.cell z (by omega)
      have fB := hrel.out.2.1.free z (by omega)
      have i0 : (0 : Int) ≤ (i : Int) := by omega
      have i1 : (i : Int) < (n : Int) := by omega
      have HNX := Lib.hid (hrel.out.next hzz hzn)
      clear hrel hc hzi hzz
      go_wp2_with fail
      go_roundg f
      case measure => omega
      case rel => exact ⟨i + 1, by omega, by go_num, HNX.out⟩
    · obtain rfl : i = n := by omega
      have hr := hrel.out
      have HR := Lib.hid hr
      have cB := hr.2.1.cell 16 (by decide)
      have fB := hr.2.1.free 16 (by decide)
      have dn : decide (i < i) = false := decide_eq_false (by omega)
      have he : Blk (wr.setCell ⟨w.heap.size + 1, 16, none⟩ (.string (S d))) (w.heap.size + 1) 17 (lineF (bitsN zs, d)) := by
        refine (hr.2.1.set (by omega) _).congr fun j hj => ?_
        unfold lineF bitsN
        rw [HLEN.out]
        by_cases e : j = 16
        · rw [if_pos e, if_neg (by omega)]
        · rw [if_neg e, if_pos (by omega), if_pos (by omega)]
      have HE := Lib.hid he
      clear hrel hr he
      go_upto_region 7 with fail
      refine wp_region_lit ?_
      refine at_load rfl (.tmp 5) rfl (w.heap.size + 1) 0 rfl (bitsN zs, d) HE.out.range ?_
      refine at_store rfl (.tmp 4) (.tmp 21) rfl w.heap.size 0 (bitsN zs, d) rfl rfl (blk_oth HR.out.2.2 (by omega) _ _).there ?_
      obtain ⟨W3, hW3⟩ : ∃ W3, W3 = (wr.setCell ⟨w.heap.size + 1, 16, none⟩ (.string (S d))).setCells w.heap.size 0 (lineC (bitsN zs, d)) := ⟨_, rfl⟩
      have hth := (blk_oth HR.out.2.2 (show w.heap.size ≠ w.heap.size + 1 by omega) 16 (.string (S d))).there
      have hld := line_load (World.rangeAt_setCells_same _ w.heap.size 0 (lineC (bitsN zs, d)) (by rw [lineC_len]; exact hth))
      have hlat : Lat w W3 := by
        rw [hW3]
        exact (Fr.setCells _ _ _ _).lat_of (HR.out.1.setCell (p := ⟨w.heap.size + 1, 16, none⟩) (Nat.le_succ _) _) (fun k e => by rw [e]; omega)
      rw [← hW3] at hld ⊢
      have HLAT := Lib.hid hlat
      clear hth hlat hW3
      go_wp2_with fail
      refine bodyPost_ret (v := lineV (bitsN zs, d)) ?_ rfl ⟨rfl, HLAT.out⟩
      exact results_cell1 Tryz.results31 rfl hld
end Go.Proofs.YtcpookgbneoilaaGreatDoor

namespace Go.Proofs.YtcpookgbneoilaaGreatDoor
open Go.ChangeShapes Go.WideShapes Go.ChangeAt Go.RowKit

def putL (zs : List Int) (v : Int) : List Int := zs.takeWhile (fun x => decide (x < v)) ++ v :: zs.dropWhile (fun x => decide (x < v))
theorem tw_split (v : Int) : ∀ (zs : List Int) (k : Nat), k ≤ zs.length → (∀ j, j < k → zs.getD j 0 < v) → (k = zs.length ∨ ¬ zs.getD k 0 < v) →
    zs.take k = zs.takeWhile (fun x => decide (x < v)) ∧ zs.drop k = zs.dropWhile (fun x => decide (x < v))
  | [], k, hk, _, _ => by simp
  | z :: zs, 0, _, _, h => by
    have hz : ¬ z < v := by
      rcases h with h | h
      · simp at h
      · simpa using h
    simp [hz]
  | z :: zs, k + 1, hk, h1, h2 => by
    have hz : z < v := by simpa using h1 0 (by omega)
    have ih := tw_split v zs k (by simpa using hk) (fun j hj => by simpa using h1 (j + 1) (by omega)) (by simpa using h2)
    simp [hz, ih.1, ih.2]
theorem putL_length (zs : List Int) (v : Int) : (putL zs v).length = zs.length + 1 := by
  have h := congrArg List.length (List.takeWhile_append_dropWhile (p := fun x : Int => decide (x < v)) (l := zs))
  rw [List.length_append] at h
  unfold putL
  rw [List.length_append, List.length_cons]; omega
theorem putL_perm (zs : List Int) (v : Int) : (putL zs v).Perm (v :: zs) := by
  unfold putL
  refine List.perm_middle.trans ?_
  rw [List.takeWhile_append_dropWhile]
theorem mem_putL (zs : List Int) (v x : Int) : x ∈ putL zs v ↔ x = v ∨ x ∈ zs := by
  rw [(putL_perm zs v).mem_iff, List.mem_cons]
theorem dropWhile_ge (v : Int) : ∀ (zs : List Int), zs.Pairwise (· ≤ ·) → ∀ x ∈ zs.dropWhile (fun x => decide (x < v)), v ≤ x
  | [], _, x, hx => by simp at hx
  | z :: zs, h, x, hx => by
    rw [List.pairwise_cons] at h
    by_cases hz : z < v
    · rw [List.dropWhile_cons, if_pos (by simpa using hz)] at hx
      exact dropWhile_ge v zs h.2 x hx
    · rw [List.dropWhile_cons, if_neg (by simpa using hz)] at hx
      rcases List.mem_cons.1 hx with e | e
      · omega
      · have := h.1 x e; omega
theorem takeWhile_lt (v : Int) : ∀ (zs : List Int), ∀ x ∈ zs.takeWhile (fun x => decide (x < v)), x < v
  | [], x, hx => by simp at hx
  | z :: zs, x, hx => by
    by_cases hz : z < v
    · rw [List.takeWhile_cons, if_pos (by simpa using hz)] at hx
      rcases List.mem_cons.1 hx with e | e
      · omega
      · exact takeWhile_lt v zs x e
    · rw [List.takeWhile_cons, if_neg (by simpa using hz)] at hx; simp at hx
theorem putL_sorted (zs : List Int) (v : Int) (h : zs.Pairwise (· ≤ ·)) : (putL zs v).Pairwise (· ≤ ·) := by
  have hsp := List.takeWhile_append_dropWhile (p := fun x : Int => decide (x < v)) (l := zs)
  rw [← hsp, List.pairwise_append] at h
  obtain ⟨h1, h2, _⟩ := h
  have hg := dropWhile_ge v zs (by rw [← hsp, List.pairwise_append]; exact ⟨h1, h2, ‹_›⟩)
  unfold putL
  rw [List.pairwise_append, List.pairwise_cons]
  refine ⟨h1, ⟨fun x hx => hg x hx, h2⟩, fun a ha b hb => ?_⟩
  have := takeWhile_lt v zs a ha
  rcases List.mem_cons.1 hb with e | e
  · omega
  · have := hg b e; omega
abbrev srt (zs : List Int) : List Int := zs.mergeSort (fun x y => decide (x ≤ y))
theorem srt_sorted (zs : List Int) : (srt zs).Pairwise (· ≤ ·) :=
  (List.pairwise_mergeSort (le := fun x y : Int => decide (x ≤ y)) (fun a b c h1 h2 => by simp only [decide_eq_true_eq] at *; omega) (fun a b => by simp only [Bool.or_eq_true, decide_eq_true_eq]; omega) zs).imp (fun {a b} h => by simpa using h)
theorem sorted_eq {a b : List Int} (ha : a.Pairwise (· ≤ ·)) (hb : b.Pairwise (· ≤ ·)) (h : a.Perm b) : a = b :=
  List.Perm.eq_of_pairwise (le := (· ≤ ·)) (fun _ _ _ _ h1 h2 => Int.le_antisymm h1 h2) ha hb h
theorem putL_srt (zs : List Int) (v : Int) : putL (srt zs) v = srt (zs ++ [v]) := by
  refine sorted_eq (putL_sorted _ _ (srt_sorted _)) (srt_sorted _) ?_
  refine (putL_perm _ _).trans ?_
  refine ((List.mergeSort_perm zs _).cons v).trans ?_
  refine List.Perm.trans ?_ (List.mergeSort_perm (zs ++ [v]) _).symm
  exact (List.perm_append_singleton v zs).symm

theorem IntsAt.from_ {w : World} {a : Option Addr} {n cap : Nat} {zs : List Int} (h : IntsAt w a n cap zs) (k : Nat) (hk : k ≤ n) : IntsAt w (if cap = k then a else a.map (·.add k)) (n - k) (cap - k) (zs.drop k) := by
  have hl := h.len
  have hle := h.row.le
  refine ⟨by rw [List.length_drop, hl], ⟨by omega, by have := h.row.cap; unfold maxLen at this ⊢; omega, fun hne => ?_⟩, fun z hz => h.wf z (List.mem_of_mem_drop hz)⟩
  obtain ⟨b, o, rfl, hc⟩ := h.row.at_ (by omega)
  rw [if_neg (by omega)]
  refine ⟨b, o + k, by rw [Option.map_some, Addr.add_lit], fun j hj => ?_⟩
  have := hc (k + j) (by omega)
  rw [Nat.add_assoc, this]
  congr 2
  rw [List.getD_eq_getElem?_getD, List.getD_eq_getElem?_getD, List.getElem?_drop]

set_option maxHeartbeats 1000000 in
set_option maxRecDepth 100000 in
theorem refPut (a : Option Addr) (n cap : Nat) (zs : List Int) (v : Int) (w : World) (h : IntsAt w a n cap zs) (hn : n ≤ 1000000) :
    Calls Tryz.prog 44 #[.slice a n cap, .int .i64 v] w fun e w' => ∃ u, e = .returned u ∧ OwnInts w' w.heap.size u (putL zs v) ∧ Lat w w' := by
  have hcap2 := h.row.cap
  have hle2 := h.row.le
  unfold maxLen at hcap2
  have hl := h.len
  have H := Lib.hid h
  have HL := Lib.hid hl
  clear h hl
  go_enter Tryz.func44, Tryz.ntmps44
  go_wp2
  go_loopw [5, 6] (fun u i wr => ∃ k : Nat, k ≤ n ∧ i = .int .i64 k ∧ Hid (OwnInts wr w.heap.size u (zs.take k) ∧ Lat w wr ∧ ∀ j, j < k → zs.getD j 0 < v)) (fun _ i _ => n - (intOf i).toNat)
  case atStart => exact ⟨0, Nat.zero_le _, rfl, by rw [List.take_zero]; exact Own.nil _ _ _, Lat.refl _, fun j hj => by omega⟩
  case round =>
    obtain ⟨k, hk, rfl, hrel⟩ := hrel
    have hsp : (k = n ∨ ¬ zs.getD k 0 < v) ∨ (k < n ∧ zs.getD k 0 < v) := by
      by_cases h1 : k < n
      · by_cases h2 : zs.getD k 0 < v
        · exact .inr ⟨h1, h2⟩
        · exact .inl (.inr h2)
      · exact .inl (.inl (by omega))
    have HA := Lib.hid (H.out.keep hrel.out.2.1)
    rcases hsp with hend | ⟨hlt, hz⟩
    · have hw := tw_split v zs k (by rw [HL.out]; exact hk) hrel.out.2.2 (by rw [HL.out]; exact hend)
      have hfin : putL zs v = (zs.take k ++ [v]) ++ zs.drop k := by
        unfold putL; rw [hw.1, hw.2, List.append_assoc]; rfl
      have HF := Lib.hid hfin
      have hlen : (zs.take k).length < 1000000000000 := by rw [List.length_take]; omega
      have hlen2 : (zs.take k ++ [v]).length + (n - k) < 1000000000000 := by rw [List.length_append, List.length_take, List.length_singleton]; omega
      have HLN := Lib.hid hlen
      have HLN2 := Lib.hid hlen2
      have hc : (decide (k < n) = false ∧ n ≤ k) ∨ (decide ((k : Int) < (n : Int)) = true ∧ ∃ b o, a = some ⟨b, o, none⟩ ∧ wr.cell? ⟨b, o + k, none⟩ = some (.int .i64 (zs.getD k 0)) ∧ decide (zs.getD k 0 < v) = false ∧ k < n) := by
        by_cases h1 : k < n
        · right
          obtain ⟨b, o, ha, hc⟩ := HA.out.row.at_ (by omega)
          exact ⟨decide_eq_true (by omega), b, o, ha, hc k h1, decide_eq_false (by rcases hend with h2 | h2; omega; exact h2), h1⟩
        · exact .inl ⟨decide_eq_false (by omega), by omega⟩
      clear hend hw hfin hlen hlen2
      rcases hc with ⟨dk, hge⟩ | ⟨dk, b, o, rfl, ck, dz, hlt⟩
      rotate_left
      focus
        obtain ⟨z, hz⟩ : ∃ z, z = zs.getD k 0 := ⟨_, rfl⟩
        rw [← hz] at ck dz
        clear hz
      rotate_left
      focus
        have i1 : (0 : Int) ≤ (k : Int) := by omega
        have i2 : (k : Int) ≤ (n : Int) := by omega
        go_upto_region 7 with (at_builtin; refine app_int wr w _ rfl (.tmp 28) (.tmp 30) rfl _ _ v rfl hrel.out.1 rfl HLN.out rfl hrel.out.2.1 ?_; intro v' w2 hown' hb' _)
        have hat := (H.out.keep hb').from_ k hk
        obtain ⟨A2, hA2⟩ : ∃ A2, A2 = (if cap = k then a else a.map (·.add k)) := ⟨_, rfl⟩
        rw [← hA2, show n - k = 0 from by omega] at hat
        have hrun : ∀ W : World, (Instr.slice 42 (.slice a n cap) (some (.int .i64 k)) none none).run Tryz.prog W = .ok (.slice A2 0 (cap - k)) W := fun W => by
          rw [hA2, ← show n - k = 0 from by omega]; simp [go_sem, i1, i2]
        have HAT := Lib.hid hat
        have hl3 : (zs.take k ++ [v]).length + 0 < 1000000000000 := by have := HLN2.out; omega
        have HLN3 := Lib.hid hl3
        clear hl3
        clear hA2 hat
        go_wp2_with (at_builtin; refine app_ints _ w _ rfl (.tmp 32) (.tmp 35) rfl _ _ (zs.drop k) rfl hown' _ 0 _ rfl HAT.out HLN3.out rfl hb' ?_; intro v'' w3 hown'' hb'' _)
        go_ret
        exact ⟨_, rfl, by rw [HF.out]; exact hown'', hb''⟩
      focus
        have i1 : (0 : Int) ≤ (k : Int) := by omega
        have i2 : (k : Int) ≤ (n : Int) := by omega
        go_upto_region 7 with (at_builtin; refine app_int wr w _ rfl (.tmp 28) (.tmp 30) rfl _ _ v rfl hrel.out.1 rfl HLN.out rfl hrel.out.2.1 ?_; intro v' w2 hown' hb' _)
        have hat := (H.out.keep hb').from_ k hk
        rw [if_neg (by omega), Option.map_some, Addr.add_lit] at hat
        have HAT := Lib.hid hat
        clear hat
        go_wp2_with (at_builtin; refine app_ints _ w _ rfl (.tmp 32) (.tmp 35) rfl _ _ (zs.drop k) rfl hown' _ (n - k) _ rfl HAT.out HLN2.out rfl hb' ?_; intro v'' w3 hown'' hb'' _)
        go_ret
        exact ⟨_, rfl, by rw [HF.out]; exact hown'', hb''⟩
    · obtain ⟨b, o, rfl, hc⟩ := HA.out.row.at_ (by omega)
      have ck := hc k hlt
      have hst : zs.take (k + 1) = zs.take k ++ [zs.getD k 0] := by
        have hkz : k < zs.length := by rw [HL.out]; exact hlt
        rw [List.take_succ_eq_append_getElem hkz, List.getD_eq_getElem?_getD, List.getElem?_eq_getElem hkz]; rfl
      have hall : ∀ j, j < k + 1 → zs.getD j 0 < v := fun j hj => by
        by_cases e : j = k
        · subst e; exact hz
        · exact hrel.out.2.2 j (by omega)
      have HALL := Lib.hid hall
      have HST := Lib.hid hst
      have hlen : (zs.take k).length < 1000000000000 := by rw [List.length_take]; omega
      have HLN := Lib.hid hlen
      obtain ⟨z, hze⟩ : ∃ z, z = zs.getD k 0 := ⟨_, rfl⟩
      rw [← hze] at ck hz
      have HZE := Lib.hid hze
      have dk : decide ((k : Int) < (n : Int)) = true := decide_eq_true (by omega)
      have dz : decide (z < v) = true := decide_eq_true hz
      clear hc hst hall hlen hze
      go_wp2_with (at_builtin; refine app_int wr w _ rfl _ _ rfl _ _ z rfl hrel.out.1 rfl HLN.out rfl hrel.out.2.1 ?_; intro v' w2 hown' hb' _)
      go_roundw
      case rel => exact ⟨k + 1, by omega, by go_num, by rw [HST.out, ← HZE.out]; exact hown', hb', HALL.out⟩
      case measure => simp [intOf]; omega
end Go.Proofs.YtcpookgbneoilaaGreatDoor

namespace Go.Proofs.YtcpookgbneoilaaGreatDoor
open Go.ChangeShapes Go.WideShapes Go.ChangeAt Go.RowKit

theorem refNext (n : Nat) (w : World) (h1 : n ≤ 2147483647) :
    Calls Tryz.prog 54 #[.int .i64 n] w fun e w' => e = .returned (.int .i64 (nxtN n)) ∧ w = w' := by
  go_enter Tryz.func54, Tryz.ntmps54
  go_wp2
  go_ret
  exact ⟨by rw [← nxt_cast]; rfl, rfl⟩

set_option maxHeartbeats 1000000 in
set_option maxRecDepth 100000 in
theorem refSet (k seed : Nat) (w : World) (h1 : 1 ≤ k) (h2 : k ≤ 16) (h3 : 1 ≤ seed) (h4 : seed ≤ 10000) :
    Calls Tryz.prog 32 #[.int .i64 k, .int .i64 seed] w fun e w' => ∃ a cap, e = .returned (.slice a (setZ k seed).length cap) ∧ IntsAt w' a (setZ k seed).length cap (setZ k seed) ∧ Lat w w' := by
  by_cases hle : seed ≤ k
  · have d1 : decide (seed ≤ k) = true := decide_eq_true hle
    have e1 : setZ k seed = [((seed - 1 : Nat) : Int)] := by unfold setZ; rw [if_pos hle]
    have e2 : (seed : Int) - 1 = ((seed - 1 : Nat) : Int) := by omega
    have hat := ints_new w [(seed : Int) - 1] 3 (by simp) (by intro z hz; rw [List.mem_singleton] at hz; subst hz; omega)
    rw [e1, ← e2]
    have HT := Lib.hid hat
    clear hat e1 e2
    go_enter Tryz.func32, Tryz.ntmps32
    go_wp2
    go_ret
    exact ⟨_, _, rfl, HT.out, Lat.alloc _ _⟩
  · have d1 : decide (seed ≤ k) = false := decide_eq_false hle
    have hl := drawn_length k seed h1 h2 (by omega) h4
    obtain ⟨d, hd⟩ : ∃ d, d = degF k (nxtN seed % 1000) := ⟨_, rfl⟩
    have hdb := degF_bd k (nxtN seed % 1000) h1 (by omega)
    rw [← hd] at hl hdb
    have hdr : dgo k d 150 (nxtN seed) [] = drawn k seed := by rw [hd]; rfl
    have hset : setZ k seed = srt ((drawn k seed).map Int.ofNat) := by unfold setZ; rw [if_neg hle]
    have hsl : (setZ k seed).length = d := by rw [hset, List.length_mergeSort, List.length_map, hl]
    rw [hsl]
    have HD := Lib.hid hd; have HL := Lib.hid hl; have HDR := Lib.hid hdr; have HS := Lib.hid hset; have HSL := Lib.hid hsl
    have hs3 := nxtN_lt seed
    clear hd hl hdr hset hle hsl
    go_enter Tryz.func32, Tryz.ntmps32
    go_wp2_with (first | (go_at_call 54; refine (refNext seed _ (by omega)).mono ?_; rintro e w' ⟨rfl, rfl⟩) | (go_at_call 55; refine (refDegree k (nxtN seed % 1000) _ h1 h2 (by omega)).mono ?_; rw [← HD.out]; rintro e w' ⟨rfl, rfl⟩))
    have hd0 : 1 ≤ d := hdb.1
    have hd16 : d ≤ 16 := by omega
    clear hdb
    go_loopg [5, 7] 150 (fun f nv v wr => ∃ (nn : Nat) (L : List Nat) (a : Option Addr) (ln cap : Nat), nv = .int .i64 nn ∧ nn < 2147483647 ∧ v = .slice a ln cap ∧ Hid (ln = L.length ∧ IntsAt wr a ln cap (srt (L.map Int.ofNat)) ∧ Lat w wr ∧ dgo k d f nn L = drawn k seed ∧ L.length ≤ d ∧ ∀ i ∈ L, i < k))
    case atStart => exact ⟨nxtN seed, [], none, 0, 0, rfl, hs3, rfl, rfl, by rw [List.map_nil, srt, List.mergeSort_nil]; exact IntsAt.nil _, Lat.refl _, HDR.out, Nat.zero_le _, by simp⟩
    case round =>
      obtain ⟨nn, L, a, ln, cap, rfl, hnn, rfl, hrel⟩ := hrel
      obtain ⟨hln2, hat, hb, hdg, hLd, hLk⟩ := hrel.out
      have hlb : ln ≤ 16 := by omega
      have HDG := Lib.hid hdg; have HLN := Lib.hid hln2; have HLK := Lib.hid hLk; have HA := Lib.hid hat; have HB := Lib.hid hb
      have hnext := nxtN_lt nn
      by_cases hlt : ln < d
      · have hgk : ∃ g, gk = g + 1 := by
          rcases Nat.eq_zero_or_pos gk with h0 | h0
          · subst h0
            exfalso
            have e : L = drawn k seed := hdg
            have := HL.out
            rw [← e] at this
            omega
          · exact ⟨gk - 1, by omega⟩
        obtain ⟨g, hg⟩ := hgk
        have hstep : dgo k d g (nxtN nn) (if nxtN nn % k ∈ L then L else L ++ [nxtN nn % k]) = drawn k seed := by
          rw [hg] at hdg
          rw [← hdg]
          have hL : L.length < d := by omega
          exact (if_pos hL).symm
        have HST := Lib.hid hstep
        have HG := Lib.hid hg
        have hkz : ((k : Int) == 0) = false := by simp; omega
        clear hdg hLd hLk hat hb hln2 hstep hg hrel
        by_cases hmem : nxtN nn % k ∈ L
        · have hm2 : ((nxtN nn : Nat) : Int) % (k : Int) ∈ srt (L.map Int.ofNat) := by rw [List.mem_mergeSort]; exact (mem_ofNat _ L).2 hmem
          have HM := Lib.hid hm2
          have HM1 := Lib.hid hmem
          clear hm2 hmem
          go_wp2_with (first | (go_at_call 54; refine (refNext nn _ (by omega)).mono ?_; rintro e w' ⟨rfl, rfl⟩) | (go_at_call 22; refine (refIn_yes a ln cap (srt (L.map Int.ofNat)) _ _ HA.out HM.out).mono ?_; rintro e w' ⟨rfl, rfl⟩))
          go_roundg g
          case measure => rw [HG.out]; omega
          case rel => exact ⟨nxtN nn, L, a, ln, cap, rfl, hnext, rfl, HLN.out, HA.out, HB.out, by have := HST.out; rw [if_pos HM1.out] at this; exact this, by rw [← HLN.out]; omega, HLK.out⟩
        · have hm2 : ((nxtN nn : Nat) : Int) % (k : Int) ∉ srt (L.map Int.ofNat) := fun h => hmem ((mem_ofNat _ L).1 (by rw [List.mem_mergeSort] at h; exact h))
          have HM := Lib.hid hm2
          have HM1 := Lib.hid hmem
          have hput : putL (srt (L.map Int.ofNat)) ((nxtN nn % k : Nat) : Int) = srt ((L ++ [nxtN nn % k]).map Int.ofNat) := by
            rw [putL_srt, List.map_append]; rfl
          have hpl : (putL (srt (L.map Int.ofNat)) ((nxtN nn % k : Nat) : Int)).length = ln + 1 := by
            rw [putL_length, List.length_mergeSort, List.length_map, HLN.out]
          have hwf : ∀ z ∈ putL (srt (L.map Int.ofNat)) ((nxtN nn % k : Nat) : Int), -9223372036854775808 ≤ z ∧ z ≤ 9223372036854775807 := fun z hz => by
            rw [mem_putL] at hz
            rcases hz with hz | hz
            · subst hz
              have : nxtN nn % k < k := Nat.mod_lt _ (by omega)
              omega
            · exact HA.out.wf z hz
          have HP := Lib.hid hput
          have HPL := Lib.hid hpl
          have HWF := Lib.hid hwf
          have hln1 : ln ≤ 1000000 := by omega
          clear hm2 hmem hput hpl hwf
          go_wp2_with (first | (go_at_call 54; refine (refNext nn _ (by omega)).mono ?_; rintro e w' ⟨rfl, rfl⟩) | (go_at_call 22; refine (refIn_no a ln cap (srt (L.map Int.ofNat)) _ _ HA.out HM.out).mono ?_; rintro e w' ⟨rfl, rfl⟩) | (go_at_call 44; refine (refPut a ln cap (srt (L.map Int.ofNat)) ((nxtN nn % k : Nat) : Int) _ HA.out hln1).mono ?_; rintro e w' ⟨u, rfl, hown', hb'⟩))
          obtain ⟨a2, cap2, hu, hat2⟩ := OwnInts.slice hown' HWF.out
          rw [HPL.out] at hu hat2
          subst hu
          go_roundg g
          case measure => rw [HG.out]; omega
          case rel =>
            refine ⟨nxtN nn, L ++ [nxtN nn % k], a2, ln + 1, cap2, rfl, hnext, rfl, by rw [List.length_append, List.length_singleton, HLN.out], by rw [← HP.out]; exact hat2, Lat.trans HB.out hb', by have := HST.out; rw [if_neg HM1.out] at this; exact this, by rw [List.length_append, List.length_singleton, ← HLN.out]; omega, fun i hi => ?_⟩
            rcases List.mem_append.1 hi with hi | hi
            · exact HLK.out i hi
            · rw [List.mem_singleton] at hi; subst hi; exact Nat.mod_lt _ (by omega)
      · have hLd' : L = drawn k seed := by
          rw [dgo_done _ _ _ _ _ (by omega)] at hdg; exact hdg
        have hlnd : ln = d := by omega
        have hfin : srt (L.map Int.ofNat) = setZ k seed := by rw [HS.out, hLd']
        have HF := Lib.hid hfin; have HND := Lib.hid hlnd
        clear hdg hLd hLk hat hb hln2 hrel hLd' hlnd hfin
        go_wp2_with fail
        go_ret
        have h := HA.out
        rw [HF.out] at h
        obtain rfl := HND.out
        exact ⟨a, cap, rfl, h, HB.out⟩
end Go.Proofs.YtcpookgbneoilaaGreatDoor

namespace Go.Proofs.YtcpookgbneoilaaGreatDoor
open Go.ChangeShapes Go.WideShapes Go.ChangeAt Go.RowKit

def plF (k : Nat) (K : Kn) (lv tv : Value) (j : Nat) : Value := if j = 0 then .int .i64 k else if j < 17 then .bool (K ((j : Int) - 1)).isSome else if j < 33 then .string (S ((K ((j : Int) - 17)).getD [])) else if j = 33 then lv else tv
structure RPeelIn (G : Nat → Prop) (p k m : Nat) (K : Kn) (T : List Int) (ds : List Dr) (lv tv : Value) (w : World) : Prop where
  lt : ∀ i, G i → i < w.heap.size
  gp : G p
  blk : Blk w p 35 (plF k K lv tv)
  drops : OwnR w 0 37 2 lv (ds.map Dr.row)
  taken : OwnInts w 0 tv T
  own1 : ∀ i, lv.ownBlock = some i → G i ∧ i ≠ p
  own2 : ∀ i, tv.ownBlock = some i → G i ∧ i ≠ p
  kn : ∀ z b, K z = some b → 0 ≤ z ∧ z < (k : Int) ∧ b.length = m
  ok : ∀ d ∈ ds, 1 ≤ d.s ∧ d.s ≤ 10000 ∧ d.t.size = m
theorem RPeelIn.keep {G : Nat → Prop} {p k m : Nat} {K : Kn} {T : List Int} {ds : List Dr} {lv tv : Value} {w w' : World} (h : RPeelIn G p k m K T ds lv tv w) (hb : Lat w w') : RPeelIn G p k m K T ds lv tv w' :=
  ⟨fun i hi => Nat.lt_of_lt_of_le (h.lt i hi) hb.size, h.gp, h.blk.keep hb, h.drops.keep hb, Own.keep h.taken hb, h.own1, h.own2, h.kn, h.ok⟩
def ukn (K : Kn) (zs : List Int) (j : Nat) : List Int := (zs.take j).filter (unkn K)
theorem ukn_succ (K : Kn) {zs : List Int} {j : Nat} (h : j < zs.length) : ukn K zs (j + 1) = if unkn K (zs.getD j 0) = true then ukn K zs j ++ [zs.getD j 0] else ukn K zs j := by
  unfold ukn
  rw [List.take_succ_eq_append_getElem h, List.filter_append, List.getD_eq_getElem?_getD, List.getElem?_eq_getElem h]
  show _ ++ [zs[j]].filter _ = _
  cases e : unkn K zs[j] <;> simp [e]
theorem ukn_len (K : Kn) (zs : List Int) (j : Nat) : (ukn K zs j).length ≤ j := by
  unfold ukn
  refine Nat.le_trans (List.length_filter_le _ _) ?_
  rw [List.length_take]; omega

set_option maxHeartbeats 8000000 in
set_option maxRecDepth 100000 in
theorem refLeft (G : Nat → Prop) (p k m : Nat) (K : Kn) (T : List Int) (ds : List Dr) (lv tv : Value) (z : Nat) (t : Bts) (w : World) (h : RPeelIn G p k m K T ds lv tv w) (h1 : 1 ≤ k) (h2 : k ≤ 16) (hz1 : 1 ≤ z) (hz2 : z ≤ 10000) :
    Calls Tryz.prog 42 #[.pointer (some ⟨p, 0, none⟩), .agg #[.int .i64 z, .string (S t)]] w fun e w' => ∃ v, e = .returned v ∧ OwnInts w' w.heap.size v ((setZ k z).filter (unkn K)) ∧ Lat w w' := by
  have c0 : w.cell? ⟨p, 0, none⟩ = some (.int .i64 k) := h.blk.cell 0 (by decide)
  have hpl := h.blk.lt
  have hkn : ∀ W, Lat w W → ∀ q, q < 16 → W.cell? ⟨p, 1 + q, none⟩ = some (.bool (!unkn K (q : Int))) := fun W hW q hq => by
    rw [(h.blk.keep hW).cell (1 + q) (by omega)]
    unfold plF unkn
    rw [if_neg (by omega), if_pos (by omega), show ((1 + q : Nat) : Int) - 1 = (q : Int) by omega]
    cases K (q : Int) <;> rfl
  have hset := fun W => refSet k z W h1 h2 hz1 hz2
  have hs16 := setZ_lt k z h1 hz1
  have hsl := setZ_length k z h1 h2 hz2
  obtain ⟨ZS, hZS⟩ : ∃ ZS, ZS = setZ k z := ⟨_, rfl⟩
  rw [← hZS] at hset hs16 hsl ⊢
  obtain ⟨n, hn⟩ : ∃ n, n = ZS.length := ⟨_, rfl⟩
  rw [← hn] at hset hsl
  have HKN := Lib.hid hkn; have HSET := Lib.hid hset; have HS16 := Lib.hid hs16; have HSL := Lib.hid hsl; have HN := Lib.hid hn
  have hpne : p ≠ w.heap.size := by omega
  clear h hkn hset hs16 hsl hZS hn
  go_enter Tryz.func42, Tryz.ntmps42
  have c0 : (w.alloc (.cells #[.int .i64 z, .string (S t)] 37)).cell? ⟨p, 0, none⟩ = some (.int .i64 k) := (Lat.alloc _ _).cell_at c0
  go_upto_region 2 with fail
  have hF : (w.alloc (.cells #[.int .i64 z, .string (S t)] 37)).drew.cell? ⟨p, 0, none⟩ = some (.int .i64 k) ∧ (w.alloc (.cells #[.int .i64 z, .string (S t)] 37)).drew.cell? ⟨w.heap.size, 0, none⟩ = some (.int .i64 z) := ⟨c0, by simp⟩
  refine wp_region_gate (fun w' => w'.cell? ⟨p, 0, none⟩ = some (.int .i64 k) ∧ w'.cell? ⟨w.heap.size, 0, none⟩ = some (.int .i64 z)) (fun _ => True) 1000 (by kernel_rfl) ?_
  refine gate_takeF (i := 0) (v := ?_) rfl (by kernel_rfl) (by kernel_rfl) (by kernel_rfl) (fun _ _ _ h => h) (by decide) ⟨hF, fun _ => trivial⟩ (Or.inl ⟨by kernel_rfl, ?_⟩) ?_
  rotate_left
  · intro wq hSw; obtain ⟨s0, s1⟩ := hSw; go_simp; rfl
  simp only [Act.put]
  refine gate_takeF (i := 1) (v := ?_) rfl (by kernel_rfl) (by kernel_rfl) (by kernel_rfl) (fun _ _ _ h => h) (by decide) ⟨hF, fun _ => trivial⟩ (Or.inl ⟨by kernel_rfl, ?_⟩) ?_
  rotate_left
  · intro wq hSw; obtain ⟨s0, s1⟩ := hSw; go_simp; rfl
  simp only [Act.put]
  refine gate_takeF (i := 2) (v := ?_) rfl (by kernel_rfl) (by kernel_rfl) (by kernel_rfl) (fun _ _ _ h => h) (by decide) ⟨hF, fun _ => trivial⟩ (Or.inl ⟨by kernel_rfl, ?_⟩) ?_
  rotate_left
  · intro wq hSw; obtain ⟨s0, s1⟩ := hSw; go_simp; rfl
  simp only [Act.put]
  refine gate_takeF (i := 3) (v := ?_) rfl (by kernel_rfl) (by kernel_rfl) (by kernel_rfl) (fun _ _ _ h => h) (by decide) ⟨hF, fun _ => trivial⟩ (Or.inl ⟨by kernel_rfl, ?_⟩) ?_
  rotate_left
  · intro wq hSw; obtain ⟨s0, s1⟩ := hSw; go_simp; rfl
  simp only [Act.put]
  refine gate_takeF (i := 4) (v := ?_) rfl (by kernel_rfl) (by kernel_rfl) (by kernel_rfl) (fun _ _ _ h => h) (by decide) ⟨hF, fun _ => trivial⟩ (Or.inl ⟨by kernel_rfl, ?_⟩) ?_
  rotate_left
  · intro wq hSw; obtain ⟨s0, s1⟩ := hSw; go_simp; rfl
  simp only [Act.put]
  refine gate_takeF (i := 5) (v := ?_) rfl (by kernel_rfl) (by kernel_rfl) (by kernel_rfl) (fun _ _ _ h => h) (by decide) ⟨hF, fun _ => trivial⟩ (Or.inl ⟨by kernel_rfl, ?_⟩) ?_
  rotate_left
  · intro wq hSw; obtain ⟨s0, s1⟩ := hSw; go_simp; rfl
  simp only [Act.put]
  refine gate_one (i := 6) (by kernel_rfl) rfl (fun KK hK => ?_)
  go_simp
  refine (HSET.out _).mono ?_
  rintro e w2 ⟨sa, sc, rfl, hsi, hb2⟩
  have hF' : w2.cell? ⟨p, 0, none⟩ = some (.int .i64 k) ∧ w2.cell? ⟨w.heap.size, 0, none⟩ = some (.int .i64 z) := ⟨hb2.cell_at hF.1, hb2.cell_at hF.2⟩
  refine hK _ _ ⟨hF', fun _ => trivial⟩ ?_
  have HL2 := Lib.hid (((Lat.alloc w (.cells #[.int .i64 z, .string (S t)] 37)).trans (Lat.drew _)).trans hb2); have HSI := Lib.hid hsi
  clear hK KK hF hb2 hsi c0
  have hF := hF'
  clear hF'
  refine gate_takeF (i := 7) (v := ?_) rfl (by kernel_rfl) (by kernel_rfl) (by kernel_rfl) (fun _ _ _ h => h) (by decide) ⟨hF, fun _ => trivial⟩ (Or.inl ⟨by kernel_rfl, ?_⟩) ?_
  rotate_left
  · intro wq hSw; obtain ⟨s0, s1⟩ := hSw; go_simp; rfl
  simp only [Act.put]
  refine gate_done (by kernel_rfl) ?_ _
  clear hF
  simp only [List.getElem_toArray, List.getElem_cons_succ, List.getElem_cons_zero]
  go_simp
  go_wp2_with fail
  go_loopg [5, 7] n (fun f ov iv wx => ∃ j : Nat, j + f = n ∧ iv = .int .i64 j ∧ Hid (OwnInts wx w2.heap.size ov (ukn K ZS j) ∧ Lat w2 wx))
  case atStart => exact ⟨0, by omega, rfl, Own.nil _ _ _, Lat.refl w2⟩
  case round =>
    obtain ⟨j, hj, rfl, hrel⟩ := hrel
    by_cases hlt : j < n
    · obtain ⟨f, rfl⟩ : ∃ f, gk = f + 1 := ⟨gk - 1, by omega⟩
      have dj : decide (j < n) = true := decide_eq_true hlt
      have hjl : j < ZS.length := by rw [← HN.out]; exact hlt
      have hzj := HS16.out _ (getD_mem ZS j hjl)
      have hus := ukn_succ K hjl
      have hul := ukn_len K ZS j
      obtain ⟨b, o, rfl, hc⟩ := (HSI.out.keep hrel.out.2).row.at_ (by omega)
      have cz := hc j hlt
      obtain ⟨q, hq⟩ : ∃ q : Nat, ZS.getD j 0 = (q : Int) := ⟨(ZS.getD j 0).toNat, by omega⟩
      rw [hq] at cz hus hzj
      have q0 : (0 : Int) ≤ (q : Int) := by omega
      have q1 : (q : Int) < 16 := by omega
      have cb := HKN.out wr (HL2.out.trans hrel.out.2) q (by omega)
      obtain ⟨U, hU⟩ : ∃ U, U = unkn K (q : Int) := ⟨_, rfl⟩
      rw [← hU] at cb hus
      have i0 : (0 : Int) ≤ (j : Int) := by omega
      have hn16 : n ≤ 16 := by have := HSL.out.2; omega
      have i1 : (j : Int) < (n : Int) := by omega
      have HUS := Lib.hid hus; have HUL := Lib.hid hul; have HREL := Lib.hid hrel.out
      clear hrel hc hus hul hjl hzj hq hU
      cases U with
      | true =>
        rw [Bool.not_true] at cb
        have hus2 := HUS.out
        rw [if_pos rfl] at hus2
        have HU2 := Lib.hid hus2
        have hr2 : ∀ d, OwnInts (wr.drewN d) w2.heap.size u5 (ukn K ZS j) ∧ Lat w2 (wr.drewN d) := fun d => ⟨Own.keep HREL.out.1 (Lat.drewN _ d), HREL.out.2.trans (Lat.drewN _ d)⟩
        have HR2 := Lib.hid hr2
        clear hus2 HUS hr2 HREL
        go_upto_region 6 with fail
        go_quiet (fail)
        go_wp2_with (at_builtin; refine app_intL (wr.drewN nq) w2.heap.size rfl (.tmp 31) (.tmp 36) rfl u5 (ukn K ZS j) (q : Int) rfl (HR2.out nq).1 rfl (by have := HUL.out; omega) (HR2.out nq).2.size ?_; intro v3 w3 hown3 hfr3 hloc3)
        have hl3 := hfr3.lat_of (HR2.out nq).2 (fun k hk => (Own.lt (HR2.out nq).1 k hk).1)
        rw [← HU2.out] at hown3
        have HO3 := Lib.hid hown3; have HL3 := Lib.hid hl3
        clear hown3 hfr3 hloc3 hl3
        try go_wp2_with fail
        go_roundg f
        case measure => omega
        case rel => exact ⟨j + 1, by omega, by go_num, HO3.out, HL3.out⟩
      | false =>
        rw [Bool.not_false] at cb
        have hus2 := HUS.out
        rw [if_neg (fun e => Bool.noConfusion e)] at hus2
        have HU2 := Lib.hid hus2
        have hr2 : ∀ d, OwnInts (wr.drewN d) w2.heap.size u5 (ukn K ZS j) ∧ Lat w2 (wr.drewN d) := fun d => ⟨Own.keep HREL.out.1 (Lat.drewN _ d), HREL.out.2.trans (Lat.drewN _ d)⟩
        have HR2 := Lib.hid hr2
        clear hus2 HUS hr2 HREL
        go_upto_region 6 with fail
        go_quiet (fail)
        go_wp2_with fail
        go_roundg f
        case measure => omega
        case rel => exact ⟨j + 1, by omega, by go_num, by rw [HU2.out]; exact HR2.out _⟩
    · obtain rfl : j = n := by omega
      have dj : decide (j < j) = false := decide_eq_false (by omega)
      have ho := hrel.out.1
      have hu : ukn K ZS j = ZS.filter (unkn K) := by unfold ukn; rw [List.take_of_length_le (by rw [← HN.out]; exact Nat.le_refl _)]
      rw [hu] at ho
      have HO := Lib.hid (Own.mono ho HL2.out.size); have HL := Lib.hid (HL2.out.trans hrel.out.2)
      clear hrel ho hu
      go_wp2_with fail
      go_ret
      exact ⟨_, rfl, HO.out, HL.out⟩
end Go.Proofs.YtcpookgbneoilaaGreatDoor

namespace Go.Proofs.YtcpookgbneoilaaGreatDoor

def wtD (k : Nat) (d : Dr) : Wt := (setZ k d.s.toNat, d.t.data.toList)
def woD (k : Nat) (K : Kn) (d : Dr) : Wt := wout K (wtD k d)
def lftR (k : Nat) (K : Kn) (L : List Dr) : List Dr := L.filter fun d => some1 (woD k K d)
def rtk (k : Nat) : Nat → Kn → List Dr → List Int → Kn × List Dr × List Int
  | 0, K, L, out => (K, lftR k K L, out)
  | f + 1, K, L, out => match (lftR k K L).find? (fun d => one1 (woD k K d)) with
    | none => (K, lftR k K L, out)
    | some d => rtk k f (updK K ((woD k K d).1.headD 0) (woD k K d).2) (lftR k K L) (putL out ((woD k K d).1.headD 0))
theorem lft_map {k : Nat} {K : Kn} {Lp : List Wt} {Lr : List Dr} (h : Lp.map (wout K) = Lr.map (woD k K)) : leftW K Lp = (lftR k K Lr).map (woD k K) := by
  unfold leftW lftR
  rw [h, List.filter_map]; rfl
theorem rtk_learn {k : Nat} : ∀ (f : Nat) (K : Kn) (Lp : List Wt) (Lr : List Dr) (o : List Int), Lp.map (wout K) = Lr.map (woD k K) →
    (rtk k f K Lr (srt o)).1 = (learnF f K Lp o).1 ∧ (learnF f K Lp o).2.1 = (rtk k f K Lr (srt o)).2.1.map (woD k (learnF f K Lp o).1) ∧ (rtk k f K Lr (srt o)).2.2 = srt (learnF f K Lp o).2.2
  | 0, K, Lp, Lr, o, h => ⟨rfl, lft_map h, rfl⟩
  | f + 1, K, Lp, Lr, o, h => by
    have hm := lft_map h
    have hf : (leftW K Lp).find? one1 = ((lftR k K Lr).find? (fun d => one1 (woD k K d))).map (woD k K) := by rw [hm, List.find?_map]; rfl
    cases hq : (lftR k K Lr).find? (fun d => one1 (woD k K d)) with
    | none =>
      have e : rtk k (f + 1) K Lr (srt o) = (K, lftR k K Lr, srt o) := by rw [rtk, hq]
      have e2 : learnF (f + 1) K Lp o = (K, leftW K Lp, o) := by rw [learnF, hf, hq]; rfl
      rw [e, e2]
      exact ⟨rfl, hm, rfl⟩
    | some d =>
      rw [hq] at hf
      have hf2 : (leftW K Lp).find? one1 = some (woD k K d) := hf
      obtain ⟨_, z, hz, hn⟩ := leftW_one hf2
      have e : rtk k (f + 1) K Lr (srt o) = rtk k f (updK K z (woD k K d).2) (lftR k K Lr) (srt (o ++ [z])) := by rw [rtk, hq, ← putL_srt]; simp only [hz]; rfl
      have e2 : learnF (f + 1) K Lp o = learnF f (updK K z (woD k K d).2) (leftW K Lp) (o ++ [z]) := by rw [learnF, hf2]; simp only [hz]; rfl
      have hx : Ext K (updK K z (woD k K d).2) := fun y b hy => by
        unfold updK
        rw [if_neg (fun e => by rw [e, hn] at hy; cases hy)]; exact hy
      have hnext : (leftW K Lp).map (wout (updK K z (woD k K d).2)) = (lftR k K Lr).map (woD k (updK K z (woD k K d).2)) := by
        rw [hm, List.map_map]
        exact List.map_congr_left fun a _ => wout_twice hx _
      rw [e, e2]
      exact rtk_learn f _ _ _ _ hnext
def rtkK (k : Nat) (K : Kn) (L : List Dr) : Kn := (rtk k (k + 1) K L []).1
def rtkL (k : Nat) (K : Kn) (L : List Dr) : List Dr := (rtk k (k + 1) K L []).2.1
def rtkO (k : Nat) (K : Kn) (L : List Dr) : List Int := (rtk k (k + 1) K L []).2.2
theorem rtk_same {k : Nat} {K : Kn} {Lp : List Wt} {Lr : List Dr} (h : Lp.map (wout K) = Lr.map (woD k K)) :
    rtkK k K Lr = lrnK k K Lp ∧ lrnL k K Lp = (rtkL k K Lr).map (woD k (rtkK k K Lr)) ∧ rtkO k K Lr = lrnO k K Lp := by
  have h0 : srt [] = [] := List.mergeSort_nil
  obtain ⟨h1, h2, h3⟩ := rtk_learn (k + 1) K Lp Lr [] h
  rw [h0] at h1 h2 h3
  refine ⟨h1, ?_, h3⟩
  unfold rtkL rtkK
  rw [h1]; exact h2
def Both (k : Nat) (K : Kn) (Lp : List Wt) (Lr : List Dr) : Prop := Lp = Lr.map (woD k K)
theorem Both.add {k : Nat} {K : Kn} {Lp : List Wt} {Lr : List Dr} (h : Both k K Lp Lr) (d : Dr) : (Lp ++ [wtD k d]).map (wout K) = (Lr ++ [d]).map (woD k K) := by
  rw [List.map_append, List.map_append, h, List.map_map]
  congr 1
  exact List.map_congr_left fun a _ => wout_twice (fun _ _ e => e) _
theorem Both.take {k : Nat} {K : Kn} {Lp : List Wt} {Lr : List Dr} (h : Both k K Lp Lr) (d : Dr) :
    rtkK k K (Lr ++ [d]) = lrnK k K (Lp ++ [wtD k d]) ∧ rtkO k K (Lr ++ [d]) = lrnO k K (Lp ++ [wtD k d]) ∧ Both k (lrnK k K (Lp ++ [wtD k d])) (lrnL k K (Lp ++ [wtD k d])) (rtkL k K (Lr ++ [d])) := by
  obtain ⟨h1, h2, h3⟩ := rtk_same (h.add d)
  exact ⟨h1, h3, by unfold Both; rw [← h1]; exact h2⟩
end Go.Proofs.YtcpookgbneoilaaGreatDoor

namespace Go.Proofs.YtcpookgbneoilaaGreatDoor
open Go.ChangeShapes Go.WideShapes Go.ChangeAt Go.RowKit

theorem OwnInts.frP {w w' : World} {B : Nat} {v : Value} {zs : List Int} {H : Nat → Prop} (h : OwnInts w B v zs) (hf : Fr H w w') (hn : ∀ g, v.ownBlock = some g → ¬ H g) : OwnInts w' B v zs := by
  obtain ⟨h1, h2⟩ := h
  refine ⟨h1, ?_⟩
  rcases h2 with h2 | ⟨g, cap, cur, rfl, hg, hh, rest⟩
  · exact .inl h2
  · exact .inr ⟨g, cap, cur, rfl, hg, by rw [hf.block g (Array.getElem?_eq_some_iff.1 hh).1 (hn g rfl)]; exact hh, rest⟩
theorem apartD {w : World} {B C : Nat} {v u : Value} {xs : List (List Value)} {zs : List Int} (h : OwnR w B 37 2 v xs) (k : OwnInts w C u zs) : ∀ g, v.ownBlock = some g → u.ownBlock ≠ some g := fun g hg hu => by
  rcases h.2.2 with ⟨rfl, _⟩ | ⟨g1, c1, cur1, rfl, _, hh1, _⟩
  · cases hg
  · rcases k.2 with ⟨rfl, _⟩ | ⟨g2, c2, cur2, rfl, _, hh2, _⟩
    · cases hu
    · cases hg; cases hu
      rw [hh1] at hh2
      injection hh2 with e
      injection e with _ e2 _
      exact absurd e2 (by decide)
theorem blk_frm {w w' : World} {g n : Nat} {F : Nat → Value} {H : Nat → Prop} (h : Blk w g n F) (hf : Fr H w w') (hn : ¬ H g) : Blk w' g n F :=
  ⟨Nat.lt_of_lt_of_le h.lt hf.size, fun j hj => hf.cell_at (h.cell j hj) hn, fun j hj => hf.free_at (p := ⟨g, j, none⟩) h.lt (h.free j hj) hn⟩
theorem plF_lv (k : Nat) (K : Kn) (lv tv lv' : Value) (j : Nat) : (if j = 33 then lv' else plF k K lv tv j) = plF k K lv' tv j := by
  unfold plF
  by_cases e : j = 33
  · rw [if_pos e, if_neg (by omega), if_neg (by omega), if_neg (by omega), if_pos e]
  · rw [if_neg e, if_neg e, if_neg e]
theorem plF_tv (k : Nat) (K : Kn) (lv tv tv' : Value) (j : Nat) (hj : j < 35) : (if j = 34 then tv' else plF k K lv tv j) = plF k K lv tv' j := by
  unfold plF
  by_cases e : j = 34
  · rw [if_pos e, if_neg (by omega), if_neg (by omega), if_neg (by omega), if_neg (by omega)]
  · rw [if_neg e]
    by_cases e2 : j = 33
    · rw [if_pos e2, if_pos e2]
    · have h1 : j < 33 := by omega
      rw [if_neg e2, if_neg e2, if_pos h1, if_pos h1]
def GN (G : Nat → Prop) (w0 w : World) (i : Nat) : Prop := i < w.heap.size ∧ (G i ∨ w0.heap.size ≤ i)
section
variable {G : Nat → Prop} {p k m : Nat} {K : Kn} {T : List Int} {ds : List Dr} {lv tv : Value} {w w9 : World}
theorem RPeelIn.pushD (h : RPeelIn G p k m K T ds lv tv w) {w0 : World} (h0 : w0.heap.size ≤ w.heap.size) {lv' : Value} {ds' : List Dr} (hown : OwnR w9 0 37 2 lv' (ds'.map Dr.row)) (hf : Fr (fun i => lv.ownBlock = some i) w w9) (hl : ∀ i, lv'.ownBlock = some i → lv.ownBlock = some i ∨ w.heap.size ≤ i) (hok : ∀ d ∈ ds', 1 ≤ d.s ∧ d.s ≤ 10000 ∧ d.t.size = m) :
    RPeelIn (GN G w0 (w9.setCell ⟨p, 33, none⟩ lv')) p k m K T ds' lv' tv (w9.setCell ⟨p, 33, none⟩ lv') := by
  have hsz : (w9.setCell ⟨p, 33, none⟩ lv').heap.size = w9.heap.size := by simp [World.setCell]
  have hpn : lv.ownBlock ≠ some p := fun e => (h.own1 p e).2 rfl
  have hblk := blk_frm h.blk hf (fun e => hpn e)
  have hnp : ∀ i, lv'.ownBlock = some i → i ≠ p := fun i hi e => by
    rcases hl i hi with h1 | h1
    · exact (h.own1 i h1).2 e
    · have := h.blk.lt; omega
  refine ⟨fun i hi => hi.1, ⟨by rw [hsz]; exact hblk.lt, .inl h.gp⟩, (hblk.set (by omega) lv').congr fun j _ => plF_lv k K lv tv lv' j, OwnR.fr hown (Fr.set (S := fun i => i = p) w9 ⟨p, 33, none⟩ lv' rfl) (fun i hi e => hnp i hi e), ?_, fun i hi => ⟨⟨by rw [hsz]; exact (OwnR.lt hown i hi).2, ?_⟩, hnp i hi⟩, fun i hi => ⟨⟨?_, .inl (h.own2 i hi).1⟩, (h.own2 i hi).2⟩, h.kn, hok⟩
  · exact (OwnInts.frP h.taken hf (fun g hg e => apartD h.drops h.taken g e hg)).frP (Fr.set (S := fun i => i = p) w9 ⟨p, 33, none⟩ lv' rfl) (fun g hg e => (h.own2 g hg).2 e)
  · rcases hl i hi with h1 | h1
    · exact .inl (h.own1 i h1).1
    · exact .inr (by omega)
  · rw [hsz]; exact Nat.lt_of_lt_of_le (h.lt i (h.own2 i hi).1) hf.size
theorem RPeelIn.pushT (h : RPeelIn G p k m K T ds lv tv w) {w0 : World} (h0 : w0.heap.size ≤ w.heap.size) {tv' : Value} {T' : List Int} (hown : OwnInts w9 0 tv' T') (hf : Fr (fun i => tv.ownBlock = some i) w w9) (hl : ∀ i, tv'.ownBlock = some i → tv.ownBlock = some i ∨ w.heap.size ≤ i) :
    RPeelIn (GN G w0 (w9.setCell ⟨p, 34, none⟩ tv')) p k m K T' ds lv tv' (w9.setCell ⟨p, 34, none⟩ tv') := by
  have hsz : (w9.setCell ⟨p, 34, none⟩ tv').heap.size = w9.heap.size := by simp [World.setCell]
  have hpn : tv.ownBlock ≠ some p := fun e => (h.own2 p e).2 rfl
  have hblk := blk_frm h.blk hf (fun e => hpn e)
  have hnp : ∀ i, tv'.ownBlock = some i → i ≠ p := fun i hi e => by
    rcases hl i hi with h1 | h1
    · exact (h.own2 i h1).2 e
    · have := h.blk.lt; omega
  refine ⟨fun i hi => hi.1, ⟨by rw [hsz]; exact hblk.lt, .inl h.gp⟩, (hblk.set (by omega) tv').congr fun j hj => plF_tv k K lv tv tv' j hj, ?_, hown.frP (Fr.set (S := fun i => i = p) w9 ⟨p, 34, none⟩ tv' rfl) (fun i hi e => hnp i hi e), fun i hi => ⟨⟨?_, .inl (h.own1 i hi).1⟩, (h.own1 i hi).2⟩, fun i hi => ⟨⟨by rw [hsz]; exact (Own.lt hown i hi).2, ?_⟩, hnp i hi⟩, h.kn, h.ok⟩
  · exact OwnR.fr (OwnR.fr h.drops hf (fun g hg e => apartD h.drops h.taken g hg e)) (Fr.set (S := fun i => i = p) w9 ⟨p, 34, none⟩ tv' rfl) (fun g hg e => (h.own1 g hg).2 e)
  · rw [hsz]; exact Nat.lt_of_lt_of_le (h.lt i (h.own1 i hi).1) hf.size
  · rcases hl i hi with h1 | h1
    · exact .inl (h.own2 i h1).1
    · exact .inr (by omega)
theorem RPeelIn.setD (h : RPeelIn G p k m K T ds lv tv w) {w0 : World} {lv' : Value} {ds' : List Dr} {B : Nat} (hown : OwnR w B 37 2 lv' (ds'.map Dr.row)) (hB : w0.heap.size ≤ B) (hpB : p < B) (hok : ∀ d ∈ ds', 1 ≤ d.s ∧ d.s ≤ 10000 ∧ d.t.size = m) :
    RPeelIn (GN G w0 (w.setCell ⟨p, 33, none⟩ lv')) p k m K T ds' lv' tv (w.setCell ⟨p, 33, none⟩ lv') := by
  have hsz : (w.setCell ⟨p, 33, none⟩ lv').heap.size = w.heap.size := by simp [World.setCell]
  have hlt := OwnR.lt hown
  refine ⟨fun i hi => hi.1, ⟨by rw [hsz]; exact h.blk.lt, .inl h.gp⟩, (h.blk.set (by omega) lv').congr fun j _ => plF_lv k K lv tv lv' j, OwnR.fr (OwnR.base hown (Nat.zero_le B)) (Fr.set (S := fun i => i = p) w ⟨p, 33, none⟩ lv' rfl) (fun i hi e => by have := (hlt i hi).1; omega), ?_, fun i hi => ⟨⟨by rw [hsz]; exact (hlt i hi).2, .inr (by have := (hlt i hi).1; omega)⟩, by have := (hlt i hi).1; omega⟩, fun i hi => ⟨⟨by rw [hsz]; exact h.lt i (h.own2 i hi).1, .inl (h.own2 i hi).1⟩, (h.own2 i hi).2⟩, h.kn, hok⟩
  exact OwnInts.frP h.taken (Fr.set (S := fun i => i = p) w ⟨p, 33, none⟩ lv' rfl) (fun g hg e => (h.own2 g hg).2 e)
theorem RPeelIn.learn (h : RPeelIn G p k m K T ds lv tv w) {z : Nat} (hz : z < k) (hk : k ≤ 16) {b : Bts} (hb : b.length = m) :
    RPeelIn G p k m (updK K (z : Int) b) T ds lv tv ((w.setCell ⟨p, 1 + z, none⟩ (.bool true)).setCell ⟨p, 17 + z, none⟩ (.string (S b))) := by
  have hf : Fr (fun i => i = p) w ((w.setCell ⟨p, 1 + z, none⟩ (.bool true)).setCell ⟨p, 17 + z, none⟩ (.string (S b))) := (Fr.set (S := fun i => i = p) w ⟨p, 1 + z, none⟩ (.bool true) rfl).then_set ⟨p, 17 + z, none⟩ (.string (S b)) (.inl rfl)
  refine ⟨fun i hi => Nat.lt_of_lt_of_le (h.lt i hi) hf.size, h.gp, ((h.blk.set (by omega) _).set (by omega) _).congr fun j hj => ?_, OwnR.fr h.drops hf (fun g hg e => (h.own1 g hg).2 e), OwnInts.frP h.taken hf (fun g hg e => (h.own2 g hg).2 e), h.own1, h.own2, fun y c hy => ?_, h.ok⟩
  · unfold plF updK
    by_cases e1 : j = 17 + z
    · rw [if_pos e1, if_neg (by omega), if_neg (by omega), if_pos (by omega), if_pos (by omega)]; rfl
    · rw [if_neg e1]
      by_cases e2 : j = 1 + z
      · rw [if_pos e2, if_neg (by omega), if_pos (by omega), if_pos (by omega)]; rfl
      · rw [if_neg e2]
        by_cases e3 : j = 0
        · rw [if_pos e3, if_pos e3]
        · rw [if_neg e3, if_neg e3]
          by_cases e4 : j < 17
          · rw [if_pos e4, if_pos e4, if_neg (by omega)]
          · rw [if_neg e4, if_neg e4]
            by_cases e5 : j < 33
            · rw [if_pos e5, if_pos e5, if_neg (by omega)]
            · rw [if_neg e5, if_neg e5]
  · unfold updK at hy
    split at hy
    · rename_i e; cases hy; subst e; exact ⟨by omega, by omega, hb⟩
    · exact h.kn y c hy
end
end Go.Proofs.YtcpookgbneoilaaGreatDoor

namespace Go.Proofs.YtcpookgbneoilaaGreatDoor
open Go.ChangeShapes Go.WideShapes Go.ChangeAt Go.RowKit

theorem info_DropR : (Tryz.prog.info? 37).map (fun i => (i.zero, i.size, i.bytes)) = some (some (.agg #[.int .i64 0, .string { data := #[] }]), 2, 24) := by kernel_rfl
theorem step_intL (wr : World) (B : Nat) {ops : Array Oper} {o : Oper} {a : Act} {K : Act → World → Prop} {Q : Exit → Act → World → Prop} {E : Prop}
    (hg : o.guard = none) (s x : Operand) (ho : o.op = .call { callee := .builtin .append, args := #[s, x], argTypes := #[42, 42] })
    (v : Value) (zs : List Int) (z : Int) (hs : a.eval s = v) (hown : OwnInts wr B v zs) (hx : a.eval x = .slice (some ⟨wr.heap.size, 0, none⟩) 1 1)
    (hn : zs.length < 1000000) (hB : B ≤ wr.heap.size)
    (h : ∀ v' w', OwnInts w' B v' (zs ++ [z]) → Fr (fun j => v.ownBlock = some j) wr w' → (∀ i, v'.ownBlock = some i → v.ownBlock = some i ∨ wr.heap.size ≤ i) → K (a.put o.dst v') w') :
    if Region.wanted o (yielded ops a.tmps) = true then Oper.wp Tryz.prog o a (wr.alloc (.cells #[.int .i64 z] 3)) K Q else E := by
  have hw : Region.wanted o (yielded ops a.tmps) = true := by simp [Region.wanted, hg]
  rw [if_pos hw]
  have hal : OwnInts (wr.alloc (.cells #[.int .i64 z] 3)) B v zs := Own.alloc hown _
  have hrow1 : RowAt (wr.alloc (.cells #[.int .i64 z] 3)) (some ⟨wr.heap.size, 0, none⟩) 1 1 (fun j => [Value.int .i64 z].getD j undef) := by
    refine ⟨Nat.le_refl _, by unfold maxLen; omega, fun _ => ⟨wr.heap.size, 0, rfl, fun j hj => ?_⟩⟩
    obtain rfl : j = 0 := by omega
    simp
  obtain ⟨v', w', hrun, h2, h3, h4⟩ := run_app_many (P := Tryz.prog) (wr.alloc (.cells #[.int .i64 z] 3)) B 42 o.type 3 (.int .i64 0) 8 Tryz.underlying42 info_int rfl (by decide) v _ hal (some ⟨wr.heap.size, 0, none⟩) 1 1 [.int .i64 z] rfl
    hrow1 (fun u hu => by rw [List.mem_singleton.1 hu]; rfl) (by rw [List.length_map]; omega) (by simp; omega)
  unfold Oper.wp execOp
  simp only [ho, resolve, invoke, builtin, Sem.run_bind, Sem.run_pure, Result.andThen_ok, List.map_toArray, List.map_cons, List.map_nil, hs, hx, hrun]
  refine h v' w' (by simpa [OwnInts] using h2) ⟨h3.os, h3.tape, h3.output, ?_, fun k hk hne => ?_⟩ (fun i hi => ?_)
  · have := h3.size; simp at this; omega
  · rw [h3.block k (by simp; omega) (fun e => hne e.symm)]; exact heap_alloc_old wr _ hk
  · rcases h4 with h | h
    · exact .inl (by rw [← h]; exact hi)
    · rw [h] at hi
      injection hi with hi
      exact .inr (by rw [← hi]; simp)
theorem S_data' (s : ByteArray) : S s.data.toList = s := rfl
theorem ints_as {w : World} {B q : Nat} {v : Value} {zs : List Int} (h : OwnInts w B v zs) (hn : q = zs.length) : ∃ a cap, v = .slice a q cap := by
  obtain ⟨a, cap, e, -⟩ := Own.slice h
  rw [List.length_map, ← hn] at e
  exact ⟨a, cap, e⟩
structure TK (G3 : Nat → Prop) (wb : World) (p k m : Nat) (T : List Int) (tv : Value) (R : Kn × List Dr × List Int) (f : Nat) (b : Bool) (K : Kn) (L : List Dr) (out : List Int) (lv ov : Value) (w : World) : Prop where
  run : if b = true then unkC K k < f ∧ rtk k f K L out = R else (K, L, out) = R
  own : OwnInts w wb.heap.size ov out
  len : out.length + unkC K k ≤ k
  rng : ∀ z ∈ out, 0 ≤ z ∧ z < (k : Int)
  fr : Fr G3 wb w
  inn : ∃ G1, RPeelIn G1 p k m K T L lv tv w
  lvg : ∀ i, lv.ownBlock = some i → G3 i ∨ wb.heap.size ≤ i
  most : L.length ≤ 1000
theorem RPeelIn.only {G : Nat → Prop} {p k m : Nat} {K : Kn} {T : List Int} {ds : List Dr} {lv tv : Value} {w : World} (h : RPeelIn G p k m K T ds lv tv w) : RPeelIn (fun i => i = p ∨ lv.ownBlock = some i ∨ tv.ownBlock = some i) p k m K T ds lv tv w :=
  ⟨fun i hi => by
    rcases hi with rfl | hi | hi
    · exact h.blk.lt
    · exact h.lt i (h.own1 i hi).1
    · exact h.lt i (h.own2 i hi).1, .inl rfl, h.blk, h.drops, h.taken, fun i hi => ⟨.inr (.inl hi), (h.own1 i hi).2⟩, fun i hi => ⟨.inr (.inr hi), (h.own2 i hi).2⟩, h.kn, h.ok⟩
def lft1 (k : Nat) (K : Kn) (L : List Dr) (j : Nat) : List Dr := (L.take j).filter fun d => some1 (woD k K d)
theorem lft1_succ (k : Nat) (K : Kn) {L : List Dr} {j : Nat} {d : Dr} (h : L[j]? = some d) : lft1 k K L (j + 1) = if some1 (woD k K d) = true then lft1 k K L j ++ [d] else lft1 k K L j := by
  unfold lft1
  rw [List.take_add_one, h, List.filter_append]
  cases hs : some1 (woD k K d) <;> simp [hs]
theorem lft1_len (k : Nat) (K : Kn) (L : List Dr) (j : Nat) : (lft1 k K L j).length ≤ j := by
  unfold lft1
  refine Nat.le_trans (List.length_filter_le _ _) ?_
  rw [List.length_take]; omega
theorem lft1_all (k : Nat) (K : Kn) (L : List Dr) : lft1 k K L L.length = lftR k K L := by
  unfold lft1 lftR
  rw [List.take_length]
theorem drew_set (w : World) (a : Addr) (v : Value) : (w.setCell a v).drew = w.drew.setCell a v := rfl
theorem learn_two {G1 : Nat → Prop} {p k m : Nat} {K : Kn} {T : List Int} {L : List Dr} {lv tv : Value} {w : World} (h : RPeelIn G1 p k m K T L lv tv w) {z : Nat} (hz : z < k) (hk : k ≤ 16) {b : Bts} (hb : b.length = m) {yb yo : Nat} {v : Value} (cy : w.cell? ⟨yb, yo, none⟩ = some v) (hy : yb ≠ p) :
    ∃ W8 W9 u1 u2, W8 = w.drew.setCell ⟨p, 1 + z, none⟩ (.bool true) ∧ W9 = W8.drew.setCell ⟨p, 17 + z, none⟩ (.string (S b)) ∧ w.drew.cell? ⟨p, 1 + z, none⟩ = some u1 ∧ w.drew.frozen? ⟨p, 1 + z, none⟩ = false ∧ W8.drew.cell? ⟨p, 17 + z, none⟩ = some u2 ∧ W8.drew.frozen? ⟨p, 17 + z, none⟩ = false ∧
      W8.cell? ⟨yb, yo, none⟩ = some v ∧ W9.cell? ⟨yb, yo, none⟩ = some v ∧ Fr (fun i => i = p) w W9 ∧ RPeelIn G1 p k m (updK K (z : Int) b) T L lv tv W9 := by
  obtain ⟨W8, hW8⟩ : ∃ W8, W8 = w.drew.setCell ⟨p, 1 + z, none⟩ (.bool true) := ⟨_, rfl⟩
  obtain ⟨W9, hW9⟩ : ∃ W9, W9 = W8.drew.setCell ⟨p, 17 + z, none⟩ (.string (S b)) := ⟨_, rfl⟩
  have hd := h.keep (Lat.drew w)
  have hf8 : Fr (fun i => i = p) w W8 := by rw [hW8]; exact (Fr.lat (Lat.refl w)).drew.then_set ⟨p, 1 + z, none⟩ _ (.inl rfl)
  have hf9 : Fr (fun i => i = p) w W9 := by rw [hW9]; exact hf8.drew.then_set ⟨p, 17 + z, none⟩ _ (.inl rfl)
  have hb8 := hd.blk.set (k := 1 + z) (by omega) (.bool true)
  have h9 := (hd.keep (Lat.drew w.drew)).learn (z := z) hz hk hb
  rw [← hW8] at hb8
  have hb8' := hb8.keep (Lat.drew W8)
  refine ⟨W8, W9, _, _, hW8, hW9, hd.blk.cell (1 + z) (by omega), hd.blk.free (1 + z) (by omega), hb8'.cell (17 + z) (by omega), hb8'.free (17 + z) (by omega), hf8.cell_at cy hy, hf9.cell_at cy hy, hf9, ?_⟩
  rw [hW9, hW8, drew_set]
  exact h9
theorem rtk_hit {k f : Nat} {K : Kn} {L LL : List Dr} {out : List Int} {R : Kn × List Dr × List Int} {d : Dr} {z : Int} {b : Bts} (hr : rtk k (f + 1) K L out = R) (hl : LL = lftR k K L) (hf : LL.find? (fun d => one1 (woD k K d)) = some d) (hz : (woD k K d).1 = [z]) (hb : (woD k K d).2 = b) :
    rtk k f (updK K z b) LL (putL out z) = R := by
  rw [← hr, rtk, ← hl, hf]
  simp only [hz, hb]
  rfl
end Go.Proofs.YtcpookgbneoilaaGreatDoor

namespace Go.Proofs.YtcpookgbneoilaaGreatDoor
open Go.ChangeShapes Go.WideShapes Go.ChangeAt Go.RowKit

set_option maxHeartbeats 8000000 in
set_option maxRecDepth 100000 in
theorem refTake (G : Nat → Prop) (p k m : Nat) (K : Kn) (T : List Int) (ds : List Dr) (lv tv : Value) (s : Int) (t : ByteArray) (w : World) (h : RPeelIn G p k m K T ds lv tv w) (h1 : 1 ≤ k) (h2 : k ≤ 16) (hm : m ≤ 8) (hs1 : 1 ≤ s) (hs2 : s ≤ 10000) (ht : t.size = m) (hd : ds.length < 1000) (hT : T.length < 1000) :
    Calls Tryz.prog 23 #[.pointer (some ⟨p, 0, none⟩), .agg #[.int .i64 s, .string t]] w fun e w' => ∃ v, e = .returned v ∧ OwnInts w' w.heap.size v (rtkO k K (ds ++ [⟨s, t⟩])) ∧ Fr G w w' ∧ ∃ G' lv' tv', (∀ i, G' i → (G i ∨ w.heap.size ≤ i) ∧ v.ownBlock ≠ some i) ∧ RPeelIn G' p k m (rtkK k K (ds ++ [⟨s, t⟩])) (T ++ [s]) (rtkL k K (ds ++ [⟨s, t⟩])) lv' tv' w' := by
  have hpl := h.blk.lt
  have hGp := h.gp
  obtain ⟨W, hW⟩ : ∃ W, W = w.alloc (.cells #[.int .i64 s, .string t] 37) := ⟨_, rfl⟩
  have hWl : Lat w W := by rw [hW]; exact Lat.alloc _ _
  have hF : W.drew.cell? ⟨w.heap.size, 0, none⟩ = some (.int .i64 s) ∧ W.drew.cell? ⟨w.heap.size, 1, none⟩ = some (.string t) := by rw [hW]; exact ⟨by simp, by simp⟩
  have hIn : RPeelIn G p k m K T ds lv tv W.drew := h.keep (hWl.trans (Lat.drew W))
  have hG : W.drew.cell? ⟨p, 33, none⟩ = some lv := hIn.blk.cell 33 (by decide)
  have hsz : W.drew.heap.size = w.heap.size + 1 := by rw [hW]; simp
  have hfr0 : Fr G w W.drew := (Fr.lat hWl).drew
  have HF := Lib.hid hF; have HG := Lib.hid hG; have HSZ := Lib.hid hsz; have HIN := Lib.hid hIn; have HFR := Lib.hid hfr0; have HT := Lib.hid hT; have HD := Lib.hid hd; have HLT := Lib.hid h.lt; have HS := Lib.hid (And.intro hs1 hs2); have HTS := Lib.hid ht
  have hwp : w.heap.size ≠ p := by omega
  clear hF hG hsz hIn hWl hfr0 hT hd hs1 hs2 ht h
  go_enter Tryz.func23, Tryz.ntmps23
  go_upto_region 1 with fail
  rw [← hW]
  clear hW
  refine wp_region_gate (fun w' => w'.cell? ⟨w.heap.size, 0, none⟩ = some (.int .i64 s) ∧ w'.cell? ⟨w.heap.size, 1, none⟩ = some (.string t)) (fun w' => w'.cell? ⟨p, 33, none⟩ = some lv) 7 (by kernel_rfl) ?_
  have hF := HF.out
  have hG := HG.out
  have hIn := HIN.out
  have hfr0 := HFR.out
  generalize W.drew = W6 at *
  refine gate_takeF (i := 0) (v := ?_) rfl (by kernel_rfl) (by kernel_rfl) (by kernel_rfl) (fun _ _ _ h => h) (by decide) ⟨hF, fun _ => hG⟩ (Or.inl ⟨by kernel_rfl, ?_⟩) ?_
  rotate_left
  · intro wq hSw; obtain ⟨s0, s1⟩ := hSw; go_simp; rfl
  simp only [Act.put]
  refine gate_takeF (i := 1) (v := ?_) rfl (by kernel_rfl) (by kernel_rfl) (by kernel_rfl) (fun _ _ _ h => h) (by decide) ⟨hF, fun _ => hG⟩ (Or.inl ⟨by kernel_rfl, ?_⟩) ?_
  rotate_left
  · intro wq hSw; obtain ⟨s0, s1⟩ := hSw; go_simp; rfl
  simp only [Act.put]
  refine gate_takeF (i := 2) (v := ?_) rfl (by kernel_rfl) (by kernel_rfl) (by kernel_rfl) (fun _ _ _ h => h) (by decide) ⟨hF, fun _ => hG⟩ (Or.inl ⟨by kernel_rfl, ?_⟩) ?_
  rotate_left
  · intro wq hSw; obtain ⟨s0, s1⟩ := hSw; go_simp; rfl
  simp only [Act.put]
  refine gate_takeF (i := 3) (v := ?_) rfl (by kernel_rfl) (by kernel_rfl) (by kernel_rfl) (fun _ _ _ h => h) (by decide) ⟨hF, fun _ => hG⟩ (Or.inl ⟨by kernel_rfl, ?_⟩) ?_
  rotate_left
  · intro wq hSw; obtain ⟨s0, s1⟩ := hSw; go_simp; rfl
  simp only [Act.put]
  refine gate_takeG (i := 4) (v := ?_) rfl (by kernel_rfl) (by kernel_rfl) (by kernel_rfl) (fun _ _ _ h => h) (by decide) (by kernel_rfl) (by kernel_rfl) ⟨hF, fun _ => hG⟩ (Or.inl ⟨by kernel_rfl, ?_⟩) ?_
  rotate_left
  · intro wq hSw; obtain ⟨⟨s0, s1⟩, s2⟩ := hSw; go_simp; rfl
  simp only [Act.put]
  refine gate_takeF (i := 5) (v := ?_) rfl (by kernel_rfl) (by kernel_rfl) (by kernel_rfl) (fun _ _ _ h => h) (by decide) ⟨hF, fun _ => hG⟩ (Or.inl ⟨by kernel_rfl, ?_⟩) ?_
  rotate_left
  · intro wq hSw; obtain ⟨s0, s1⟩ := hSw; go_simp; rfl
  simp only [Act.put]
  refine gate_one (i := 6) (by kernel_rfl) rfl (fun KK hK => ?_)
  go_simp
  refine hK _ _ ⟨⟨(Lat.alloc _ _).cell_at hF.1, (Lat.alloc _ _).cell_at hF.2⟩, fun _ => (Lat.alloc _ _).cell_at hG⟩ ?_
  clear hK KK
  refine gate_one (i := 7) (by kernel_rfl) rfl (fun KK hK => ?_)
  refine appR_step W6 0 rfl (.tmp 19) (.tmp 21) 22 rfl 37 _ 2 24 Tryz.underlying22 info_DropR rfl (by decide) (by decide) lv _ _ rfl hIn.drops rfl rfl (fun u hu => by simp at hu; rcases hu with rfl | rfl <;> rfl) (by rw [List.length_map]; have := HD.out; omega) (Nat.zero_le _) ?_
  intro g' cap' w7 hown7 hb7 hs7
  obtain ⟨N, hN⟩ : ∃ N, N = (ds.map Dr.row).length + 1 := ⟨_, rfl⟩
  rw [← hN] at hown7 hs7 ⊢
  clear hN
  have hfa : Fr (fun i => lv.ownBlock = some i) W6 w7 := Fr.app hs7 ⟨hb7.os, hb7.tape, hb7.output⟩
  have hF7 : w7.cell? ⟨w.heap.size, 0, none⟩ = some (.int .i64 s) ∧ w7.cell? ⟨w.heap.size, 1, none⟩ = some (.string t) := by
    have hb : ¬ lv.ownBlock = some w.heap.size := fun e => by
      have := HLT.out _ (hIn.own1 _ e).1
      omega
    exact ⟨hfa.cell_at hF.1 hb, hfa.cell_at hF.2 hb⟩
  have hb7p : ¬ lv.ownBlock = some p := fun e => (hIn.own1 _ e).2 rfl
  have hcp : w7.cell? ⟨p, 33, none⟩ = some lv := hfa.cell_at hG hb7p
  have hfp : w7.frozen? ⟨p, 33, none⟩ = false := hfa.free_at (p := ⟨p, 33, none⟩) hIn.blk.lt (hIn.blk.free 33 (by decide)) hb7p
  have hown8 : OwnR w7 0 37 2 (.slice (some ⟨g', 0, none⟩) N cap') ((ds ++ [(⟨s, t⟩ : Dr)]).map Dr.row) := by rw [List.map_append]; exact hown7
  have hIn2 := hIn.pushD (w0 := w) (by have := HSZ.out; omega) hown8 hfa (fun i hi => by
    rcases hs7.loc with h | ⟨g, h, hge⟩
    · exact .inl (by rw [← h]; exact hi)
    · rw [h] at hi; injection hi with hi; exact .inr (by rw [← hi]; exact hge)) (fun d hd => by
    rcases List.mem_append.1 hd with hd | hd
    · exact hIn.ok d hd
    · rw [List.mem_singleton] at hd; subst hd; exact ⟨HS.out.1, HS.out.2, HTS.out⟩)
  have hfr2 : Fr G w (w7.setCell ⟨p, 33, none⟩ (.slice (some ⟨g', 0, none⟩) N cap')) := (hfr0.trans hfa (fun i _ e => (hIn.own1 i e).1)).then_set ⟨p, 33, none⟩ _ (.inl hGp)
  have HIN2 := Lib.hid hIn2; have HFR2 := Lib.hid hfr2
  refine hK _ _ (FG.past (by kernel_rfl) hF7) ?_
  clear hK KK hF hG hIn hfr0 hown7 hown8 hb7 hs7 hfa hIn2 hfr2
  refine gate_takeF (i := 8) (v := ?_) rfl (by kernel_rfl) (by kernel_rfl) (by kernel_rfl) (fun _ _ _ h => h) (by decide) (FG.past (by kernel_rfl) hF7) (Or.inl ⟨by kernel_rfl, ?_⟩) ?_
  rotate_left
  · intro wq hSw; go_simp; rfl
  simp only [Act.put]
  refine gate_takeF (i := 9) (v := ?_) rfl (by kernel_rfl) (by kernel_rfl) (by kernel_rfl) (fun _ _ _ h => h) (by decide) (FG.past (by kernel_rfl) hF7) (Or.inl ⟨by kernel_rfl, ?_⟩) ?_
  rotate_left
  · intro wq hSw; go_simp; rfl
  simp only [Act.put]
  have hF8 : ∀ x : Value, (w7.setCell ⟨p, 33, none⟩ x).cell? ⟨w.heap.size, 0, none⟩ = some (.int .i64 s) ∧ (w7.setCell ⟨p, 33, none⟩ x).cell? ⟨w.heap.size, 1, none⟩ = some (.string t) := fun x =>
    ⟨by rw [World.cell?_setCell_other _ _ _ _ (by intro e; injection e with e1 _ _; exact hwp e1.symm)]; exact hF7.1, by rw [World.cell?_setCell_other _ _ _ _ (by intro e; injection e with e1 _ _; exact hwp e1.symm)]; exact hF7.2⟩
  have HF8 := Lib.hid hF8
  refine gate_one (i := 10) (by kernel_rfl) rfl (fun KK hK => ?_)
  clear hF8 hF7
  go_simp
  refine hK _ _ (FG.past (by kernel_rfl) (HF8.out _)) ?_
  clear hK KK
  refine gate_done (by kernel_rfl) ?_ _
  go_upto_region 2 with fail
  obtain ⟨lv2, hlv2⟩ : ∃ x, x = Value.slice (some ⟨g', 0, none⟩) N cap' := ⟨_, rfl⟩
  rw [← hlv2] at HIN2 HFR2 ⊢
  have hF0 := (HF8.out lv2).1
  obtain ⟨W2, hW2⟩ : ∃ W2, W2 = w7.setCell ⟨p, 33, none⟩ lv2 := ⟨_, rfl⟩
  rw [← hW2] at hF0 HIN2 HFR2 ⊢
  clear HF8 hW2 hlv2 hcp hfp hb7p w7
  refine wp_region_gate (fun w' => w'.cell? ⟨w.heap.size, 0, none⟩ = some (.int .i64 s)) (fun w' => w'.cell? ⟨p, 34, none⟩ = some tv) 8 (by kernel_rfl) ?_
  have hF : W2.drew.cell? ⟨w.heap.size, 0, none⟩ = some (.int .i64 s) := hF0
  have hIn : RPeelIn (GN G w W2) p k m K T (ds ++ [⟨s, t⟩]) lv2 tv W2.drew := HIN2.out.keep (Lat.drew W2)
  have hG : W2.drew.cell? ⟨p, 34, none⟩ = some tv := hIn.blk.cell 34 (by decide)
  have hfr0 : Fr G w W2.drew := HFR2.out.drew
  have hGG : ∀ i, GN G w W2 i → G i ∨ w.heap.size ≤ i := fun i hi => hi.2
  have hwx : ¬ tv.ownBlock = some w.heap.size := fun e => by
    rcases (HIN.out.own2 _ e).1 with h
    have := HLT.out _ h
    omega
  have HG0 := Lib.hid hGG; have HWX := Lib.hid hwx
  generalize GN G w W2 = G2 at *
  clear hF0 HIN2 HFR2 hGG hwx
  generalize W2.drew = W6 at *
  refine gate_takeF (i := 0) (v := ?_) rfl (by kernel_rfl) (by kernel_rfl) (by kernel_rfl) (fun _ _ _ h => h) (by decide) ⟨hF, fun _ => hG⟩ (Or.inl ⟨by kernel_rfl, ?_⟩) ?_
  rotate_left
  · intro wq hSw; go_simp; rfl
  simp only [Act.put]
  refine gate_takeF (i := 1) (v := ?_) rfl (by kernel_rfl) (by kernel_rfl) (by kernel_rfl) (fun _ _ _ h => h) (by decide) ⟨hF, fun _ => hG⟩ (Or.inl ⟨by kernel_rfl, ?_⟩) ?_
  rotate_left
  · intro wq hSw; go_simp; rfl
  simp only [Act.put]
  refine gate_takeF (i := 2) (v := ?_) rfl (by kernel_rfl) (by kernel_rfl) (by kernel_rfl) (fun _ _ _ h => h) (by decide) ⟨hF, fun _ => hG⟩ (Or.inl ⟨by kernel_rfl, ?_⟩) ?_
  rotate_left
  · intro wq hSw; go_simp; rfl
  simp only [Act.put]
  refine gate_takeF (i := 3) (v := ?_) rfl (by kernel_rfl) (by kernel_rfl) (by kernel_rfl) (fun _ _ _ h => h) (by decide) ⟨hF, fun _ => hG⟩ (Or.inl ⟨by kernel_rfl, ?_⟩) ?_
  rotate_left
  · intro wq hSw; go_simp; rfl
  simp only [Act.put]
  refine gate_takeG (i := 4) (v := ?_) rfl (by kernel_rfl) (by kernel_rfl) (by kernel_rfl) (fun _ _ _ h => h) (by decide) (by kernel_rfl) (by kernel_rfl) ⟨hF, fun _ => hG⟩ (Or.inl ⟨by kernel_rfl, ?_⟩) ?_
  rotate_left
  · intro wq hSw; obtain ⟨s0, s2⟩ := hSw; go_simp; rfl
  simp only [Act.put]
  refine gate_takeF (i := 5) (v := ?_) rfl (by kernel_rfl) (by kernel_rfl) (by kernel_rfl) (fun _ _ _ h => h) (by decide) ⟨hF, fun _ => hG⟩ (Or.inl ⟨by kernel_rfl, ?_⟩) ?_
  rotate_left
  · intro wq hSw; go_simp; rfl
  simp only [Act.put]
  refine gate_takeF (i := 6) (v := ?_) rfl (by kernel_rfl) (by kernel_rfl) (by kernel_rfl) (fun _ _ _ h => h) (by decide) ⟨hF, fun _ => hG⟩ (Or.inl ⟨by kernel_rfl, ?_⟩) ?_
  rotate_left
  · intro wq s0; go_simp; rfl
  simp only [Act.put]
  refine gate_one (i := 7) (by kernel_rfl) rfl (fun KK hK => ?_)
  go_simp
  refine hK _ _ ⟨(Lat.alloc _ _).cell_at hF, fun _ => (Lat.alloc _ _).cell_at hG⟩ ?_
  clear hK KK
  refine gate_one (i := 8) (by kernel_rfl) rfl (fun KK hK => ?_)
  refine step_intL W6 0 rfl (.tmp 29) (.tmp 32) rfl tv T s rfl hIn.taken rfl (by have := HT.out; omega) (Nat.zero_le _) ?_
  intro tv2 w7 hown7 hfa hloc7
  obtain ⟨ta, tc, htv, -⟩ := Own.slice hown7
  obtain ⟨N, hN⟩ : ∃ N, N = ((T ++ [s]).map (Value.int .i64)).length := ⟨_, rfl⟩
  rw [← hN] at htv
  clear hN
  subst htv
  have hF7 : w7.cell? ⟨w.heap.size, 0, none⟩ = some (.int .i64 s) := hfa.cell_at hF HWX.out
  have hb7p : ¬ tv.ownBlock = some p := fun e => (hIn.own2 _ e).2 rfl
  have hcp : w7.cell? ⟨p, 34, none⟩ = some tv := hfa.cell_at hG hb7p
  have hfp : w7.frozen? ⟨p, 34, none⟩ = false := hfa.free_at (p := ⟨p, 34, none⟩) hIn.blk.lt (hIn.blk.free 34 (by decide)) hb7p
  have hw6 : w.heap.size ≤ W6.heap.size := hfr0.size
  have hIn2 := hIn.pushT (w0 := w) hw6 hown7 hfa hloc7
  have hfr2 : Fr G w (w7.setCell ⟨p, 34, none⟩ (.slice ta N tc)) := (hfr0.trans hfa (fun i hi e => by
    rcases HG0.out i (hIn.own2 i e).1 with h | h
    · exact h
    · omega)).then_set ⟨p, 34, none⟩ _ (.inl hGp)
  have HIN2 := Lib.hid hIn2; have HFR2 := Lib.hid hfr2
  refine hK _ _ (FG.past (by kernel_rfl) hF7) ?_
  clear hK KK hF hG hIn hfr0 hown7 hfa hIn2 hfr2 hloc7 hw6
  refine gate_takeF (i := 9) (v := ?_) rfl (by kernel_rfl) (by kernel_rfl) (by kernel_rfl) (fun _ _ _ h => h) (by decide) (FG.past (by kernel_rfl) hF7) (Or.inl ⟨by kernel_rfl, ?_⟩) ?_
  rotate_left
  · intro wq hSw; go_simp; rfl
  simp only [Act.put]
  refine gate_takeF (i := 10) (v := ?_) rfl (by kernel_rfl) (by kernel_rfl) (by kernel_rfl) (fun _ _ _ h => h) (by decide) (FG.past (by kernel_rfl) hF7) (Or.inl ⟨by kernel_rfl, ?_⟩) ?_
  rotate_left
  · intro wq hSw; go_simp; rfl
  simp only [Act.put]
  have hF8 : ∀ x : Value, (w7.setCell ⟨p, 34, none⟩ x).cell? ⟨w.heap.size, 0, none⟩ = some (.int .i64 s) := fun x => by
    rw [World.cell?_setCell_other _ _ _ _ (by intro e; injection e with e1 _ _; exact hwp e1.symm)]; exact hF7
  have HF8 := Lib.hid hF8
  refine gate_one (i := 11) (by kernel_rfl) rfl (fun KK hK => ?_)
  clear hF8 hF7
  go_simp
  refine hK _ _ (FG.past (by kernel_rfl) (HF8.out _)) ?_
  clear hK KK
  refine gate_done (by kernel_rfl) ?_ _
  obtain ⟨tv2, htv2⟩ : ∃ x, x = Value.slice ta N tc := ⟨_, rfl⟩
  rw [← htv2] at HIN2 HFR2 ⊢
  obtain ⟨wb, hwb⟩ : ∃ wb, wb = w7.setCell ⟨p, 34, none⟩ tv2 := ⟨_, rfl⟩
  rw [← hwb] at HIN2 HFR2 ⊢
  clear HF8 hwb htv2 hcp hfp hb7p w7
  have hG3 : ∀ i, GN G2 w wb i → G i ∨ w.heap.size ≤ i := fun i hi => by
    rcases hi.2 with h | h
    · exact HG0.out i h
    · exact .inr h
  have HG3 := Lib.hid hG3
  generalize GN G2 w wb = G3 at *
  clear HF HG HSZ HIN HFR hG3 HG0 HWX
  obtain ⟨L0, hL0⟩ : ∃ L0, L0 = ds ++ [(⟨s, t⟩ : Dr)] := ⟨_, rfl⟩
  have hL0l : L0.length ≤ 1000 := by rw [hL0, List.length_append, List.length_singleton]; have := HD.out; omega
  rw [← hL0] at HIN2
  obtain ⟨R, hR⟩ : ∃ R, R = rtk k (k + 1) K L0 [] := ⟨_, rfl⟩
  have hu := unkC_le K k
  have hst : TK G3 wb p k m (T ++ [s]) tv2 R (k + 1) true K L0 [] lv2 (.slice none 0 0) wb :=
    ⟨by rw [if_pos rfl]; exact ⟨by omega, hR.symm⟩, Own.nil _ _ _, by simp; exact hu, fun z hz => absurd hz (List.not_mem_nil), Fr.refl _ _, ⟨G3, HIN2.out⟩, fun i hi => .inl (HIN2.out.own1 i hi).1, hL0l⟩
  have hpb : p < wb.heap.size := HIN2.out.blk.lt
  have htvb : ∀ i, tv2.ownBlock = some i → G3 i ∧ i < wb.heap.size := fun i hi => ⟨(HIN2.out.own2 i hi).1, HIN2.out.lt i (HIN2.out.own2 i hi).1⟩
  have hGp3 : G3 p := HIN2.out.gp
  have HST := Lib.hid hst; have HTV := Lib.hid htvb; have HR := Lib.hid hR; have HGP3 := Lib.hid hGp3; have HPB := Lib.hid hpb; have HL0 := Lib.hid hL0
  clear hu hst htvb hR hGp3 hL0 hL0l HIN2 hpb
  go_wp2_with fail
  go_loopg [5, 6] (k + 1) (fun f ov av wr => ∃ (b : Bool) (K1 : Kn) (L1 : List Dr) (out : List Int) (lv1 : Value), av = .bool b ∧ Hid (TK G3 wb p k m (T ++ [s]) tv2 R f b K1 L1 out lv1 ov wr))
  case atStart => exact ⟨true, K, L0, [], lv2, rfl, HST.out⟩
  case round =>
    obtain ⟨b, K1, L1, out, lv1, rfl, hrel⟩ := hrel
    cases b with
    | false =>
      obtain ⟨hrun, hown, hol, hrng, hfr, ⟨G1, hp⟩, hlg, hmost⟩ := hrel.out
      rw [if_neg (fun e => Bool.noConfusion e)] at hrun
      have e1 : rtkK k K (ds ++ [⟨s, t⟩]) = K1 := by unfold rtkK; rw [← HL0.out, ← HR.out, ← hrun]
      have e2 : rtkL k K (ds ++ [⟨s, t⟩]) = L1 := by unfold rtkL; rw [← HL0.out, ← HR.out, ← hrun]
      have e3 : rtkO k K (ds ++ [⟨s, t⟩]) = out := by unfold rtkO; rw [← HL0.out, ← HR.out, ← hrun]
      have hol2 := Own.lt hown
      have hfin : ∃ v, Ending.returned u5 = Ending.returned v ∧ OwnInts wr w.heap.size v (rtkO k K (ds ++ [⟨s, t⟩])) ∧ Fr G w wr ∧ ∃ G' lv' tv', (∀ i, G' i → (G i ∨ w.heap.size ≤ i) ∧ v.ownBlock ≠ some i) ∧ RPeelIn G' p k m (rtkK k K (ds ++ [⟨s, t⟩])) (T ++ [s]) (rtkL k K (ds ++ [⟨s, t⟩])) lv' tv' wr := by
        rw [e1, e2, e3]
        have hws := HFR2.out.size
        refine ⟨_, rfl, Own.mono hown hws, HFR2.out.trans hfr (fun i hi h3 => (HG3.out i h3).resolve_right (by omega)), _, lv1, tv2, fun i hi => ?_, hp.only⟩
        rcases hi with rfl | hi | hi
        · exact ⟨.inl hGp, fun e => by have := (hol2 _ e).1; have := HPB.out; omega⟩
        · refine ⟨?_, fun e => apartD hp.drops hown i hi e⟩
          rcases hlg i hi with h | h
          · exact HG3.out i h
          · exact .inr (by omega)
        · exact ⟨HG3.out i (HTV.out i hi).1, fun e => by have := (hol2 _ e).1; have := (HTV.out i hi).2; omega⟩
      have HFIN := Lib.hid hfin
      clear hrel hrun hown hol hrng hfr hp hlg hmost e1 e2 e3 hol2 hfin
      go_wp2_with fail
      go_ret
      exact HFIN.out
    | true =>
      obtain ⟨hrun, hown, hol, hrng, hfr, ⟨G1, hp⟩, hlg, hmost⟩ := hrel.out
      rw [if_pos rfl] at hrun
      obtain ⟨hu, hrun⟩ := hrun
      obtain ⟨f, rfl⟩ : ∃ f, gk = f + 1 := ⟨gk - 1, by omega⟩
      obtain ⟨n, hn⟩ : ∃ n, n = L1.length := ⟨_, rfl⟩
      rw [← hn] at hmost
      obtain ⟨a, cap, rfl, hat⟩ := OwnR.slice hp.drops (show (L1.map Dr.row).length = n by rw [List.length_map, hn])
      have hcap := hat.cap
      have hcle := hat.le
      unfold maxLen at hcap
      have c33 : ∀ W, Lat wr W → W.cell? ⟨p, 33, none⟩ = some (.slice a n cap) := fun W hW => hW.cell_at (hp.blk.cell 33 (by decide))
      have hleft : ∀ x ∈ L1, ∀ W, Lat wr W → Calls Tryz.prog 42 #[.pointer (some ⟨p, 0, none⟩), .agg #[.int .i64 x.s, .string x.t]] W fun e w' => ∃ v, e = .returned v ∧ OwnInts w' W.heap.size v (woD k K1 x).1 ∧ Lat W w' := fun x hx W hW => by
        have ho := hp.ok x hx
        have e : x.s = ((x.s.toNat : Nat) : Int) := by omega
        have := refLeft G1 p k m K1 (T ++ [s]) L1 (.slice a n cap) tv2 x.s.toNat x.t.data.toList W (hp.keep hW) h1 h2 (by omega) (by omega)
        rw [S_data', ← e] at this
        exact this
      have HRUN := Lib.hid hrun; have HUU := Lib.hid hu; have HOW := Lib.hid hown; have HOL := Lib.hid hol; have HRNG := Lib.hid hrng; have HFR3 := Lib.hid hfr; have HP := Lib.hid hp; have HLG := Lib.hid hlg; have HN := Lib.hid hn; have HAT := Lib.hid hat; have HC33 := Lib.hid c33; have HLEFT := Lib.hid hleft
      clear hrel hrun hu hown hol hrng hfr hp hlg hn hat c33 hleft
      obtain ⟨wo, hwo⟩ : ∃ wo : World, wo = wr := ⟨_, rfl⟩
      subst hwo
      go_wp2_with fail
      go_loopw [7, 8] (fun v i wx => ∃ j : Nat, j ≤ n ∧ i = .int .i64 j ∧ Hid (Lat wo wx ∧ OwnR wx wo.heap.size 37 2 v ((lft1 k K1 L1 j).map Dr.row))) (fun _ i _ => n - (intOf i).toNat)
      case atStart => exact ⟨0, Nat.zero_le _, rfl, Lat.refl _, OwnR.nil _ _ _ _⟩
      case round =>
        obtain ⟨j, hj, rfl, hrel⟩ := hrel
        obtain ⟨hlat, hor⟩ := hrel.out
        have c33 := HC33.out wr hlat
        by_cases hlt : j < n
        · obtain ⟨gb, go, rfl, hcell⟩ := (HAT.out.keep hlat).at_ (by omega)
          have hjl : j < L1.length := by rw [← HN.out]; exact hlt
          obtain ⟨x, hx⟩ : ∃ x, x = L1[j] := ⟨_, rfl⟩
          have hx2 : L1[j]? = some x := by rw [hx]; exact List.getElem?_eq_getElem hjl
          have hxm : x ∈ L1 := by rw [hx]; exact List.getElem_mem hjl
          have hxr : (L1.map Dr.row)[j]? = some (Dr.row x) := by rw [List.getElem?_map, hx2]; rfl
          have c0 := (hcell j _ hxr).2 0 _ rfl
          have c1 := (hcell j _ hxr).2 1 _ rfl
          rw [Nat.add_zero] at c0
          rw [← Nat.add_assoc] at c1
          have hls := lft1_succ k K1 hx2
          have hll := lft1_len k K1 L1 j
          have hlf := HLEFT.out x hxm
          obtain ⟨q, hq⟩ : ∃ q, q = (woD k K1 x).1.length := ⟨_, rfl⟩
          have hso : some1 (woD k K1 x) = decide (0 < q) := by rw [hq]; rfl
          rw [hso] at hls
          obtain ⟨xs, xt⟩ := x
          simp only at c0 c1 hlf
          have i1 : (0 : Int) ≤ (j : Int) := by omega
          have i2 : (j : Int) < (n : Int) := by omega
          have HLAT := Lib.hid hlat; have HOR := Lib.hid hor; have HLS := Lib.hid hls; have HLL := Lib.hid hll; have HLF := Lib.hid hlf; have HQ := Lib.hid hq
          clear hrel hlat hor hcell hjl hx hx2 hxm hxr hls hll hlf hq hso
          go_upto_region 12 with (go_at_call 42; refine (HLF.out _ HLAT.out).mono ?_; rintro e w5 ⟨xv, rfl, hxi, hb5⟩)
          obtain ⟨ya, yc, rfl⟩ := ints_as hxi HQ.out
          have c0 := hb5.cell_at c0
          have c1 := hb5.cell_at c1
          have c33 := hb5.cell_at c33
          have HL5 := Lib.hid (HLAT.out.trans hb5); have HO5 := Lib.hid (HOR.out.keep hb5)
          have hl5 : ((lft1 k K1 L1 j).map Dr.row).length < 1000000000000 := by rw [List.length_map]; have := HLL.out; omega
          have HLN := Lib.hid hl5
          clear hxi hb5 hl5 HLAT HOR
          by_cases hy0 : 0 < q
          · have d0 : decide ((0 : Int) < (q : Int)) = true := decide_eq_true (by omega)
            have hls : lft1 k K1 L1 (j + 1) = lft1 k K1 L1 j ++ [⟨xs, xt⟩] := by rw [HLS.out, decide_eq_true hy0, if_pos rfl]
            have HLS2 := Lib.hid hls
            clear hls HLS
            go_wp2_with (at_builtin; refine appR w5 wo.heap.size rfl (.tmp 58) (.tmp 66) 22 rfl 37 _ 2 24 Tryz.underlying22 info_DropR rfl (by decide) (by decide) _ _ _ rfl HO5.out rfl rfl (fun u hu => by simp at hu; rcases hu with rfl | rfl <;> rfl) HLN.out HL5.out.size ?_; intro v6 w6 hown6 hb6 hs6)
            have hl6 : Lat wo w6 := Below.trans HL5.out hb6
            have HL6 := Lib.hid hl6; have HO6 := Lib.hid hown6
            clear hs6 hb6 hown6 hl6
            go_roundw
            case rel => exact ⟨j + 1, by omega, by go_num, HL6.out, by rw [HLS2.out, List.map_append]; exact HO6.out⟩
            case measure => simp [intOf]; omega
          · have d0 : decide ((0 : Int) < (q : Int)) = false := decide_eq_false (by omega)
            have hls : lft1 k K1 L1 (j + 1) = lft1 k K1 L1 j := by rw [HLS.out, decide_eq_false hy0, if_neg (by decide)]
            have HLS2 := Lib.hid hls
            clear hls HLS
            go_wp2_with fail
            go_roundw
            case rel => exact ⟨j + 1, by omega, by go_num, HL5.out, by rw [HLS2.out]; exact HO5.out⟩
            case measure => simp [intOf]; omega
        · obtain rfl : j = n := by omega
          have dj : decide (j < j) = false := decide_eq_false (by omega)
          have hla : lft1 k K1 L1 j = lftR k K1 L1 := by rw [HN.out]; exact lft1_all k K1 L1
          rw [hla] at hor
          have hok : ∀ d ∈ lftR k K1 L1, 1 ≤ d.s ∧ d.s ≤ 10000 ∧ d.t.size = m := fun d hd => HP.out.ok d (List.mem_filter.1 hd).1
          have hln : (lftR k K1 L1).length ≤ j := by rw [← hla]; exact lft1_len k K1 L1 j
          obtain ⟨LL, hLL⟩ : ∃ LL, LL = lftR k K1 L1 := ⟨_, rfl⟩
          rw [← hLL] at hor hok hln
          obtain ⟨ll, hll⟩ : ∃ ll, ll = LL.length := ⟨_, rfl⟩
          rw [← hll] at hln
          obtain ⟨la, lc, rfl, hrat⟩ := OwnR.slice hor (show (LL.map Dr.row).length = ll by rw [List.length_map, hll])
          have hpw := HP.out.keep hlat
          have fp := hpw.blk.free 33 (by decide)
          have hpo : p < wo.heap.size := HP.out.blk.lt
          have hp2 := hpw.setD (w0 := wo) hor (Nat.le_refl _) hpo hok
          have hla2 : ∀ i, (Value.slice la ll lc).ownBlock = some i → wo.heap.size ≤ i := fun i hi => (OwnR.lt hor i hi).1
          have hfr2 : Fr G3 wb (wr.setCell ⟨p, 33, none⟩ (.slice la ll lc)) := (HFR3.out.next hlat).then_set ⟨p, 33, none⟩ _ (.inl HGP3.out)
          have hown2 : OwnInts (wr.setCell ⟨p, 33, none⟩ (.slice la ll lc)) wb.heap.size u5 out := OwnInts.frP (Own.keep HOW.out hlat) (Fr.set (S := fun i => i = p) wr ⟨p, 33, none⟩ _ rfl) (fun g hg e => by have := (Own.lt HOW.out g hg).1; have := HPB.out; omega)
          obtain ⟨W2, hW2⟩ : ∃ W2, W2 = wr.setCell ⟨p, 33, none⟩ (.slice la ll lc) := ⟨_, rfl⟩
          rw [← hW2] at hp2 hfr2 hown2
          have HP2 := Lib.hid hp2; have HF2 := Lib.hid hfr2; have HO2 := Lib.hid hown2; have HLA2 := Lib.hid hla2; have HLL := Lib.hid hll; have HLLD := Lib.hid hLL
          clear hrel hlat hor hla hok hLL hll hrat hpw hpo hp2 hla2 hfr2 hown2 HC33 HLEFT HAT
          go_upto_region 15 with fail
          rw [← hW2]
          clear hW2 c33 fp
          obtain ⟨la', lc', he, hat2⟩ := OwnR.slice HP2.out.drops (show (LL.map Dr.row).length = ll by rw [List.length_map]; exact HLL.out.symm)
          injection he with q1 _ q3
          subst q1
          subst q3
          have hcap2 := hat2.cap
          have hcle2 := hat2.le
          unfold maxLen at hcap2
          have hleft2 : ∀ x ∈ LL, ∀ W, Lat W2 W → Calls Tryz.prog 42 #[.pointer (some ⟨p, 0, none⟩), .agg #[.int .i64 x.s, .string x.t]] W fun e w' => ∃ v, e = .returned v ∧ OwnInts w' W.heap.size v (woD k K1 x).1 ∧ Lat W w' := fun x hx W hW => by
            have ho := HP2.out.ok x hx
            have e : x.s = ((x.s.toNat : Nat) : Int) := by omega
            have := refLeft _ p k m K1 (T ++ [s]) LL (.slice la ll lc) tv2 x.s.toNat x.t.data.toList W (HP2.out.keep hW) h1 h2 (by omega) (by omega)
            rw [S_data', ← e] at this
            exact this
          have HAT2 := Lib.hid hat2; have HLEFT2 := Lib.hid hleft2
          clear hat2 hleft2
          go_wp2_with fail
          go_loopw [5, 6, 10] (fun ov av i wx => ∃ (j : Nat) (b : Bool), j ≤ ll ∧ i = .int .i64 j ∧ av = .bool b ∧ Hid (if b = true then (∃ K2 L2 out2 lv2, TK G3 wb p k m (T ++ [s]) tv2 R f true K2 L2 out2 lv2 ov wx) else ov = u5 ∧ Lat W2 wx ∧ ∀ j', j' < j → ∀ y, LL[j']? = some y → one1 (woD k K1 y) = false)) (fun _ _ i _ => ll - (intOf i).toNat)
          case atStart => exact ⟨0, false, Nat.zero_le _, rfl, rfl, by unfold Hid; rw [if_neg (fun e => Bool.noConfusion e)]; exact ⟨rfl, Lat.refl _, fun j' hj => by omega⟩⟩
          case round =>
            obtain ⟨i, b, hi, rfl, rfl, hrel⟩ := hrel
            by_cases hlt : i < ll
            · have di : decide (i < ll) = true := decide_eq_true hlt
              cases b with
              | true =>
                have h9 := hrel.out
                rw [if_pos rfl] at h9
                have H9 := Lib.hid h9
                clear hrel h9
                go_wp2_with fail
                obtain ⟨K2, L2, out2, lv9, h9⟩ := H9.out
                go_roundg f
                case measure => omega
                case rel => exact ⟨true, K2, L2, out2, lv9, rfl, h9⟩
              | false =>
                have h9 := hrel.out
                rw [if_neg (fun e => Bool.noConfusion e)] at h9
                obtain ⟨hov, hlat, hbf⟩ := h9
                subst hov
                obtain ⟨gb, go, hgla, hcell⟩ := (HAT2.out.keep hlat).at_ (by omega)
                have hil : i < LL.length := by rw [← HLL.out]; exact hlt
                obtain ⟨x, hx⟩ : ∃ x, x = LL[i] := ⟨_, rfl⟩
                have hx2 : LL[i]? = some x := by rw [hx]; exact List.getElem?_eq_getElem hil
                have hxm : x ∈ LL := by rw [hx]; exact List.getElem_mem hil
                have hxr : (LL.map Dr.row)[i]? = some (Dr.row x) := by rw [List.getElem?_map, hx2]; rfl
                have c0 := (hcell i _ hxr).2 0 _ rfl
                have c1 := (hcell i _ hxr).2 1 _ rfl
                rw [Nat.add_zero] at c0
                rw [← Nat.add_assoc] at c1
                have hlf := HLEFT2.out x hxm
                obtain ⟨q, hq⟩ : ∃ q, q = (woD k K1 x).1.length := ⟨_, rfl⟩
                have hso : one1 (woD k K1 x) = decide (q = 1) := by rw [hq]; rfl
                have hxo := HP2.out.ok x hxm
                obtain ⟨xs, xt⟩ := x
                simp only at c0 c1 hlf hxo
                have i1 : (0 : Int) ≤ (i : Int) := by omega
                have i2 : (i : Int) < (ll : Int) := by omega
                have HLAT := Lib.hid hlat; have HLF := Lib.hid hlf; have HQ := Lib.hid hq; have HSO := Lib.hid hso; have HXO := Lib.hid hxo; have HX2 := Lib.hid hx2; have HBF := Lib.hid hbf; have HXM := Lib.hid hxm
                subst hgla
                clear hrel hlat hcell hil hx hx2 hxm hxr hlf hq hso hxo hbf
                go_upto_region 19 with (go_at_call 42; refine (HLF.out _ HLAT.out).mono ?_; rintro e w5 ⟨xv, rfl, hxi, hb5⟩)
                obtain ⟨ya, yc, rfl⟩ := ints_as hxi HQ.out
                have c0 := hb5.cell_at c0
                have c1 := hb5.cell_at c1
                have HL5 := Lib.hid (HLAT.out.trans hb5); have HXI := Lib.hid hxi; have HB5 := Lib.hid hb5
                clear hb5 hxi
                by_cases hq1 : q = 1
                · subst hq1
                  have hfd : LL.find? (fun d => one1 (woD k K1 d)) = some ⟨xs, xt⟩ := find_at HX2.out (by rw [HSO.out]; rfl) HBF.out
                  obtain ⟨z, hz⟩ : ∃ z, (woD k K1 ⟨xs, xt⟩).1 = [z] := List.length_eq_one_iff.1 HQ.out.symm
                  have hzm : z ∈ (setZ k xs.toNat).filter (unkn K1) := by
                    have e : (woD k K1 ⟨xs, xt⟩).1 = (setZ k xs.toNat).filter (unkn K1) := rfl
                    rw [← e, hz]; exact List.mem_singleton.2 rfl
                  obtain ⟨hz1, hz2⟩ := List.mem_filter.1 hzm
                  have hxs1 := HXO.out.1
                  have hxs2 := HXO.out.2.1
                  have hzr := setZ_lt k xs.toNat h1 (by omega) z hz1
                  have hzn : K1 z = none := by unfold unkn at hz2; exact Option.isNone_iff_eq_none.1 hz2
                  have hoth : ∀ y ∈ setZ k xs.toNat, y ≠ z → ∃ c, K1 y = some c := fun y hy hne => by
                    cases hc : K1 y with
                    | some c => exact ⟨c, rfl⟩
                    | none =>
                      have hm : y ∈ (woD k K1 ⟨xs, xt⟩).1 := List.mem_filter.2 ⟨hy, by unfold unkn; rw [hc]; rfl⟩
                      rw [hz, List.mem_singleton] at hm
                      exact absurd hm hne
                  have hset : ∀ W, Calls Tryz.prog 32 #[.int .i64 k, .int .i64 xs] W fun e w' => ∃ a cap, e = .returned (.slice a (setZ k xs.toNat).length cap) ∧ IntsAt w' a (setZ k xs.toNat).length cap (setZ k xs.toNat) ∧ Lat W w' := fun W => by
                    have := refSet k xs.toNat W h1 h2 (by omega) (by omega)
                    rw [show ((xs.toNat : Nat) : Int) = xs by omega] at this
                    exact this
                  have hs16 := setZ_lt k xs.toNat h1 (by omega)
                  have hsl := setZ_length k xs.toNat h1 h2 (by omega)
                  have hwo : (woD k K1 ⟨xs, xt⟩).2 = (setZ k xs.toNat).foldl (ovK K1) xt.data.toList := rfl
                  obtain ⟨ZS, hZS⟩ : ∃ ZS, ZS = setZ k xs.toNat := ⟨_, rfl⟩
                  rw [← hZS] at hset hs16 hsl hoth hwo
                  obtain ⟨n4, hn4⟩ : ∃ n4, n4 = ZS.length := ⟨_, rfl⟩
                  rw [← hn4] at hset hsl
                  obtain ⟨qz, hqz⟩ : ∃ qz : Nat, z = (qz : Int) := ⟨z.toNat, by omega⟩
                  subst hqz
                  have hxi1 : OwnInts w5 wr.heap.size (.slice ya 1 yc) [(qz : Int)] := by rw [← hz]; exact HXI.out
                  obtain ⟨ya', yc', he, hyi⟩ := OwnInts.sliceN hxi1 (fun z hz => by rw [List.mem_singleton] at hz; subst hz; omega) (n := 1) rfl
                  injection he with q1 _ q3
                  subst q1
                  subst q3
                  have hylt := Own.lt hxi1
                  have hycap := hyi.row.cap
                  have hycle := hyi.row.le
                  unfold maxLen at hycap
                  obtain ⟨yb, yo, rfl, hyc⟩ := hyi.row.at_ (by omega)
                  have cy : w5.cell? ⟨yb, yo, none⟩ = some (.int .i64 qz) := hyc 0 (by omega)
                  have hybp : yb ≠ p := fun e => by
                    have := (hylt yb rfl).1
                    have := (HP2.out.keep HLAT.out).blk.lt
                    omega
                  have hp5 := HP2.out.keep HL5.out
                  have c00 : w5.cell? ⟨p, 0, none⟩ = some (.int .i64 k) := hp5.blk.cell 0 (by decide)
                  have hKc : ∀ W, Lat w5 W → ∀ y, y < 16 → W.cell? ⟨p, 17 + y, none⟩ = some (.string (S ((K1 (y : Int)).getD []))) := fun W hW y hy => by
                    rw [(hp5.keep hW).blk.cell (17 + y) (by omega)]
                    unfold plF
                    rw [if_neg (by omega), if_neg (by omega), if_pos (by omega), show ((17 + y : Nat) : Int) - 17 = (y : Int) by omega]
                  have z0 : (0 : Int) ≤ (qz : Int) := by omega
                  have z1 : (qz : Int) < 16 := by omega
                  have hF : w5.drew.cell? ⟨p, 0, none⟩ = some (.int .i64 k) ∧ w5.drew.cell? ⟨gb, go + i * 2, none⟩ = some (.int .i64 xs) := ⟨c00, c0⟩
                  have d0 : decide (((1 : Nat) : Int) = 1) = true := rfl
                  have HFD := Lib.hid hfd; have HZ := Lib.hid hz; have HZR := Lib.hid hzr; have HZN := Lib.hid hzn; have HOTH := Lib.hid hoth; have HSET := Lib.hid hset; have HS16 := Lib.hid hs16; have HSL := Lib.hid hsl; have HWO := Lib.hid hwo; have HN4 := Lib.hid hn4; have HP5 := Lib.hid hp5; have HKC := Lib.hid hKc; have HFF := Lib.hid hF; have HYC := Lib.hid cy
                  clear hfd hz hzm hz1 hz2 hzr hzn hoth hset hs16 hsl hwo hZS hn4 hxi1 hylt hyi hyc hp5 hKc hF c00 HXI HQ HSO HBF HX2 HLF
                  go_upto_region 21 with fail
                  have hF := HFF.out
                  refine wp_region_gate (fun w' => w'.cell? ⟨p, 0, none⟩ = some (.int .i64 k) ∧ w'.cell? ⟨gb, go + i * 2, none⟩ = some (.int .i64 xs)) (fun _ => True) 1000 (by kernel_rfl) ?_
                  refine gate_takeF (i := 0) (v := ?_) rfl (by kernel_rfl) (by kernel_rfl) (by kernel_rfl) (fun _ _ _ h => h) (by decide) ⟨hF, fun _ => trivial⟩ (Or.inl ⟨by kernel_rfl, ?_⟩) ?_
                  rotate_left
                  · intro wq hSw; obtain ⟨s0, s1⟩ := hSw; go_simp; rfl
                  simp only [Act.put]
                  refine gate_takeF (i := 1) (v := ?_) rfl (by kernel_rfl) (by kernel_rfl) (by kernel_rfl) (fun _ _ _ h => h) (by decide) ⟨hF, fun _ => trivial⟩ (Or.inl ⟨by kernel_rfl, ?_⟩) ?_
                  rotate_left
                  · intro wq hSw; obtain ⟨s0, s1⟩ := hSw; go_simp; rfl
                  simp only [Act.put]
                  refine gate_takeF (i := 2) (v := ?_) rfl (by kernel_rfl) (by kernel_rfl) (by kernel_rfl) (fun _ _ _ h => h) (by decide) ⟨hF, fun _ => trivial⟩ (Or.inl ⟨by kernel_rfl, ?_⟩) ?_
                  rotate_left
                  · intro wq hSw; obtain ⟨s0, s1⟩ := hSw; go_simp; rfl
                  simp only [Act.put]
                  refine gate_takeF (i := 3) (v := ?_) rfl (by kernel_rfl) (by kernel_rfl) (by kernel_rfl) (fun _ _ _ h => h) (by decide) ⟨hF, fun _ => trivial⟩ (Or.inl ⟨by kernel_rfl, ?_⟩) ?_
                  rotate_left
                  · intro wq hSw; obtain ⟨s0, s1⟩ := hSw; go_simp; rfl
                  simp only [Act.put]
                  refine gate_takeF (i := 4) (v := ?_) rfl (by kernel_rfl) (by kernel_rfl) (by kernel_rfl) (fun _ _ _ h => h) (by decide) ⟨hF, fun _ => trivial⟩ (Or.inl ⟨by kernel_rfl, ?_⟩) ?_
                  rotate_left
                  · intro wq hSw; obtain ⟨s0, s1⟩ := hSw; go_simp; rfl
                  simp only [Act.put]
                  refine gate_takeF (i := 5) (v := ?_) rfl (by kernel_rfl) (by kernel_rfl) (by kernel_rfl) (fun _ _ _ h => h) (by decide) ⟨hF, fun _ => trivial⟩ (Or.inl ⟨by kernel_rfl, ?_⟩) ?_
                  rotate_left
                  · intro wq hSw; obtain ⟨s0, s1⟩ := hSw; go_simp; rfl
                  simp only [Act.put]
                  refine gate_takeF (i := 6) (v := ?_) rfl (by kernel_rfl) (by kernel_rfl) (by kernel_rfl) (fun _ _ _ h => h) (by decide) ⟨hF, fun _ => trivial⟩ (Or.inl ⟨by kernel_rfl, ?_⟩) ?_
                  rotate_left
                  · intro wq hSw; obtain ⟨s0, s1⟩ := hSw; go_simp; rfl
                  simp only [Act.put]
                  refine gate_takeF (i := 7) (v := ?_) rfl (by kernel_rfl) (by kernel_rfl) (by kernel_rfl) (fun _ _ _ h => h) (by decide) ⟨hF, fun _ => trivial⟩ (Or.inl ⟨by kernel_rfl, ?_⟩) ?_
                  rotate_left
                  · intro wq hSw; obtain ⟨s0, s1⟩ := hSw; go_simp; rfl
                  simp only [Act.put]
                  refine gate_takeF (i := 8) (v := ?_) rfl (by kernel_rfl) (by kernel_rfl) (by kernel_rfl) (fun _ _ _ h => h) (by decide) ⟨hF, fun _ => trivial⟩ (Or.inl ⟨by kernel_rfl, ?_⟩) ?_
                  rotate_left
                  · intro wq hSw; obtain ⟨s0, s1⟩ := hSw; go_simp; rfl
                  simp only [Act.put]
                  refine gate_one (i := 9) (by kernel_rfl) rfl (fun KK hK => ?_)
                  go_simp
                  refine (HSET.out _).mono ?_
                  rintro e w6 ⟨sa, sc, rfl, hsi, hb6⟩
                  have hF' : w6.cell? ⟨p, 0, none⟩ = some (.int .i64 k) ∧ w6.cell? ⟨gb, go + i * 2, none⟩ = some (.int .i64 xs) := ⟨hb6.cell_at hF.1, hb6.cell_at hF.2⟩
                  refine hK _ _ ⟨hF', fun _ => trivial⟩ ?_
                  have hl6 : Lat w5 w6 := (Lat.drew w5).trans hb6
                  have HL6 := Lib.hid hl6; have HSI := Lib.hid hsi
                  clear hK KK hF hb6 hsi hl6
                  have hF := hF'
                  clear hF' 
                  refine gate_takeF (i := 10) (v := ?_) rfl (by kernel_rfl) (by kernel_rfl) (by kernel_rfl) (fun _ _ _ h => h) (by decide) ⟨hF, fun _ => trivial⟩ (Or.inl ⟨by kernel_rfl, ?_⟩) ?_
                  rotate_left
                  · intro wq hSw; obtain ⟨s0, s1⟩ := hSw; go_simp; rfl
                  simp only [Act.put]
                  refine gate_done (by kernel_rfl) ?_ _
                  clear hF HFF
                  simp only [List.getElem_toArray, List.getElem_cons_succ, List.getElem_cons_zero]
                  go_simp
                  have hscap := HSI.out.row.cap
                  have hscle := HSI.out.row.le
                  unfold maxLen at hscap
                  have hxl : xt.data.toList.length = m := HXO.out.2.2
                  have HXL := Lib.hid hxl
                  clear hxl
                  go_wp2_with fail
                  go_loopw [12, 14] (fun bv iv wx => ∃ (j : Nat) (b : Bts), j ≤ n4 ∧ iv = .int .i64 j ∧ bv = .string (S b) ∧ Hid (b = (ZS.take j).foldl (ovK K1) xt.data.toList ∧ Lat w6 wx)) (fun _ i _ => n4 - (intOf i).toNat)
                  case atStart => exact ⟨0, xt.data.toList, Nat.zero_le _, rfl, rfl, rfl, Lat.refl _⟩
                  case round =>
                    obtain ⟨j, b, hj, rfl, rfl, hrel⟩ := hrel
                    obtain ⟨hb, hlat⟩ := hrel.out
                    have hbl : b.length = m := by rw [hb]; exact ovK_len HP5.out.kn _ _ HXL.out
                    have hl5 := HL6.out.trans hlat
                    have cyw := hl5.cell_at HYC.out
                    by_cases hlt : j < n4
                    · obtain ⟨sb, so, rfl, hc⟩ := (HSI.out.keep hlat).row.at_ (by omega)
                      have hjl : j < ZS.length := by rw [← HN4.out]; exact hlt
                      have cs := hc j hlt
                      have hym := getD_mem ZS j hjl
                      have hy16 := HS16.out _ hym
                      have hst : (ZS.take (j + 1)).foldl (ovK K1) xt.data.toList = ovK K1 b (ZS.getD j 0) := by
                        rw [List.take_succ_eq_append_getElem hjl, List.foldl_append, ← hb, List.getD_eq_getElem?_getD, List.getElem?_eq_getElem hjl]; rfl
                      obtain ⟨qy, hqy⟩ : ∃ qy : Nat, ZS.getD j 0 = (qy : Int) := ⟨(ZS.getD j 0).toNat, by omega⟩
                      rw [hqy] at cs hy16 hst hym
                      have cb := HKC.out wr hl5 qy (by omega)
                      have y0 : (0 : Int) ≤ (qy : Int) := by omega
                      have y1 : (qy : Int) < 16 := by omega
                      have j0 : (0 : Int) ≤ (j : Int) := by omega
                      have j1 : (j : Int) < (n4 : Int) := by omega
                      have dj : decide (j < n4) = true := decide_eq_true hlt
                      have hlw : ∀ d, Lat w6 (wr.drewN d) := fun d => hlat.trans (Lat.drewN _ d)
                      have HLW := Lib.hid hlw
                      by_cases hyz : (qy : Int) = (qz : Int)
                      · have hst2 : b = (ZS.take (j + 1)).foldl (ovK K1) xt.data.toList := by rw [hst]; unfold ovK; rw [hyz, HZN.out]
                        obtain rfl : qy = qz := by omega
                        have HST2 := Lib.hid hst2
                        clear hrel hb hlat hc hst hqy hym hst2 hl5 hlw hbl hjl hyz
                        go_upto_region 25 with fail
                        go_quiet (fail)
                        go_wp2_with fail
                        go_roundw
                        case rel => exact ⟨j + 1, b, by omega, by go_num, rfl, HST2.out, HLW.out _⟩
                        case measure => simp [intOf]; omega
                      · obtain ⟨c, hcc⟩ := HOTH.out _ hym hyz
                        have hst2 : xorL b c = (ZS.take (j + 1)).foldl (ovK K1) xt.data.toList := by rw [hst]; unfold ovK; rw [hcc]
                        have hcl := (HP5.out.kn _ _ hcc).2.2
                        rw [hcc] at cb
                        have cb : wr.cell? ⟨p, 17 + qy, none⟩ = some (.string (S c)) := cb
                        have hxor : ∀ W, Calls Tryz.prog 43 #[.string (S b), .string (S c)] W fun e w' => e = .returned (.string (S (xorL b c))) ∧ Lat W w' := fun W => refXor (S b) (S c) W (by show b.length = c.length; omega) (by show b.length ≤ 1000000; omega)
                        have hF : ∀ d, (wr.drewN d).drew.cell? ⟨sb, so + j, none⟩ = some (.int .i64 qy) ∧ (wr.drewN d).drew.cell? ⟨p, 17 + qy, none⟩ = some (.string (S c)) := fun d => ⟨cs, cb⟩
                        have dz : decide ((qy : Int) = (qz : Int)) = false := decide_eq_false hyz
                        have dz2 : decide (qy = qz) = false := decide_eq_false (by omega)
                        have HST2 := Lib.hid hst2; have HXOR := Lib.hid hxor; have HFF := Lib.hid hF
                        clear hrel hb hlat hc hst hqy hym hst2 hl5 hlw hbl hjl hcl hcc hxor hF
                        go_upto_region 25 with fail
                        go_quiet (fail)
                        go_upto_region 26 with fail
                        have hF := HFF.out nq
                        refine wp_region_gate (fun w' => w'.cell? ⟨sb, so + j, none⟩ = some (.int .i64 qy) ∧ w'.cell? ⟨p, 17 + qy, none⟩ = some (.string (S c))) (fun _ => True) 1000 (by kernel_rfl) ?_
                        refine gate_takeF (i := 0) (v := ?_) rfl (by kernel_rfl) (by kernel_rfl) (by kernel_rfl) (fun _ _ _ h => h) (by decide) ⟨hF, fun _ => trivial⟩ (Or.inl ⟨by kernel_rfl, ?_⟩) ?_
                        rotate_left
                        · intro wq hSw; obtain ⟨s0, s1⟩ := hSw; go_simp; rfl
                        simp only [Act.put]
                        refine gate_takeF (i := 1) (v := ?_) rfl (by kernel_rfl) (by kernel_rfl) (by kernel_rfl) (fun _ _ _ h => h) (by decide) ⟨hF, fun _ => trivial⟩ (Or.inl ⟨by kernel_rfl, ?_⟩) ?_
                        rotate_left
                        · intro wq hSw; obtain ⟨s0, s1⟩ := hSw; go_simp; rfl
                        simp only [Act.put]
                        refine gate_takeF (i := 2) (v := ?_) rfl (by kernel_rfl) (by kernel_rfl) (by kernel_rfl) (fun _ _ _ h => h) (by decide) ⟨hF, fun _ => trivial⟩ (Or.inl ⟨by kernel_rfl, ?_⟩) ?_
                        rotate_left
                        · intro wq hSw; obtain ⟨s0, s1⟩ := hSw; go_simp; rfl
                        simp only [Act.put]
                        refine gate_takeF (i := 3) (v := ?_) rfl (by kernel_rfl) (by kernel_rfl) (by kernel_rfl) (fun _ _ _ h => h) (by decide) ⟨hF, fun _ => trivial⟩ (Or.inl ⟨by kernel_rfl, ?_⟩) ?_
                        rotate_left
                        · intro wq hSw; obtain ⟨s0, s1⟩ := hSw; go_simp; rfl
                        simp only [Act.put]
                        refine gate_takeF (i := 4) (v := ?_) rfl (by kernel_rfl) (by kernel_rfl) (by kernel_rfl) (fun _ _ _ h => h) (by decide) ⟨hF, fun _ => trivial⟩ (Or.inl ⟨by kernel_rfl, ?_⟩) ?_
                        rotate_left
                        · intro wq hSw; obtain ⟨s0, s1⟩ := hSw; go_simp; rfl
                        simp only [Act.put]
                        refine gate_takeF (i := 5) (v := ?_) rfl (by kernel_rfl) (by kernel_rfl) (by kernel_rfl) (fun _ _ _ h => h) (by decide) ⟨hF, fun _ => trivial⟩ (Or.inl ⟨by kernel_rfl, ?_⟩) ?_
                        rotate_left
                        · intro wq hSw; obtain ⟨s0, s1⟩ := hSw; go_simp; rfl
                        simp only [Act.put]
                        refine gate_takeF (i := 6) (v := ?_) rfl (by kernel_rfl) (by kernel_rfl) (by kernel_rfl) (fun _ _ _ h => h) (by decide) ⟨hF, fun _ => trivial⟩ (Or.inl ⟨by kernel_rfl, ?_⟩) ?_
                        rotate_left
                        · intro wq hSw; obtain ⟨s0, s1⟩ := hSw; go_simp; rfl
                        simp only [Act.put]
                        refine gate_takeF (i := 7) (v := ?_) rfl (by kernel_rfl) (by kernel_rfl) (by kernel_rfl) (fun _ _ _ h => h) (by decide) ⟨hF, fun _ => trivial⟩ (Or.inl ⟨by kernel_rfl, ?_⟩) ?_
                        rotate_left
                        · intro wq hSw; obtain ⟨s0, s1⟩ := hSw; go_simp; rfl
                        simp only [Act.put]
                        refine gate_takeF (i := 8) (v := ?_) rfl (by kernel_rfl) (by kernel_rfl) (by kernel_rfl) (fun _ _ _ h => h) (by decide) ⟨hF, fun _ => trivial⟩ (Or.inl ⟨by kernel_rfl, ?_⟩) ?_
                        rotate_left
                        · intro wq hSw; obtain ⟨s0, s1⟩ := hSw; go_simp; rfl
                        simp only [Act.put]
                        refine gate_takeF (i := 9) (v := ?_) rfl (by kernel_rfl) (by kernel_rfl) (by kernel_rfl) (fun _ _ _ h => h) (by decide) ⟨hF, fun _ => trivial⟩ (Or.inl ⟨by kernel_rfl, ?_⟩) ?_
                        rotate_left
                        · intro wq hSw; obtain ⟨s0, s1⟩ := hSw; go_simp; rfl
                        simp only [Act.put]
                        refine gate_one (i := 10) (by kernel_rfl) rfl (fun KK hK => ?_)
                        go_simp
                        refine (HXOR.out _).mono ?_
                        rintro e w7 ⟨rfl, hb7⟩
                        have hF' : w7.cell? ⟨sb, so + j, none⟩ = some (.int .i64 qy) ∧ w7.cell? ⟨p, 17 + qy, none⟩ = some (.string (S c)) := ⟨hb7.cell_at hF.1, hb7.cell_at hF.2⟩
                        refine hK _ _ ⟨hF', fun _ => trivial⟩ ?_
                        have hl7 : Lat w6 w7 := ((HLW.out nq).trans (Lat.drew _)).trans hb7
                        have HL7 := Lib.hid hl7
                        clear hK KK hF hb7 hl7
                        have hF := hF'
                        clear hF' 
                        refine gate_takeF (i := 11) (v := ?_) rfl (by kernel_rfl) (by kernel_rfl) (by kernel_rfl) (fun _ _ _ h => h) (by decide) ⟨hF, fun _ => trivial⟩ (Or.inl ⟨by kernel_rfl, ?_⟩) ?_
                        rotate_left
                        · intro wq hSw; obtain ⟨s0, s1⟩ := hSw; go_simp; rfl
                        simp only [Act.put]
                        refine gate_done (by kernel_rfl) ?_ _
                        clear hF HFF
                        simp only [List.getElem_toArray, List.getElem_cons_succ, List.getElem_cons_zero]
                        go_simp
                        go_wp2_with fail
                        go_roundw
                        case rel => exact ⟨j + 1, xorL b c, by omega, by go_num, rfl, HST2.out, HL7.out⟩
                        case measure => simp [intOf]; omega
                    · obtain rfl : j = n4 := by omega
                      have dj : decide (j < j) = false := decide_eq_false (by omega)
                      have hbe : (woD k K1 ⟨xs, xt⟩).2 = b := by rw [HWO.out, hb, List.take_of_length_le (by rw [← HN4.out]; exact Nat.le_refl _)]
                      have hW := HL5.out.trans hl5
                      obtain ⟨W8, W9, u1, u2, hW8, hW9, hu1, fk1, hu2, fk2, hF2, hF3, hf9, hlrn⟩ := learn_two (HP2.out.keep hW) (z := qz) (by have := HZR.out; omega) h2 hbl cyw hybp
                      have hF1 : wr.drew.cell? ⟨yb, yo, none⟩ = some (.int .i64 qz) := cyw
                      have hown9 : OwnInts W9 wb.heap.size u5 out := OwnInts.frP (Own.keep HO2.out hW) hf9 (fun g hg e => by have := (Own.lt HO2.out g hg).1; have := HPB.out; omega)
                      have hfr9 : Fr G3 wb W9 := (HF2.out.next hW).trans hf9 (fun i _ e => by rw [e]; exact HGP3.out)
                      obtain ⟨no, hno⟩ : ∃ no, no = out.length := ⟨_, rfl⟩
                      have hno16 : no ≤ 16 := by have := HOL.out; omega
                      obtain ⟨oa, oc, hov, hoat⟩ := OwnInts.sliceN hown9 (fun z hz => by have := HRNG.out z hz; omega) hno.symm
                      subst hov
                      have hput := refPut oa no oc out (qz : Int) W9 hoat (by omega)
                      have hunk := unkC_upd (k := k) (K := K1) b HZR.out HZN.out
                      have hrun2 : rtk k f (updK K1 (qz : Int) b) LL (putL out (qz : Int)) = R := rtk_hit HRUN.out HLLD.out HFD.out HZ.out hbe
                      have hsz9 := hfr9.size
                      have H1 := Lib.hid hF1; have H2 := Lib.hid hF2; have H3 := Lib.hid hF3; have HLRN := Lib.hid hlrn; have HFR9 := Lib.hid hfr9; have HPUT := Lib.hid hput; have HUNK := Lib.hid hunk; have HRUN2 := Lib.hid hrun2; have HNO := Lib.hid hno; have HW8 := Lib.hid hW8; have HW9 := Lib.hid hW9; have HSZ9 := Lib.hid hsz9; have HC2 := Lib.hid (And.intro hu2 fk2)
                      clear hrel hb hbl hlat hl5 cyw hbe hW hlrn hF1 hF2 hF3 hf9 hown9 hfr9 hno hoat hput hunk hrun2 hW8 hW9 hsz9 hu2 fk2
                      go_upto_region 27 with fail
                      have hF := H1.out
                  
                      refine wp_region_gate (fun w' => w'.cell? ⟨yb, yo, none⟩ = some (.int .i64 qz)) (fun _ => True) 1000 (by kernel_rfl) ?_
                      refine gate_takeF (i := 0) (v := ?_) rfl (by kernel_rfl) (by kernel_rfl) (by kernel_rfl) (fun _ _ _ h => h) (by decide) ⟨hF, fun _ => trivial⟩ (Or.inl ⟨by kernel_rfl, ?_⟩) ?_
                      rotate_left
                      · intro wq hSw; go_simp; rfl
                      simp only [Act.put]
                      refine gate_takeF (i := 1) (v := ?_) rfl (by kernel_rfl) (by kernel_rfl) (by kernel_rfl) (fun _ _ _ h => h) (by decide) ⟨hF, fun _ => trivial⟩ (Or.inl ⟨by kernel_rfl, ?_⟩) ?_
                      rotate_left
                      · intro wq hSw; go_simp; rfl
                      simp only [Act.put]
                      refine gate_takeF (i := 2) (v := ?_) rfl (by kernel_rfl) (by kernel_rfl) (by kernel_rfl) (fun _ _ _ h => h) (by decide) ⟨hF, fun _ => trivial⟩ (Or.inl ⟨by kernel_rfl, ?_⟩) ?_
                      rotate_left
                      · intro wq hSw; go_simp; rfl
                      simp only [Act.put]
                      refine gate_takeF (i := 3) (v := ?_) rfl (by kernel_rfl) (by kernel_rfl) (by kernel_rfl) (fun _ _ _ h => h) (by decide) ⟨hF, fun _ => trivial⟩ (Or.inl ⟨by kernel_rfl, ?_⟩) ?_
                      rotate_left
                      · intro wq hSw; go_simp; rfl
                      simp only [Act.put]
                      refine gate_takeF (i := 4) (v := ?_) rfl (by kernel_rfl) (by kernel_rfl) (by kernel_rfl) (fun _ _ _ h => h) (by decide) ⟨hF, fun _ => trivial⟩ (Or.inl ⟨by kernel_rfl, ?_⟩) ?_
                      rotate_left
                      · intro wq hSw; go_simp; rfl
                      simp only [Act.put]
                      refine gate_takeF (i := 5) (v := ?_) rfl (by kernel_rfl) (by kernel_rfl) (by kernel_rfl) (fun _ _ _ h => h) (by decide) ⟨hF, fun _ => trivial⟩ (Or.inl ⟨by kernel_rfl, ?_⟩) ?_
                      rotate_left
                      · intro wq hSw; go_simp; rfl
                      simp only [Act.put]
                      refine gate_takeF (i := 6) (v := ?_) rfl (by kernel_rfl) (by kernel_rfl) (by kernel_rfl) (fun _ _ _ h => h) (by decide) ⟨hF, fun _ => trivial⟩ (Or.inl ⟨by kernel_rfl, ?_⟩) ?_
                      rotate_left
                      · intro wq hSw; go_simp; rfl
                      simp only [Act.put]
                      refine gate_one (i := 7) (by kernel_rfl) rfl (fun KK hK => ?_)
                      clear hF
                      go_simp
                      rw [drew_set, ← HW8.out]
                      refine hK _ _ ⟨H2.out, fun _ => trivial⟩ ?_
                      clear hK KK
                      refine gate_done (by kernel_rfl) ?_ _
                      clear hu1 fk1
                      go_upto_region 28 with fail
                      have hF : W8.drew.cell? ⟨yb, yo, none⟩ = some (.int .i64 qz) := H2.out
                      have hu2 := HC2.out.1
                      have fk2 := HC2.out.2
                      refine wp_region_gate (fun w' => w'.cell? ⟨yb, yo, none⟩ = some (.int .i64 qz)) (fun _ => True) 1000 (by kernel_rfl) ?_
                      refine gate_takeF (i := 0) (v := ?_) rfl (by kernel_rfl) (by kernel_rfl) (by kernel_rfl) (fun _ _ _ h => h) (by decide) ⟨hF, fun _ => trivial⟩ (Or.inl ⟨by kernel_rfl, ?_⟩) ?_
                      rotate_left
                      · intro wq hSw; go_simp; rfl
                      simp only [Act.put]
                      refine gate_takeF (i := 1) (v := ?_) rfl (by kernel_rfl) (by kernel_rfl) (by kernel_rfl) (fun _ _ _ h => h) (by decide) ⟨hF, fun _ => trivial⟩ (Or.inl ⟨by kernel_rfl, ?_⟩) ?_
                      rotate_left
                      · intro wq hSw; go_simp; rfl
                      simp only [Act.put]
                      refine gate_takeF (i := 2) (v := ?_) rfl (by kernel_rfl) (by kernel_rfl) (by kernel_rfl) (fun _ _ _ h => h) (by decide) ⟨hF, fun _ => trivial⟩ (Or.inl ⟨by kernel_rfl, ?_⟩) ?_
                      rotate_left
                      · intro wq hSw; go_simp; rfl
                      simp only [Act.put]
                      refine gate_takeF (i := 3) (v := ?_) rfl (by kernel_rfl) (by kernel_rfl) (by kernel_rfl) (fun _ _ _ h => h) (by decide) ⟨hF, fun _ => trivial⟩ (Or.inl ⟨by kernel_rfl, ?_⟩) ?_
                      rotate_left
                      · intro wq hSw; go_simp; rfl
                      simp only [Act.put]
                      refine gate_takeF (i := 4) (v := ?_) rfl (by kernel_rfl) (by kernel_rfl) (by kernel_rfl) (fun _ _ _ h => h) (by decide) ⟨hF, fun _ => trivial⟩ (Or.inl ⟨by kernel_rfl, ?_⟩) ?_
                      rotate_left
                      · intro wq hSw; go_simp; rfl
                      simp only [Act.put]
                      refine gate_takeF (i := 5) (v := ?_) rfl (by kernel_rfl) (by kernel_rfl) (by kernel_rfl) (fun _ _ _ h => h) (by decide) ⟨hF, fun _ => trivial⟩ (Or.inl ⟨by kernel_rfl, ?_⟩) ?_
                      rotate_left
                      · intro wq hSw; go_simp; rfl
                      simp only [Act.put]
                      refine gate_takeF (i := 6) (v := ?_) rfl (by kernel_rfl) (by kernel_rfl) (by kernel_rfl) (fun _ _ _ h => h) (by decide) ⟨hF, fun _ => trivial⟩ (Or.inl ⟨by kernel_rfl, ?_⟩) ?_
                      rotate_left
                      · intro wq hSw; go_simp; rfl
                      simp only [Act.put]
                      refine gate_takeF (i := 7) (v := ?_) rfl (by kernel_rfl) (by kernel_rfl) (by kernel_rfl) (fun _ _ _ h => h) (by decide) ⟨hF, fun _ => trivial⟩ (Or.inl ⟨by kernel_rfl, ?_⟩) ?_
                      rotate_left
                      · intro wq hSw; go_simp; rfl
                      simp only [Act.put]
                      refine gate_one (i := 8) (by kernel_rfl) rfl (fun KK hK => ?_)
                      clear hF
                      go_simp
                      rw [drew_set, ← HW9.out]
                      refine hK _ _ ⟨H3.out, fun _ => trivial⟩ ?_
                      clear hK KK
                      refine gate_done (by kernel_rfl) ?_ _
                      clear hu2 fk2
                      have cy9 := H3.out
                      go_wp2_with (go_at_call 44; refine HPUT.out.mono ?_; rintro e w10 ⟨ov, rfl, hown10, hb10⟩)
                      have htk : TK G3 wb p k m (T ++ [s]) tv2 R f true (updK K1 (qz : Int) b) LL (putL out (qz : Int)) (.slice (some ⟨gb, go, none⟩) ll lc) ov w10 :=
                        ⟨by rw [if_pos rfl]; exact ⟨by have := HUNK.out; have := HUU.out; omega, HRUN2.out⟩, Own.mono hown10 HSZ9.out, by rw [putL_length]; have := HUNK.out; have := HOL.out; omega, fun z hz => by
                          rcases (mem_putL _ _ _).1 hz with h | h
                          · rw [h]; exact HZR.out
                          · exact HRNG.out z h, HFR9.out.next hb10, ⟨_, HLRN.out.keep hb10⟩, fun g hg => .inr (Nat.le_trans HFR3.out.size (HLA2.out g hg)), by rw [← HLL.out]; omega⟩
                      have HTK := Lib.hid htk
                      clear htk hown10 hb10
                      try go_wp2_with fail
                      go_roundw
                      case rel => exact ⟨i + 1, true, by omega, by go_num, rfl, by unfold Hid; rw [if_pos rfl]; exact ⟨_, _, _, _, HTK.out⟩⟩
                      case measure => simp [intOf]; omega
                · have d0 : decide ((q : Int) = 1) = false := decide_eq_false (by omega)
                  have hbf2 : ∀ j', j' < i + 1 → ∀ y, LL[j']? = some y → one1 (woD k K1 y) = false := fun j' hj' y hy => by
                    rcases Nat.lt_succ_iff_lt_or_eq.1 hj' with h | h
                    · exact HBF.out j' h y hy
                    · subst h
                      rw [HX2.out] at hy
                      cases hy
                      rw [HSO.out]; exact decide_eq_false hq1
                  have HBF2 := Lib.hid hbf2
                  clear hbf2
                  go_wp2_with fail
                  go_roundw
                  case rel => exact ⟨i + 1, false, by omega, by go_num, rfl, by unfold Hid; rw [if_neg (fun e => Bool.noConfusion e)]; exact ⟨rfl, HL5.out, HBF2.out⟩⟩
                  case measure => simp [intOf]; omega
            · obtain rfl : i = ll := by omega
              have di : decide (i < i) = false := decide_eq_false (by omega)
              cases b with
              | true =>
                have h9 := hrel.out
                rw [if_pos rfl] at h9
                have H9 := Lib.hid h9
                clear hrel h9
                go_wp2_with fail
                obtain ⟨K2, L2, out2, lv9, h9⟩ := H9.out
                go_roundg f
                case measure => omega
                case rel => exact ⟨true, K2, L2, out2, lv9, rfl, h9⟩
              | false =>
                have h9 := hrel.out
                rw [if_neg (fun e => Bool.noConfusion e)] at h9
                obtain ⟨hov, hlat, hbf⟩ := h9
                subst hov
                have hr : (K1, LL, out) = R := by
                  rw [← HRUN.out, rtk, ← HLLD.out, find_no (p := fun d => one1 (woD k K1 d)) (fun j' y hy => hbf j' (by rw [HLL.out]; exact (List.getElem?_eq_some_iff.1 hy).1) y hy)]
                have htk : TK G3 wb p k m (T ++ [s]) tv2 R f false K1 LL out (.slice la i lc) u5 wr := ⟨by rw [if_neg (fun e => Bool.noConfusion e)]; exact hr, Own.keep HO2.out hlat, HOL.out, HRNG.out, HF2.out.next hlat, ⟨_, HP2.out.keep hlat⟩, fun g hg => .inr (Nat.le_trans HFR3.out.size (HLA2.out g hg)), by rw [← HLL.out]; omega⟩
                have HTK := Lib.hid htk
                clear hrel hlat hbf hr htk
                go_wp2_with fail
                go_roundg f
                case measure => omega
                case rel => exact ⟨false, K1, LL, out, _, rfl, HTK.out⟩
end Go.Proofs.YtcpookgbneoilaaGreatDoor

