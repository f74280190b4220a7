import Derived.Test.YtheimfdbadjpoaaGreatDoorLogStopsT
import Derived.Laws.Bits64b
import Derived.IntWalk
import Derived.Test.YtheimfdbadjpoaaGreatDoorLogStopsU
import Derived.Deep.LoopGhost
import Derived.Deep.Light
import Derived.Deep.Cut
import Derived.Deep.CutRange
import Derived.Deep.CutBlock
import Derived.Lib.Join
import Derived.Shelf.Abstract
import Derived.Test.YtheimfdbadjpoaaGreatDoorShelfJoin
import Derived.Deep.DeepCutAuto
namespace Go.Proofs.YtheimfdbadjpoaaGreatDoor

abbrev Vec := Nat × List UInt8
def vx (u v : Vec) : Vec := (u.1 ^^^ v.1, xorL u.2 v.2)
def vz (m : Nat) : Vec := (0, noughts m)
theorem noughts_len (m : Nat) : (noughts m).length = m := List.length_replicate
theorem vx_comm (u v : Vec) : vx u v = vx v u := by unfold vx; rw [Nat.xor_comm, xorL_comm]
theorem vx_assoc (u v x : Vec) : vx (vx u v) x = vx u (vx v x) := by unfold vx; simp only [Nat.xor_assoc, xorL_assoc]
theorem vx_self {u : Vec} {m : Nat} (h : u.2.length = m) : vx u u = vz m := by unfold vx vz; rw [Nat.xor_self, xorL_self, h]
theorem vx_zero {u : Vec} {m : Nat} (h : u.2.length = m) : vx u (vz m) = u := by unfold vx vz; subst h; simp only [Nat.xor_zero, xorL_noughts]
theorem vx_len {u v : Vec} {m : Nat} (h : u.2.length = m) (h2 : v.2.length = m) : (vx u v).2.length = m := by unfold vx; rw [xorL_length _ _ (by omega)]; exact h
theorem vx_cancel {u v : Vec} {m : Nat} (h : u.2.length = m) (h2 : v.2.length = m) : vx (vx u v) v = u := by rw [vx_assoc, vx_self h2, vx_zero h]
theorem vx_bit (u v : Vec) (b : Nat) : (vx u v).1.testBit b = (u.1.testBit b ^^ v.1.testBit b) := Nat.testBit_xor _ _ _
theorem vz_bit (m b : Nat) : (vz m).1.testBit b = false := Nat.zero_testBit b

def sumV (m : Nat) : List Vec → Vec
  | [] => vz m
  | u :: M => vx u (sumV m M)
def Wf (m : Nat) (L : List Vec) : Prop := ∀ u ∈ L, u.2.length = m
theorem sumV_len {m : Nat} : ∀ {M : List Vec}, Wf m M → (sumV m M).2.length = m
  | [], _ => noughts_len m
  | u :: _, h => vx_len (h u (List.mem_cons_self ..)) (sumV_len fun x hx => h x (List.mem_cons_of_mem _ hx))
theorem sumV_append {m : Nat} : ∀ {M N : List Vec}, Wf m N → sumV m (M ++ N) = vx (sumV m M) (sumV m N)
  | [], N, h => by show sumV m N = vx (vz m) (sumV m N); rw [vx_comm, vx_zero (sumV_len h)]
  | u :: M, N, h => by show vx u (sumV m (M ++ N)) = vx (vx u (sumV m M)) (sumV m N); rw [sumV_append h, vx_assoc]
def Sp (m : Nat) (L : List Vec) (v : Vec) : Prop := ∃ M, (∀ u ∈ M, u ∈ L) ∧ v = sumV m M
theorem Sp.zero (m : Nat) (L : List Vec) : Sp m L (vz m) := ⟨[], by simp, rfl⟩
theorem Sp.len {m : Nat} {L : List Vec} (hL : Wf m L) {v : Vec} (h : Sp m L v) : v.2.length = m := by
  obtain ⟨M, hM, rfl⟩ := h
  exact sumV_len fun u hu => hL u (hM u hu)
theorem Sp.over {m : Nat} {L : List Vec} (hL : Wf m L) {u v : Vec} (h : Sp m L u) (k : Sp m L v) : Sp m L (vx u v) := by
  obtain ⟨M, hM, rfl⟩ := h
  obtain ⟨N, hN, rfl⟩ := k
  refine ⟨M ++ N, fun x hx => ?_, (sumV_append fun x hx => hL x (hN x hx)).symm⟩
  rcases List.mem_append.1 hx with hx | hx
  · exact hM x hx
  · exact hN x hx
theorem Sp.mem {m : Nat} {L : List Vec} (hL : Wf m L) {u : Vec} (h : u ∈ L) : Sp m L u :=
  ⟨[u], by simpa using h, by show u = vx u (vz m); rw [vx_zero (hL u h)]⟩
theorem Sp.sub {m : Nat} {L L' : List Vec} (hL' : Wf m L') (h : ∀ u ∈ L, Sp m L' u) {v : Vec} (hv : Sp m L v) : Sp m L' v := by
  obtain ⟨M, hM, rfl⟩ := hv
  induction M with
  | nil => exact Sp.zero m L'
  | cons u M ih => exact Sp.over hL' (h u (hM u (List.mem_cons_self ..))) (ih fun x hx => hM x (List.mem_cons_of_mem _ hx))
theorem Sp.mono {m : Nat} {L L' : List Vec} (h : ∀ u ∈ L, u ∈ L') {v : Vec} (hv : Sp m L v) : Sp m L' v := by
  obtain ⟨M, hM, rfl⟩ := hv
  exact ⟨M, fun u hu => h u (hM u hu), rfl⟩

def Low (n b : Nat) : Prop := n.testBit b = true ∧ ∀ j, j < b → n.testBit j = false
theorem Low.uniq {n b c : Nat} (h : Low n b) (k : Low n c) : b = c := by
  rcases Nat.lt_trichotomy b c with h1 | h1 | h1
  · have := k.2 b h1; rw [h.1] at this; cases this
  · exact h1
  · have := h.2 c h1; rw [k.1] at this; cases this
theorem first_or_none (P : Nat → Prop) : ∀ n, (∀ j, j < n → ¬ P j) ∨ ∃ b, b < n ∧ P b ∧ ∀ j, j < b → ¬ P j
  | 0 => .inl fun j hj => absurd hj (Nat.not_lt_zero _)
  | n + 1 => by
    rcases first_or_none P n with h | ⟨b, hb, hp, hl⟩
    · by_cases hn : P n
      · exact .inr ⟨n, by omega, hn, h⟩
      · exact .inl fun j hj => by
          by_cases e : j = n
          · subst e; exact hn
          · exact h j (by omega)
    · exact .inr ⟨b, by omega, hp, hl⟩
theorem low_ex {n k : Nat} (h : n ≠ 0) (hk : n < 2 ^ k) : ∃ b, b < k ∧ Low n b := by
  rcases first_or_none (fun j => n.testBit j = true) k with h1 | ⟨b, hb, hp, hl⟩
  · exfalso; apply h
    apply Nat.eq_of_testBit_eq
    intro i
    rw [Nat.zero_testBit]
    by_cases hi : i < k
    · simpa using h1 i hi
    · exact Nat.testBit_lt_two_pow (Nat.lt_of_lt_of_le hk (Nat.pow_le_pow_right (by omega) (by omega)))
  · exact ⟨b, hb, hp, fun j hj => by simpa using hl j hj⟩

structure TI (m k : Nat) (T : Nat → Option Vec) : Prop where
  lt : ∀ b x, T b = some x → b < k
  low : ∀ b x, T b = some x → Low x.1 b
  bits : ∀ b x, T b = some x → x.1 < 2 ^ k
  len : ∀ b x, T b = some x → x.2.length = m
def rowsT (T : Nat → Option Vec) (k : Nat) : List Vec := (List.range k).filterMap T
theorem mem_rowsT {T : Nat → Option Vec} {k : Nat} {u : Vec} : u ∈ rowsT T k ↔ ∃ b, b < k ∧ T b = some u := by
  unfold rowsT; rw [List.mem_filterMap]; simp
theorem TI.wf {m k : Nat} {T : Nat → Option Vec} (h : TI m k T) : Wf m (rowsT T k) := fun u hu => by
  obtain ⟨b, _, hb⟩ := mem_rowsT.1 hu
  exact h.len b u hb
def comb (m : Nat) (T : Nat → Option Vec) (c : Nat → Bool) : Nat → Vec
  | 0 => vz m
  | b + 1 => match c b, T b with
    | true, some x => vx (comb m T c b) x
    | _, _ => comb m T c b
theorem comb_take {m : Nat} {T : Nat → Option Vec} {c : Nat → Bool} {b : Nat} {x : Vec} (h : c b = true) (h2 : T b = some x) : comb m T c (b + 1) = vx (comb m T c b) x := by rw [comb, h, h2]
theorem comb_no {m : Nat} {T : Nat → Option Vec} {c : Nat → Bool} {b : Nat} (h : c b = false) : comb m T c (b + 1) = comb m T c b := by rw [comb, h]
theorem comb_none {m : Nat} {T : Nat → Option Vec} {c : Nat → Bool} {b : Nat} (h : T b = none) : comb m T c (b + 1) = comb m T c b := by rw [comb, h]; cases c b <;> rfl
theorem comb_len {m k : Nat} {T : Nat → Option Vec} (hT : TI m k T) (c : Nat → Bool) : ∀ n, (comb m T c n).2.length = m
  | 0 => noughts_len m
  | n + 1 => by
    cases hc : c n with
    | false => rw [comb_no hc]; exact comb_len hT c n
    | true =>
      cases ht : T n with
      | none => rw [comb_none ht]; exact comb_len hT c n
      | some x => rw [comb_take hc ht]; exact vx_len (comb_len hT c n) (hT.len n x ht)
theorem comb_zero {m : Nat} {T : Nat → Option Vec} {c : Nat → Bool} : ∀ n, (∀ j, j < n → ¬ (c j = true ∧ T j ≠ none)) → comb m T c n = vz m
  | 0, _ => rfl
  | n + 1, h => by
    have ih := comb_zero (m := m) n (fun j hj => h j (by omega))
    cases hc : c n with
    | false => rw [comb_no hc]; exact ih
    | true =>
      cases ht : T n with
      | none => rw [comb_none ht]; exact ih
      | some x => exact absurd ⟨hc, by rw [ht]; simp⟩ (h n (by omega))
theorem comb_low {m k : Nat} {T : Nat → Option Vec} (hT : TI m k T) {c : Nat → Bool} {b : Nat} {x : Vec} (hc : c b = true) (hx : T b = some x) (hl : ∀ j, j < b → ¬ (c j = true ∧ T j ≠ none)) : ∀ n, b < n → Low (comb m T c n).1 b
  | 0, h => by omega
  | n + 1, h => by
    have lx := hT.low b x hx
    by_cases e : b = n
    · subst e
      rw [comb_take hc hx, comb_zero _ hl]
      exact ⟨by rw [vx_bit, vz_bit, lx.1]; rfl, fun j hj => by rw [vx_bit, vz_bit, lx.2 j hj]; rfl⟩
    · have ih := comb_low hT hc hx hl n (by omega)
      cases hcn : c n with
      | false => rw [comb_no hcn]; exact ih
      | true =>
        cases ht : T n with
        | none => rw [comb_none ht]; exact ih
        | some y =>
          have ly := hT.low n y ht
          rw [comb_take hcn ht]
          exact ⟨by rw [vx_bit, ih.1, ly.2 b (by omega)]; rfl, fun j hj => by rw [vx_bit, ih.2 j hj, ly.2 j (by omega)]; rfl⟩
theorem comb_congr {m : Nat} {T : Nat → Option Vec} {c d : Nat → Bool} : ∀ n, (∀ j, j < n → c j = d j) → comb m T c n = comb m T d n
  | 0, _ => rfl
  | n + 1, h => by
    have ih := comb_congr (m := m) (T := T) n (fun j hj => h j (by omega))
    have hn := h n (by omega)
    rw [comb, comb, ih, hn]
theorem comb_flip {m k : Nat} {T : Nat → Option Vec} (hT : TI m k T) {c : Nat → Bool} {b : Nat} {x : Vec} (hx : T b = some x) : ∀ n, b < n → comb m T (fun j => if j = b then !c b else c j) n = vx x (comb m T c n)
  | 0, h => by omega
  | n + 1, h => by
    have hxl := hT.len b x hx
    by_cases e : b = n
    · subst e
      have e1 : ∀ v : Bool, comb m T (fun j => if j = b then v else c j) b = comb m T c b := fun v => comb_congr b fun j hj => if_neg (by omega)
      have hl := comb_len hT c b
      cases hc : c b with
      | false =>
        rw [comb_take (x := x) (by simp) hx, comb_no hc, e1, vx_comm]
      | true =>
        rw [comb_no (by simp), comb_take hc hx, e1, vx_comm x, vx_cancel hl hxl]
    · have ih := comb_flip hT (c := c) hx n (by omega)
      have hn : (fun j => if j = b then !c b else c j) n = c n := if_neg (fun h => e h.symm)
      cases hcn : c n with
      | false => rw [comb_no (hn.trans hcn), comb_no hcn]; exact ih
      | true =>
        cases ht : T n with
        | none => rw [comb_none ht, comb_none ht]; exact ih
        | some y => rw [comb_take (hn.trans hcn) ht, comb_take hcn ht, ih, vx_assoc]
theorem sp_comb {m k : Nat} {T : Nat → Option Vec} (hT : TI m k T) {u : Vec} (h : Sp m (rowsT T k) u) : ∃ c, u = comb m T c k := by
  obtain ⟨M, hM, rfl⟩ := h
  induction M with
  | nil => exact ⟨fun _ => false, (comb_zero k (by simp)).symm⟩
  | cons v M ih =>
    obtain ⟨c, hc⟩ := ih fun x hx => hM x (List.mem_cons_of_mem _ hx)
    obtain ⟨b, hb, hv⟩ := mem_rowsT.1 (hM v (List.mem_cons_self ..))
    refine ⟨fun j => if j = b then !c b else c j, ?_⟩
    show vx v (sumV m M) = _
    rw [hc]
    exact (comb_flip hT hv k hb).symm
theorem sp_none {m k : Nat} {T : Nat → Option Vec} (hT : TI m k T) {u : Vec} (h : Sp m (rowsT T k) u) (hb : ∀ b, T b ≠ none → u.1.testBit b = false) : u = vz m := by
  obtain ⟨c, rfl⟩ := sp_comb hT h
  rcases first_or_none (fun j => c j = true ∧ T j ≠ none) k with h1 | ⟨b, hbk, ⟨hc, ht⟩, hl⟩
  · exact comb_zero k h1
  · cases hx : T b with
    | none => exact absurd hx ht
    | some x =>
      have := (comb_low hT hc hx hl k hbk).1
      rw [hb b ht] at this; cases this
theorem sp_lead {m k : Nat} {T : Nat → Option Vec} (hT : TI m k T) {u : Vec} (h : Sp m (rowsT T k) u) (hu : u.1 ≠ 0) : ∃ b, T b ≠ none ∧ Low u.1 b := by
  obtain ⟨c, rfl⟩ := sp_comb hT h
  rcases first_or_none (fun j => c j = true ∧ T j ≠ none) k with h1 | ⟨b, hbk, ⟨hc, ht⟩, hl⟩
  · rw [comb_zero k h1] at hu; exact absurd rfl hu
  · cases hx : T b with
    | none => exact absurd hx ht
    | some x => exact ⟨b, ht, comb_low hT hc hx hl k hbk⟩

def leftTo (T : Nat → Option Vec) (v : Vec) : Nat → Vec
  | 0 => v
  | b + 1 => match (leftTo T v b).1.testBit b, T b with
    | true, some x => vx (leftTo T v b) x
    | _, _ => leftTo T v b
theorem leftTo_take {T : Nat → Option Vec} {v : Vec} {b : Nat} {x : Vec} (h : (leftTo T v b).1.testBit b = true) (h2 : T b = some x) : leftTo T v (b + 1) = vx (leftTo T v b) x := by rw [leftTo, h, h2]
theorem leftTo_no {T : Nat → Option Vec} {v : Vec} {b : Nat} (h : (leftTo T v b).1.testBit b = false) : leftTo T v (b + 1) = leftTo T v b := by rw [leftTo, h]
theorem leftTo_none {T : Nat → Option Vec} {v : Vec} {b : Nat} (h : T b = none) : leftTo T v (b + 1) = leftTo T v b := by rw [leftTo, h]; cases (leftTo T v b).1.testBit b <;> rfl
theorem leftTo_bits {m k : Nat} {T : Nat → Option Vec} (hT : TI m k T) (v : Vec) : ∀ n b, b < n → T b ≠ none → (leftTo T v n).1.testBit b = false
  | 0, b, h, _ => by omega
  | n + 1, b, h, hb => by
    by_cases e : b = n
    · subst e
      cases ht : T b with
      | none => exact absurd ht hb
      | some x =>
        cases hc : (leftTo T v b).1.testBit b with
        | false => rw [leftTo_no hc]; exact hc
        | true => rw [leftTo_take hc ht, vx_bit, hc, (hT.low b x ht).1]; rfl
    · have ih := leftTo_bits hT v n b (by omega) hb
      cases hc : (leftTo T v n).1.testBit n with
      | false => rw [leftTo_no hc]; exact ih
      | true =>
        cases ht : T n with
        | none => rw [leftTo_none ht]; exact ih
        | some x => rw [leftTo_take hc ht, vx_bit, ih, (hT.low n x ht).2 b (by omega)]; rfl
theorem leftTo_sp {m k : Nat} {T : Nat → Option Vec} (hT : TI m k T) {v : Vec} (hv : v.2.length = m) : ∀ n, ∃ s, Sp m (rowsT T k) s ∧ leftTo T v n = vx v s
  | 0 => ⟨vz m, Sp.zero _ _, (vx_zero hv).symm⟩
  | n + 1 => by
    obtain ⟨s, hs, he⟩ := leftTo_sp hT hv n
    cases hc : (leftTo T v n).1.testBit n with
    | false => rw [leftTo_no hc]; exact ⟨s, hs, he⟩
    | true =>
      cases ht : T n with
      | none => rw [leftTo_none ht]; exact ⟨s, hs, he⟩
      | some x => exact ⟨vx s x, Sp.over hT.wf hs (Sp.mem hT.wf (mem_rowsT.2 ⟨n, hT.lt n x ht, ht⟩)), by rw [leftTo_take hc ht, he, vx_assoc]⟩
theorem leftTo_lt {m k : Nat} {T : Nat → Option Vec} (hT : TI m k T) {v : Vec} (hv : v.1 < 2 ^ k) : ∀ n, (leftTo T v n).1 < 2 ^ k
  | 0 => hv
  | n + 1 => by
    have ih := leftTo_lt hT hv n
    cases hc : (leftTo T v n).1.testBit n with
    | false => rw [leftTo_no hc]; exact ih
    | true =>
      cases ht : T n with
      | none => rw [leftTo_none ht]; exact ih
      | some x => rw [leftTo_take hc ht]; exact Nat.xor_lt_two_pow ih (hT.bits n x ht)
theorem leftTo_len {m k : Nat} {T : Nat → Option Vec} (hT : TI m k T) {v : Vec} (hv : v.2.length = m) (n : Nat) : (leftTo T v n).2.length = m := by
  obtain ⟨s, hs, he⟩ := leftTo_sp hT hv n
  rw [he]; exact vx_len hv (Sp.len hT.wf hs)
theorem left_iff {m k : Nat} {T : Nat → Option Vec} (hT : TI m k T) {v : Vec} (hv : v.2.length = m) : leftTo T v k = vz m ↔ Sp m (rowsT T k) v := by
  obtain ⟨s, hs, he⟩ := leftTo_sp hT hv k
  have hsl := Sp.len hT.wf hs
  constructor
  · intro h
    rw [he] at h
    have e : v = s := by
      have := vx_cancel hv hsl
      rw [h, vx_comm, vx_zero hsl] at this
      exact this.symm
    rw [e]; exact hs
  · intro h
    refine sp_none hT (by rw [he]; exact Sp.over hT.wf h hs) (fun b hb => ?_)
    by_cases hbk : b < k
    · exact leftTo_bits hT v k b hbk hb
    · cases hx : T b with
      | none => exact absurd hx hb
      | some x => exact absurd (hT.lt b x hx) hbk
def insT (T : Nat → Option Vec) (b : Nat) (r : Vec) : Nat → Option Vec := fun j => if j = b then some r else T j

structure St (m k : Nat) (T : Nat → Option Vec) (L : List Vec) : Prop where
  ti : TI m k T
  wf : Wf m L
  sp : ∀ u, Sp m (rowsT T k) u ↔ Sp m L u
theorem St.nil (m k : Nat) : St m k (fun _ => none) [] :=
  ⟨⟨fun _ _ h => (by cases h), fun _ _ h => (by cases h), fun _ _ h => (by cases h), fun _ _ h => (by cases h)⟩, fun _ h => (by simp at h), fun u => by
    have e : rowsT (fun _ => none) k = [] := by unfold rowsT; simp
    rw [e]⟩
theorem wf_snoc {m : Nat} {L : List Vec} {v : Vec} (h : Wf m L) (hv : v.2.length = m) : Wf m (L ++ [v]) := fun u hu => by
  rcases List.mem_append.1 hu with hu | hu
  · exact h u hu
  · rw [List.mem_singleton] at hu; subst hu; exact hv
theorem St.same {m k : Nat} {T : Nat → Option Vec} {L : List Vec} (h : St m k T L) {v : Vec} (hv : v.2.length = m) (hl : leftTo T v k = vz m) : St m k T (L ++ [v]) := by
  refine ⟨h.ti, wf_snoc h.wf hv, fun u => ?_⟩
  rw [h.sp]
  constructor
  · exact Sp.mono fun x hx => List.mem_append_left _ hx
  · refine Sp.sub h.wf fun x hx => ?_
    rcases List.mem_append.1 hx with hx | hx
    · exact Sp.mem h.wf hx
    · rw [List.mem_singleton] at hx; subst hx; rw [← h.sp]; exact (left_iff h.ti hv).1 hl
theorem left_low_none {m k : Nat} {T : Nat → Option Vec} (hT : TI m k T) {v : Vec} {b : Nat} (hb : b < k) (hl : Low (leftTo T v k).1 b) : T b = none := by
  cases hx : T b with
  | none => rfl
  | some x =>
    have := leftTo_bits hT v k b hb (by rw [hx]; simp)
    rw [hl.1] at this; cases this
theorem St.ins {m k : Nat} {T : Nat → Option Vec} {L : List Vec} (h : St m k T L) {v : Vec} (hv : v.2.length = m) (hk : v.1 < 2 ^ k) {b : Nat} (hb : b < k) (hl : Low (leftTo T v k).1 b) :
    St m k (insT T b (leftTo T v k)) (L ++ [v]) := by
  have hT := h.ti
  have hn := left_low_none hT hb hl
  have hlen := leftTo_len hT hv k
  obtain ⟨s, hs, he⟩ := leftTo_sp hT hv k
  have hTi : TI m k (insT T b (leftTo T v k)) := by
    refine ⟨fun j x hx => ?_, fun j x hx => ?_, fun j x hx => ?_, fun j x hx => ?_⟩ <;>
    · unfold insT at hx
      by_cases e : j = b
      · rw [if_pos e] at hx; cases hx; subst e
        first | exact hb | exact hl | exact leftTo_lt hT hk k | exact hlen
      · rw [if_neg e] at hx
        first | exact hT.lt j x hx | exact hT.low j x hx | exact hT.bits j x hx | exact hT.len j x hx
  have hwf := wf_snoc h.wf hv
  have hold : ∀ u, Sp m (rowsT T k) u → Sp m (rowsT (insT T b (leftTo T v k)) k) u := fun u hu => Sp.mono (fun x hx => by
    obtain ⟨j, hj, hjx⟩ := mem_rowsT.1 hx
    refine mem_rowsT.2 ⟨j, hj, ?_⟩
    unfold insT
    rw [if_neg (by rintro rfl; rw [hn] at hjx; cases hjx)]; exact hjx) hu
  refine ⟨hTi, hwf, fun u => ⟨Sp.sub hwf fun x hx => ?_, Sp.sub hTi.wf fun x hx => ?_⟩⟩
  · obtain ⟨j, hj, hjx⟩ := mem_rowsT.1 hx
    unfold insT at hjx
    by_cases e : j = b
    · rw [if_pos e] at hjx; cases hjx
      rw [he]
      exact Sp.over hwf (Sp.mem hwf (List.mem_append_right _ (List.mem_singleton.2 rfl))) (Sp.mono (fun y hy => List.mem_append_left _ hy) ((h.sp s).1 hs))
    · rw [if_neg e] at hjx
      exact Sp.mono (fun y hy => List.mem_append_left _ hy) ((h.sp x).1 (Sp.mem hT.wf (mem_rowsT.2 ⟨j, hj, hjx⟩)))
  · rcases List.mem_append.1 hx with hx | hx
    · exact hold x ((h.sp x).2 (Sp.mem h.wf hx))
    · rw [List.mem_singleton] at hx; subst hx
      have e : x = vx (leftTo T x k) s := by rw [he, vx_cancel hv (Sp.len hT.wf hs)]
      have h2 : Sp m (rowsT (insT T b (leftTo T x k)) k) (vx (leftTo T x k) s) := Sp.over hTi.wf (Sp.mem hTi.wf (mem_rowsT.2 ⟨b, hb, if_pos rfl⟩)) (hold s hs)
      rwa [← e] at h2
def NoClash (m : Nat) (L : List Vec) : Prop := ∀ u, Sp m L u → u.1 = 0 → u.2 = noughts m
theorem St.noClash {m k : Nat} {T : Nat → Option Vec} {L : List Vec} (h : St m k T L) : NoClash m L := fun u hu h0 => by
  have := sp_none h.ti ((h.sp u).2 hu) (fun b _ => by rw [h0]; exact Nat.zero_testBit b)
  rw [this]; rfl
theorem St.clash {m k : Nat} {T : Nat → Option Vec} {L : List Vec} (h : St m k T L) {v : Vec} (hv : v.2.length = m) (h0 : (leftTo T v k).1 = 0) (h1 : (leftTo T v k).2 ≠ noughts m) (M : List Vec) : ¬ NoClash m (L ++ [v] ++ M) := fun hn => by
  obtain ⟨s, hs, he⟩ := leftTo_sp h.ti hv k
  have hwf := wf_snoc h.wf hv
  have h2 : Sp m (L ++ [v]) (leftTo T v k) := by
    rw [he]
    exact Sp.over hwf (Sp.mem hwf (List.mem_append_right _ (List.mem_singleton.2 rfl))) (Sp.mono (fun y hy => List.mem_append_left _ hy) ((h.sp s).1 hs))
  exact h1 (hn _ (Sp.mono (fun y hy => List.mem_append_left _ hy) h2) h0)
def Lead (m : Nat) (L : List Vec) (b : Nat) : Prop := ∃ u, Sp m L u ∧ Low u.1 b
theorem St.lead {m k : Nat} {T : Nat → Option Vec} {L : List Vec} (h : St m k T L) (b : Nat) : T b ≠ none ↔ Lead m L b := by
  constructor
  · intro hb
    cases hx : T b with
    | none => exact absurd hx hb
    | some x => exact ⟨x, (h.sp x).1 (Sp.mem h.ti.wf (mem_rowsT.2 ⟨b, h.ti.lt b x hx, hx⟩)), h.ti.low b x hx⟩
  · rintro ⟨u, hu, hl⟩
    have hne : u.1 ≠ 0 := by intro e; rw [e] at hl; have := hl.1; rw [Nat.zero_testBit] at this; cases this
    obtain ⟨c, hc, hlc⟩ := sp_lead h.ti ((h.sp u).2 hu) hne
    rw [Low.uniq hl hlc]; exact hc
end Go.Proofs.YtheimfdbadjpoaaGreatDoor

namespace Go.Proofs.YtheimfdbadjpoaaGreatDoor

def lowA (n : Nat) : Nat → Nat → Nat
  | 0, b => b
  | f + 1, b => if n.testBit b = true then b else lowA n f (b + 1)
def lowI (n : Nat) : Nat := lowA n 64 0
theorem lowA_eq {n c : Nat} (h : Low n c) : ∀ f b, b ≤ c → c < b + f → lowA n f b = c
  | 0, b, h1, h2 => by omega
  | f + 1, b, h1, h2 => by
    unfold lowA
    by_cases e : b = c
    · subst e; rw [if_pos h.1]
    · rw [if_neg (by rw [h.2 b (by omega)]; simp)]
      exact lowA_eq h f (b + 1) (by omega) (by omega)
theorem lowI_low {n k : Nat} (h : n ≠ 0) (hk : n < 2 ^ k) (h64 : k ≤ 64) : Low n (lowI n) ∧ lowI n < k := by
  obtain ⟨b, hb, hl⟩ := low_ex h hk
  have e : lowI n = b := lowA_eq hl 64 0 (by omega) (by omega)
  rw [e]; exact ⟨hl, hb⟩
def addT (k : Nat) (T : Nat → Option Vec) (v : Vec) : Nat → Option Vec := if (leftTo T v k).1 = 0 then T else insT T (lowI (leftTo T v k).1) (leftTo T v k)
def rsT (k : Nat) (T : Nat → Option Vec) (v : Vec) : Bool := decide ((leftTo T v k).1 ≠ 0)
def rnkT (T : Nat → Option Vec) : Nat → Nat
  | 0 => 0
  | b + 1 => rnkT T b + (if (T b).isSome = true then 1 else 0)
theorem rnkT_le (T : Nat → Option Vec) : ∀ k, rnkT T k ≤ k
  | 0 => Nat.le_refl _
  | k + 1 => by have := rnkT_le T k; unfold rnkT; split <;> omega
theorem rnkT_congr {T U : Nat → Option Vec} : ∀ {k : Nat}, (∀ b, b < k → (T b).isSome = (U b).isSome) → rnkT T k = rnkT U k
  | 0, _ => rfl
  | k + 1, h => by unfold rnkT; rw [rnkT_congr fun b hb => h b (by omega), h k (by omega)]
theorem rnkT_full {T : Nat → Option Vec} : ∀ {k : Nat}, rnkT T k = k → ∀ b, b < k → (T b).isSome = true
  | 0, _, b, hb => by omega
  | k + 1, h, b, hb => by
    have hl := rnkT_le T k
    unfold rnkT at h
    split at h
    · rename_i hk
      by_cases e : b = k
      · subst e; exact hk
      · exact rnkT_full (k := k) (by omega) b (by omega)
    · omega
theorem rnkT_all {T : Nat → Option Vec} : ∀ {k : Nat}, (∀ b, b < k → (T b).isSome = true) → rnkT T k = k
  | 0, _ => rfl
  | k + 1, h => by unfold rnkT; rw [rnkT_all fun b hb => h b (by omega), if_pos (h k (by omega))]
theorem rnkT_none : ∀ k, rnkT (fun _ => none) k = 0
  | 0 => rfl
  | k + 1 => by unfold rnkT; rw [rnkT_none k]; rfl
theorem rnkT_ins {T : Nat → Option Vec} {b : Nat} {r : Vec} (hn : T b = none) : ∀ {k : Nat}, rnkT (insT T b r) k = rnkT T k + if b < k then 1 else 0
  | 0 => by rw [if_neg (by omega)]; rfl
  | k + 1 => by
    have ih := rnkT_ins (T := T) (b := b) (r := r) hn (k := k)
    unfold rnkT
    rw [ih]
    by_cases e : k = b
    · subst e
      have h1 : (insT T k r k).isSome = true := by unfold insT; rw [if_pos rfl]; rfl
      rw [if_neg (by omega), if_pos h1, if_neg (by rw [hn]; simp), if_pos (by omega)]
    · have h1 : (insT T b r k).isSome = (T k).isSome := by unfold insT; rw [if_neg e]
      rw [h1]
      by_cases hb : b < k
      · rw [if_pos hb, if_pos (show b < k + 1 by omega)]; omega
      · rw [if_neg hb, if_neg (show ¬ b < k + 1 by omega)]; omega
theorem St.addT {m k : Nat} {T : Nat → Option Vec} {L : List Vec} (h : St m k T L) (h64 : k ≤ 64) {v : Vec} (hv : v.2.length = m) (hk : v.1 < 2 ^ k) (hok : (leftTo T v k).1 = 0 → (leftTo T v k).2 = noughts m) : St m k (addT k T v) (L ++ [v]) := by
  unfold Go.Proofs.YtheimfdbadjpoaaGreatDoor.addT
  by_cases h0 : (leftTo T v k).1 = 0
  · rw [if_pos h0]
    exact h.same hv (Prod.ext h0 (hok h0))
  · rw [if_neg h0]
    obtain ⟨hl, hb⟩ := lowI_low h0 (leftTo_lt h.ti hk k) h64
    exact h.ins hv hk hb hl
theorem rnk_addT {m k : Nat} {T : Nat → Option Vec} {L : List Vec} (h : St m k T L) (h64 : k ≤ 64) {v : Vec} (hk : v.1 < 2 ^ k) : rnkT (addT k T v) k = rnkT T k + if rsT k T v = true then 1 else 0 := by
  unfold Go.Proofs.YtheimfdbadjpoaaGreatDoor.addT rsT
  by_cases h0 : (leftTo T v k).1 = 0
  · rw [if_pos h0, if_neg (by simp [h0])]; omega
  · rw [if_neg h0, if_pos (by simp [h0])]
    obtain ⟨hl, hb⟩ := lowI_low h0 (leftTo_lt h.ti hk k) h64
    rw [rnkT_ins (left_low_none h.ti hb hl), if_pos hb]
def tabT (k : Nat) (L : List Vec) : Nat → Option Vec := L.foldl (addT k) (fun _ => none)
theorem tabT_snoc (k : Nat) (L : List Vec) (v : Vec) : tabT k (L ++ [v]) = addT k (tabT k L) v := by unfold tabT; rw [List.foldl_append]; rfl
def Bare (k : Nat) (L : List Vec) : Prop := ∀ v ∈ L, v.2 = [] ∧ v.1 < 2 ^ k
theorem Bare.snoc {k : Nat} {L : List Vec} {v : Vec} (h : Bare k L) (h1 : v.2 = []) (h2 : v.1 < 2 ^ k) : Bare k (L ++ [v]) := fun u hu => by
  rcases List.mem_append.1 hu with hu | hu
  · exact h u hu
  · rw [List.mem_singleton.1 hu]; exact ⟨h1, h2⟩
theorem Bare.init {k : Nat} {L : List Vec} {v : Vec} (h : Bare k (L ++ [v])) : Bare k L ∧ v.2 = [] ∧ v.1 < 2 ^ k :=
  ⟨fun u hu => h u (List.mem_append_left _ hu), h v (List.mem_append_right _ (List.mem_singleton.2 rfl))⟩
theorem len_zero {l : List UInt8} (h : l.length = 0) : l = noughts 0 := by
  cases l with
  | nil => rfl
  | cons a l => simp at h
theorem st_tab {k : Nat} (h64 : k ≤ 64) : ∀ (n : Nat) (L : List Vec), L.length = n → Bare k L → St 0 k (tabT k L) L
  | 0, L, hn, _ => by rw [List.length_eq_zero_iff.1 hn]; exact St.nil 0 k
  | n + 1, L, hn, h => by
    obtain ⟨M, v, rfl⟩ : ∃ M v, L = M ++ [v] := by
      have hne : L ≠ [] := by rintro rfl; simp at hn
      exact ⟨L.dropLast, L.getLast hne, (List.dropLast_concat_getLast hne).symm⟩
    obtain ⟨h1, h2, h3⟩ := h.init
    have ih := st_tab h64 n M (by rw [List.length_append, List.length_singleton] at hn; omega) h1
    rw [tabT_snoc]
    exact ih.addT h64 (by rw [h2]; rfl) h3 (fun _ => len_zero (leftTo_len ih.ti (by rw [h2]; rfl) k))
theorem tab_st {k : Nat} (h64 : k ≤ 64) {L : List Vec} (h : Bare k L) : St 0 k (tabT k L) L := st_tab h64 _ L rfl h
def rk (k : Nat) (L : List Vec) : Nat := rnkT (tabT k L) k
def raises (k : Nat) (L : List Vec) (v : Vec) : Bool := rsT k (tabT k L) v
theorem rk_nil (k : Nat) : rk k [] = 0 := rnkT_none k
theorem rk_snoc {k : Nat} (h64 : k ≤ 64) {L : List Vec} {v : Vec} (h : Bare k L) (hk : v.1 < 2 ^ k) : rk k (L ++ [v]) = rk k L + if raises k L v = true then 1 else 0 := by
  unfold rk raises; rw [tabT_snoc]; exact rnk_addT (tab_st h64 h) h64 hk
theorem rk_le (k : Nat) (L : List Vec) : rk k L ≤ k := rnkT_le _ k
theorem rk_append {k : Nat} (h64 : k ≤ 64) {L : List Vec} : ∀ (n : Nat) (M : List Vec), M.length = n → Bare k (L ++ M) → rk k L ≤ rk k (L ++ M) ∧ rk k (L ++ M) ≤ rk k L + M.length
  | 0, M, hn, _ => by rw [List.length_eq_zero_iff.1 hn, List.append_nil]; exact ⟨Nat.le_refl _, Nat.le_add_right _ _⟩
  | n + 1, M, hn, h => by
    obtain ⟨N, v, rfl⟩ : ∃ N v, M = N ++ [v] := by
      have hne : M ≠ [] := by rintro rfl; simp at hn
      exact ⟨M.dropLast, M.getLast hne, (List.dropLast_concat_getLast hne).symm⟩
    rw [← List.append_assoc] at h ⊢
    obtain ⟨h1, h2, h3⟩ := h.init
    have ih := rk_append h64 n N (by rw [List.length_append, List.length_singleton] at hn; omega) h1
    rw [rk_snoc h64 h1 h3, List.length_append, List.length_singleton]
    split <;> omega
theorem rk_len {k : Nat} (h64 : k ≤ 64) {L : List Vec} (h : Bare k L) : rk k L ≤ L.length := by
  have := (rk_append h64 (L := []) _ L rfl (by simpa using h)).2
  rw [List.nil_append, rk_nil] at this; omega
theorem rk_sp {k : Nat} (h64 : k ≤ 64) {L M : List Vec} (hL : Bare k L) (hM : Bare k M) (h : ∀ b, Lead 0 L b ↔ Lead 0 M b) : rk k L = rk k M := by
  unfold rk
  refine rnkT_congr fun b hb => ?_
  have h1 := (tab_st h64 hL).lead b
  have h2 := (tab_st h64 hM).lead b
  have h3 := h b
  cases e1 : tabT k L b <;> cases e2 : tabT k M b <;> simp_all
def unit (b : Nat) : Vec := (2 ^ b, [])
theorem unit_low (b : Nat) : Low (unit b).1 b := ⟨Nat.testBit_two_pow_self, fun j hj => by
  show (2 ^ b).testBit j = false
  rw [Nat.testBit_two_pow]; simp; omega⟩
theorem unit_lt {b k : Nat} (h : b < k) : (unit b).1 < 2 ^ k := Nat.pow_lt_pow_right (by omega) h
theorem rk_units {k : Nat} (h64 : k ≤ 64) {L : List Vec} (hL : Bare k L) (h : ∀ b, b < k → Sp 0 L (unit b)) : rk k L = k := by
  unfold rk
  refine rnkT_all fun b hb => ?_
  have := ((tab_st h64 hL).lead b).2 ⟨unit b, h b hb, unit_low b⟩
  cases e : tabT k L b with
  | none => exact absurd e this
  | some x => rfl
theorem Bare.wf {k : Nat} {L : List Vec} (h : Bare k L) : Wf 0 L := fun u hu => by rw [(h u hu).1]; rfl
theorem raises_iff {k : Nat} (h64 : k ≤ 64) {L : List Vec} (hL : Bare k L) {v : Vec} (hv : v.2 = []) : raises k L v = false ↔ Sp 0 L v := by
  have hs := tab_st h64 hL
  have hv0 : v.2.length = 0 := by rw [hv]; rfl
  rw [← hs.sp v, ← left_iff hs.ti hv0]
  unfold raises rsT
  constructor
  · intro h
    have h0 : (leftTo (tabT k L) v k).1 = 0 := by simpa using h
    exact Prod.ext h0 (len_zero (leftTo_len hs.ti hv0 k))
  · intro h
    rw [h]; simp [vz]
end Go.Proofs.YtheimfdbadjpoaaGreatDoor

namespace Go.Proofs.YtheimfdbadjpoaaGreatDoor

theorem ofInt_nat (a : Nat) (ha : a < 9223372036854775808) : (BitVec.ofInt 64 (a : Int)).toNat = a := by
  rw [BitVec.ofInt_natCast, BitVec.toNat_ofNat]; exact Nat.mod_eq_of_lt (by omega)
theorem bits_and_nat (a b : Nat) (ha : a < 9223372036854775808) (hb : b < 9223372036854775808) : bits .and .i64 (a : Int) (b : Int) = ((a &&& b : Nat) : Int) := by
  have hx : a &&& b < 2 ^ 63 := Nat.and_lt_two_pow _ (by omega)
  show IntKind.i64.wrap ((BitVec.ofInt 64 (a : Int) &&& BitVec.ofInt 64 (b : Int)).toNat : Int) = _
  rw [BitVec.toNat_and, ofInt_nat a ha, ofInt_nat b hb]
  exact IntWalk.i64_in _ (by omega)
theorem bits_or_nat (a b : Nat) (ha : a < 9223372036854775808) (hb : b < 9223372036854775808) : bits .or .i64 (a : Int) (b : Int) = ((a ||| b : Nat) : Int) := by
  have hx : a ||| b < 2 ^ 63 := Nat.or_lt_two_pow (by omega) (by omega)
  show IntKind.i64.wrap ((BitVec.ofInt 64 (a : Int) ||| BitVec.ofInt 64 (b : Int)).toNat : Int) = _
  rw [BitVec.toNat_or, ofInt_nat a ha, ofInt_nat b hb]
  exact IntWalk.i64_in _ (by omega)
theorem bits_and_one (a : Nat) (ha : a < 9223372036854775808) : bits .and .i64 (a : Int) 1 = ((a % 2 : Nat) : Int) := by
  have := bits_and_nat a 1 ha (by omega)
  rw [Nat.and_one_is_mod] at this
  exact this
end Go.Proofs.YtheimfdbadjpoaaGreatDoor

namespace Go.Proofs.YtheimfdbadjpoaaGreatDoor
open Go.ChangeShapes Go.WideShapes Go.ChangeAt Go.RowKit Go.Maps

def rowV (x : Vec) : Value := .agg #[.int .u64 x.1, .string (S x.2)]
def rowElem : Value → Option (DataW Unit × List MemPlace)
  | .agg cs => match cs.toList with
    | [.int q n, .string s] => some (.agg [.lit (.int q n), .lit (.string s.data.toList)], [])
    | _ => none
  | _ => none
theorem rowElem_mk (q : IntKind) (n : Int) (s : ByteArray) : rowElem (.agg #[.int q n, .string s]) = some (.agg [.lit (.int q n), .lit (.string s.data.toList)], []) := rfl
theorem rowElem_inv {v : Value} {z : DataW Unit × List MemPlace} (h : rowElem v = some z) : ∃ q n s, v = .agg #[.int q n, .string s] ∧ z = (.agg [.lit (.int q n), .lit (.string s.data.toList)], []) := by
  unfold rowElem at h
  split at h
  · rename_i cs
    split at h
    · rename_i q n s he
      injection h with h
      exact ⟨q, n, s, by rw [← he], h.symm⟩
    · cases h
  · cases h
theorem rowCodec : Codec rowElem := ⟨fun u v d p q h1 h2 => by
  obtain ⟨q1, n1, s1, rfl, e1⟩ := rowElem_inv h1
  obtain ⟨q2, n2, s2, rfl, e2⟩ := rowElem_inv h2
  injection e1 with e1 _
  injection e2 with e2 _
  rw [e1] at e2
  injection e2 with e2
  injection e2 with e3 e4
  injection e4 with e4 _
  injection e3 with e3
  injection e3 with e5 e6
  injection e4 with e4
  injection e4 with e4
  subst e5
  subst e6
  have : s1 = s2 := by
    cases s1 with | mk d1 => cases s2 with | mk d2 => exact congrArg ByteArray.mk (Array.ext' e4)
  rw [this]⟩
def bitP (i : Nat) : Nat := 2 ^ i
theorem bitP_lt {i : Nat} (h : i < 63) : bitP i < 9223372036854775808 := Nat.pow_lt_pow_right (by omega) h
theorem bitP_succ (i : Nat) : bitP (i + 1) = 2 * bitP i := by unfold bitP; rw [Nat.pow_succ, Nat.mul_comm]
theorem bitP_pos (i : Nat) : 0 < bitP i := Nat.pow_pos (by omega)
theorem wf_pow (i : Nat) (h : i < 63) : (Lit.int .u64 (bitP i : Int)).wf = true := by
  have h2 := bitP_lt h
  simp [Lit.wf, IntKind.min, IntKind.max, IntKind.signed, IntKind.bits]
  omega

structure TabAt (w : World) (p b k : Nat) (T : Nat → Option Vec) : Prop where
  cell : w.cell? ⟨p, 0, none⟩ = some (.map (some b))
  free : w.frozen? ⟨p, 0, none⟩ = false
  ne : p ≠ b
  map : ∃ f, MapF Tryz.prog 91 .u64 rowElem b (rnkT T k) f w ∧ ∀ i, i < 63 → f (bitP i : Int) = (T i).map rowV
theorem TabAt.lt {w : World} {p b k : Nat} {T : Nat → Option Vec} (h : TabAt w p b k T) : p < w.heap.size ∧ b < w.heap.size := by
  obtain ⟨f, hm, _⟩ := h.map
  have := World.block_lt_of_cell? _ _ h.cell
  exact ⟨this, hm.lt⟩
theorem TabAt.fr {w w' : World} {Sf : Nat → Prop} {p b k : Nat} {T : Nat → Option Vec} (h : TabAt w p b k T) (hf : Fr Sf w w') (hp : ¬ Sf p) (hb : ¬ Sf b) : TabAt w' p b k T := by
  obtain ⟨f, hm, h2⟩ := h.map
  exact ⟨hf.cell_at h.cell hp, hf.free_at h.lt.1 h.free hp, h.ne, f, hm.fr hf hb, h2⟩
theorem TabAt.keep {w w' : World} {p b k : Nat} {T : Nat → Option Vec} (h : TabAt w p b k T) (hb : Lat w w') : TabAt w' p b k T := h.fr (Sf := fun _ => False) (Fr.lat hb) (fun e => e) (fun e => e)

theorem u_uint : Tryz.prog.underlying 91 = some (.int .u64) := by kernel_rfl
theorem u_map : Tryz.prog.underlying 180 = some (.map 91 163) := by kernel_rfl
theorem zero_row (w : World) : (zeroValue 163).run Tryz.prog w = .ok (.agg #[.int .u64 0, .string .empty]) w := by kernel_rfl

theorem TabAt.look_ok {w : World} {p b k : Nat} {T : Nat → Option Vec} (h : TabAt w p b k T) (i : Nat) (hi : i < 63) :
    (Instr.lookup 180 (.map (some b)) (.int .u64 (bitP i : Int)) true).run Tryz.prog w = .ok (.tuple #[((T i).map rowV).getD (.agg #[.int .u64 0, .string .empty]), .bool (T i).isSome]) w := by
  obtain ⟨f, hm, h2⟩ := h.map
  have := hm.look_ok rowCodec u_uint u_map (zero_row w) (rowElem_mk _ _ _) _ (wf_pow i hi)
  rw [h2 i hi] at this
  rw [this]
  cases T i <;> rfl
theorem TabAt.look {w : World} {p b k : Nat} {T : Nat → Option Vec} (h : TabAt w p b k T) (i : Nat) (hi : i < 63) :
    (Instr.lookup 180 (.map (some b)) (.int .u64 (bitP i : Int)) false).run Tryz.prog w = .ok (((T i).map rowV).getD (.agg #[.int .u64 0, .string .empty])) w := by
  obtain ⟨f, hm, h2⟩ := h.map
  have := hm.look rowCodec u_uint u_map (zero_row w) (rowElem_mk _ _ _) _ (wf_pow i hi)
  rw [h2 i hi] at this
  rw [this]
theorem TabAt.len {w : World} {p b k : Nat} {T : Nat → Option Vec} (h : TabAt w p b k T) (ty : TypeId) : (Builtin.len_ #[180] ty #[.map (some b)]).run Tryz.prog w = .ok (.int .i64 (rnkT T k)) w := by
  obtain ⟨f, hm, _⟩ := h.map
  exact hm.len u_map ty
theorem pow_inj {i j : Nat} (h : (bitP i : Int) = (bitP j : Int)) : i = j := by
  have h2 : bitP i = bitP j := by omega
  exact Nat.pow_right_inj (Nat.le_refl 2) |>.1 h2
theorem TabAt.store {w : World} {p b k : Nat} {T : Nat → Option Vec} (h : TabAt w p b k T) (hk : k ≤ 16) (i : Nat) (hi : i < k) (hn : T i = none) (x : Vec) :
    ∃ w', (Instr.mapUpdate 180 (.map (some b)) (.int .u64 (bitP i : Int)) (rowV x)).run Tryz.prog w = .ok () w' ∧ TabAt w' p b k (insT T i x) ∧ Fr (fun j => j = b) w w' := by
  obtain ⟨f, hm, h2⟩ := h.map
  have hr := rnkT_le T k
  obtain ⟨w', hrun, hm2, hf⟩ := hm.store u_uint u_map (by omega) _ (wf_pow i (by omega)) (val := rowV x) (rowElem_mk _ _ _)
  have hfi := h2 i (by omega)
  rw [hn] at hfi
  rw [hfi] at hm2
  have hrk : rnkT (insT T i x) k = rnkT T k + 1 := by rw [rnkT_ins hn, if_pos hi]
  refine ⟨w', hrun, ⟨hf.cell_at h.cell h.ne, hf.free_at h.lt.1 h.free h.ne, h.ne, _, by rw [hrk]; simpa using hm2, fun j hj => ?_⟩, hf⟩
  unfold updF insT
  by_cases e : j = i
  · subst e; rw [if_pos rfl, if_pos rfl]; rfl
  · rw [if_neg (fun h => e (pow_inj h)), if_neg e]; exact h2 j hj
end Go.Proofs.YtheimfdbadjpoaaGreatDoor

namespace Go.Proofs.YtheimfdbadjpoaaGreatDoor

def lowB (n : Nat) : Bool := Nat.beq (Nat.land n (18446744073709551616 - n)) (Nat.pow 2 (lowI n))
def lowAll : Nat → Nat → Bool
  | 0, _ => true
  | m + 1, s => lowB s && lowAll m (s + 1)
theorem lowAll_at : ∀ m s, lowAll m s = true → ∀ n, s ≤ n → n < s + m → lowB n = true
  | 0, s, _, n, h1, h2 => by omega
  | m + 1, s, h, n, h1, h2 => by
    unfold lowAll at h
    rw [Bool.and_eq_true] at h
    by_cases e : n = s
    · subst e; exact h.1
    · exact lowAll_at m (s + 1) h.2 n (by omega) (by omega)
theorem lowAll0 : lowAll 4095 1 = true := by decide +kernel
theorem lowAll1 : lowAll 4096 4096 = true := by decide +kernel
theorem lowAll2 : lowAll 4096 8192 = true := by decide +kernel
theorem lowAll3 : lowAll 4096 12288 = true := by decide +kernel
theorem lowAll4 : lowAll 4096 16384 = true := by decide +kernel
theorem lowAll5 : lowAll 4096 20480 = true := by decide +kernel
theorem lowAll6 : lowAll 4096 24576 = true := by decide +kernel
theorem lowAll7 : lowAll 4096 28672 = true := by decide +kernel
theorem lowAll8 : lowAll 4096 32768 = true := by decide +kernel
theorem lowAll9 : lowAll 4096 36864 = true := by decide +kernel
theorem lowAll10 : lowAll 4096 40960 = true := by decide +kernel
theorem lowAll11 : lowAll 4096 45056 = true := by decide +kernel
theorem lowAll12 : lowAll 4096 49152 = true := by decide +kernel
theorem lowAll13 : lowAll 4096 53248 = true := by decide +kernel
theorem lowAll14 : lowAll 4096 57344 = true := by decide +kernel
theorem lowAll15 : lowAll 4096 61440 = true := by decide +kernel
theorem low_and (n : Nat) (h0 : n ≠ 0) (hn : n < 65536) : n &&& (18446744073709551616 - n) = 2 ^ lowI n := by
  have key : lowB n = true := by
    by_cases c0 : n < 4096
    · exact lowAll_at _ _ lowAll0 n (by omega) (by omega)
    by_cases c1 : n < 8192
    · exact lowAll_at _ _ lowAll1 n (by omega) (by omega)
    by_cases c2 : n < 12288
    · exact lowAll_at _ _ lowAll2 n (by omega) (by omega)
    by_cases c3 : n < 16384
    · exact lowAll_at _ _ lowAll3 n (by omega) (by omega)
    by_cases c4 : n < 20480
    · exact lowAll_at _ _ lowAll4 n (by omega) (by omega)
    by_cases c5 : n < 24576
    · exact lowAll_at _ _ lowAll5 n (by omega) (by omega)
    by_cases c6 : n < 28672
    · exact lowAll_at _ _ lowAll6 n (by omega) (by omega)
    by_cases c7 : n < 32768
    · exact lowAll_at _ _ lowAll7 n (by omega) (by omega)
    by_cases c8 : n < 36864
    · exact lowAll_at _ _ lowAll8 n (by omega) (by omega)
    by_cases c9 : n < 40960
    · exact lowAll_at _ _ lowAll9 n (by omega) (by omega)
    by_cases c10 : n < 45056
    · exact lowAll_at _ _ lowAll10 n (by omega) (by omega)
    by_cases c11 : n < 49152
    · exact lowAll_at _ _ lowAll11 n (by omega) (by omega)
    by_cases c12 : n < 53248
    · exact lowAll_at _ _ lowAll12 n (by omega) (by omega)
    by_cases c13 : n < 57344
    · exact lowAll_at _ _ lowAll13 n (by omega) (by omega)
    by_cases c14 : n < 61440
    · exact lowAll_at _ _ lowAll14 n (by omega) (by omega)
    by_cases c15 : n < 65536
    · exact lowAll_at _ _ lowAll15 n (by omega) (by omega)
    omega
  exact Nat.eq_of_beq_eq_true key
end Go.Proofs.YtheimfdbadjpoaaGreatDoor

namespace Go.Proofs.YtheimfdbadjpoaaGreatDoor
open Go.ChangeShapes Go.WideShapes Go.ChangeAt Go.RowKit

def bitsTo (zs : List Int) : Nat → Nat
  | 0 => 0
  | j + 1 => bitsTo zs j ||| bitP (zs.getD j 0).toNat
def bitsN (zs : List Int) : Nat := bitsTo zs zs.length
theorem bitsTo_lt (zs : List Int) (k : Nat) (hz : ∀ z ∈ zs, 0 ≤ z ∧ z < k) : ∀ j, j ≤ zs.length → bitsTo zs j < 2 ^ k
  | 0, _ => Nat.pow_pos (by omega)
  | j + 1, hj => by
    have h := hz _ (getD_mem zs j (by omega))
    exact Nat.or_lt_two_pow (bitsTo_lt zs k hz j (by omega)) (Nat.pow_lt_pow_right (by omega) (by omega))

theorem bits_xor_u64_nat (a b : Nat) (ha : a < 9223372036854775808) (hb : b < 9223372036854775808) : bits .xor .u64 (a : Int) (b : Int) = ((a ^^^ b : Nat) : Int) := by
  have hx : a ^^^ b < 2 ^ 63 := Nat.xor_lt_two_pow (by omega) (by omega)
  show IntKind.u64.wrap ((BitVec.ofInt 64 (a : Int) ^^^ BitVec.ofInt 64 (b : Int)).toNat : Int) = _
  rw [BitVec.toNat_xor, ofInt_nat a ha, ofInt_nat b hb]
  exact IntWalk.u64_in _ (by omega)
theorem wrap_pow (z : Nat) (h : z < 63) : IntKind.u64.wrap ((2 : Int) ^ z) = (bitP z : Int) := by
  have h2 := bitP_lt h
  have h3 : (2 : Int) ^ z = (bitP z : Int) := by unfold bitP; exact (Int.natCast_pow 2 z).symm
  rw [h3]; exact IntWalk.u64_in _ (by omega)
theorem low_run (n : Nat) (h0 : n ≠ 0) (hn : n < 65536) : bits .and .u64 (n : Int) (IntKind.u64.wrap (-(n : Int))) = (bitP (lowI n) : Int) := by
  have h1 : IntKind.u64.wrap (-(n : Int)) = ((18446744073709551616 - n : Nat) : Int) := by rw [IntKind.wrap_u64]; omega
  rw [h1, bits_and_u64_nat _ _ (by omega) (by omega), low_and n h0 hn]; rfl
set_option maxRecDepth 100000 in
theorem bits_any (a : Option Addr) (n cap : Nat) (zs : List Int) (w : World) (h : IntsAt w a n cap zs) (hz : ∀ z ∈ zs, 0 ≤ z ∧ z < 16) :
    Calls Tryz.prog 106 #[.slice a n cap] w fun e w' => e = .returned (.int .u64 (bitsN zs)) ∧ w = w' := by
  have hcap2 := h.row.cap
  have hle2 := h.row.le
  unfold maxLen at hcap2
  have hlt := fun j hj => bitsTo_lt zs 16 hz j hj
  have hl := h.len
  rw [hl] at hlt
  have hfin : bitsN zs = bitsTo zs n := by unfold bitsN; rw [hl]
  have H := Lib.hid h; have HZ := Lib.hid hz; have HLT := Lib.hid hlt; have HFIN := Lib.hid hfin
  clear h hz hl hlt hfin
  go_enter Tryz.func106, Tryz.ntmps106
  go_wp2
  go_loop [3, 5, 8] (fun o _ i => ∃ k : Nat, k ≤ n ∧ i = .int .i64 k ∧ o = .int .u64 (bitsTo zs k)) (fun _ _ i => n - (intOf i).toNat)
  case atStart => exact ⟨0, Nat.zero_le _, rfl, rfl⟩
  case round =>
    obtain ⟨k, hk, rfl, rfl⟩ := hrel
    by_cases hlt : k < n
    · obtain ⟨b, o, rfl, hc⟩ := H.out.row.at_ (by omega)
      have c1 := hc k hlt
      have hm := HZ.out _ (getD_mem zs k (by rw [H.out.len]; exact hlt))
      obtain ⟨z, hzd⟩ : ∃ z : Nat, zs.getD k 0 = (z : Int) := ⟨(zs.getD k 0).toNat, by omega⟩
      rw [hzd] at c1 hm
      have hz16 : z < 16 := by omega
      have hst : bitsTo zs (k + 1) = bitsTo zs k ||| bitP z := by rw [bitsTo, hzd, Int.toNat_natCast]
      have hb1 : bitsTo zs k < 65536 := HLT.out k (by omega)
      obtain ⟨B, hB⟩ : ∃ B, B = bitsTo zs k := ⟨_, rfl⟩
      rw [← hB] at hst hb1 ⊢
      have HST := Lib.hid hst
      clear hc hzd hst hB hm
      have hw := wrap_pow z (by omega)
      have hbz : bitP z < 65536 := Nat.pow_lt_pow_right (by omega) hz16
      have ho := bits_or_u64_nat B (bitP z) (by omega) (by omega)
      have HW := Lib.hid hw; have HO := Lib.hid ho
      clear hw ho hbz
      go_wp2
      go_round
      case rel => exact ⟨k + 1, by omega, by go_num, by rw [HW.out, HO.out, HST.out]⟩
      case measure => simp [intOf]; omega
    · obtain rfl : k = n := by omega
      go_wp2
      go_ret
      exact ⟨by show Ending.returned (.int .u64 (bitsTo zs k : Int)) = _; rw [HFIN.out], rfl⟩
set_option maxRecDepth 100000 in
theorem low_any (n : Nat) (w : World) (h0 : n ≠ 0) (hn : n < 65536) :
    Calls Tryz.prog 144 #[.int .u64 n] w fun e w' => e = .returned (.int .u64 (bitP (lowI n))) ∧ w = w' := by
  have HR := Lib.hid (low_run n h0 hn)
  clear h0
  go_enter Tryz.func144, Tryz.ntmps144
  go_wp2
  go_ret
  exact ⟨by show Ending.returned (.int .u64 (bits .and .u64 (n : Int) (IntKind.u64.wrap (-(n : Int))))) = _; rw [HR.out], rfl⟩
set_option maxRecDepth 100000 in
theorem newTable_any (k : Nat) (w : World) :
    Calls Tryz.prog 74 #[] w fun e w' => (∃ p b, e = .returned (.pointer (some ⟨p, 0, none⟩)) ∧ w.heap.size ≤ p ∧ w.heap.size ≤ b ∧ TabAt w' p b k (fun _ => none)) ∧ Lat w w' := by
  have hmm := @run_makeMap Tryz.prog
  have hm0 := MapF.made w Tryz.prog 91 .u64 rowElem
  have ht : TabAt ((w.alloc (.map #[] 0)).alloc (.cells #[.map (some w.heap.size)] 182)) (w.heap.size + 1) w.heap.size k (fun _ => none) :=
    ⟨by rw [World.cell?_alloc_at _ _ _ _ (by simp)]; rfl, by
      have hh := heap_alloc_new (w.alloc (.map #[] 0)) (.cells #[.map (some w.heap.size)] 182)
      rw [World.size_alloc] at hh
      unfold World.frozen?
      rw [hh]; rfl, by omega, _, by rw [rnkT_none]; exact hm0.keep (Lat.alloc _ _), fun _ _ => rfl⟩
  have HT := Lib.hid ht
  clear ht hm0
  go_enter Tryz.func74, Tryz.ntmps74
  go_wp2
  go_ret
  exact ⟨⟨_, _, rfl, Nat.le_succ _, Nat.le_refl _, HT.out⟩, Lat.trans (Lat.alloc _ _) (Lat.alloc _ _)⟩
set_option maxRecDepth 100000 in
theorem rank_tab (p b k : Nat) (T : Nat → Option Vec) (w : World) (h : TabAt w p b k T) :
    Calls Tryz.prog 107 #[.pointer (some ⟨p, 0, none⟩)] w fun e w' => e = .returned (.int .i64 (rnkT T k)) ∧ w = w' := by
  have hc := h.cell
  have hlen := fun ty => h.len ty
  obtain ⟨r, hr⟩ : ∃ r, r = rnkT T k := ⟨_, rfl⟩
  rw [← hr] at hlen ⊢
  clear h hr
  go_enter Tryz.func107, Tryz.ntmps107
  go_wp2
  go_ret
  exact ⟨rfl, rfl⟩
end Go.Proofs.YtheimfdbadjpoaaGreatDoor

namespace Go.Proofs.YtheimfdbadjpoaaGreatDoor

section
variable {P : Program} {md : Region.Mode} {ops : Array Oper} {Q : Exit → Act → World → Prop} {F G : World → Prop} {g : Nat}

theorem wait_not {i d j : Nat} {l : Array Bool} (hw : waitsB md ops d i = true) (h0 : l.getD i true = false) (hj : j ∈ Region.ready md ops l) : j ≠ d := by
  rintro rfl
  obtain ⟨_, oj, hoj, hall⟩ := mem_ready.1 hj
  unfold waitsB at hw
  rw [hoj] at hw
  obtain ⟨e, he, hb⟩ := Array.any_eq_true'.1 hw
  simp only [Bool.and_eq_true, beq_iff_eq] at hb
  have h3 := hall e he hb.1
  rw [hb.2] at h3
  rcases Nat.lt_or_ge i l.size with h' | h'
  · simp [h'] at h0 h3; rw [h0] at h3; cases h3
  · simp [Array.getElem?_eq_none h'] at h3

def chainB (md : Region.Mode) (ops : Array Oper) (g : Nat) : Nat → List Nat → Bool
  | i, [] => waitsB md ops g i
  | i, d :: ds => waitsB md ops d i && chainB md ops g d ds
theorem chain_not {l : Array Bool} {j : Nat} (hj : j ∈ Region.ready md ops l) (hg : l.getD g true = false) : ∀ (ds : List Nat) (i : Nat), chainB md ops g i ds = true → l.getD i true = false → (∀ d ∈ ds, l.getD d true = false) → j ≠ g ∧ ∀ d ∈ ds, j ≠ d
  | [], i, hc, hi, _ => ⟨wait_not hc hi hj, fun d hd => by cases hd⟩
  | d :: ds, i, hc, hi, hd => by
    unfold chainB at hc
    rw [Bool.and_eq_true] at hc
    obtain ⟨h1, h2⟩ := chain_not hj hg ds d hc.2 (hd d (List.mem_cons_self ..)) (fun e he => hd e (List.mem_cons_of_mem _ he))
    refine ⟨h1, fun e he => ?_⟩
    rcases List.mem_cons.1 he with rfl | he
    · exact wait_not hc.1 hi hj
    · exact h2 e he
theorem gate_takeC {i : Nat} (ds : List Nat) {oi : Oper} {v : Value} {n : Nat} {listed : Array Bool} {a : Act} {w : World} (hi : ops[i]? = some oi)
    (hs : Region.noSelect ops = true) (hf : Region.free md ops listed i = true) (hr : (Region.ready md ops listed).contains i = true)
    (hQ : ∀ c a w, Q (.panic c) (a.put oi.dst v) w → Q (.panic c) a w) (hig : i ≠ g) (hw : chainB md ops g i ds = true) (hgl : (g :: ds).all (fun d => listed.getD d true == false) = true) (hS : FG F G g listed w) (hy : YieldsIf P ops (fun w => F w ∧ G w) oi v a)
    (h : wpGate P md ops Q (FG F G g) n (listed.setIfInBounds i true) (a.put oi.dst v) w) : wpGate P md ops Q (FG F G g) (n + 1) listed a w := by
  refine gate_first (S1 := fun w => F w ∧ G w) (I := fun l => ∀ d ∈ g :: ds, l.getD d true = false) hi (Region.noSelect_spec hs) hQ (FG.set hig) (fun l j w hji => FG.un hig l j w hji) (fun l j hl hir hjr hji => ?_) (fun l w hl h => ⟨h.1, h.2 (hl g (List.mem_cons_self ..))⟩) n listed a w (fun d hd => by have h3 := List.all_eq_true.1 hgl d hd; simpa using h3) (Region.free_spec hi hf) (by simpa using hr) hy hS h
  obtain ⟨h1, h2⟩ := chain_not hjr (hl g (List.mem_cons_self ..)) ds i hw (mem_ready.1 hir).1 (fun d hd => hl d (List.mem_cons_of_mem _ hd))
  intro d hd
  have hjd : j ≠ d := by
    rcases List.mem_cons.1 hd with rfl | hd
    · exact h1
    · exact h2 d hd
  rw [getD_set_ne true hjd]; exact hl d hd
end
end Go.Proofs.YtheimfdbadjpoaaGreatDoor

namespace Go.Proofs.YtheimfdbadjpoaaGreatDoor
open Go.ChangeShapes Go.WideShapes Go.ChangeAt Go.RowKit

theorem leftTo_end {T : Nat → Option Vec} {v : Vec} {i : Nat} (h : (leftTo T v i).1 < 2 ^ i) : ∀ j, i ≤ j → leftTo T v j = leftTo T v i
  | 0, hj => by obtain rfl : i = 0 := by omega
                rfl
  | j + 1, hj => by
    by_cases e : i = j + 1
    · subst e; rfl
    · have ih := leftTo_end h j (by omega)
      have hb : (leftTo T v j).1.testBit j = false := by
        rw [ih]
        exact Nat.testBit_lt_two_pow (Nat.lt_of_lt_of_le h (Nat.pow_le_pow_right (by omega) (by omega)))
      rw [leftTo_no hb, ih]

structure RowB (w : World) (g : Nat) (x : Vec) : Prop where
  c0 : w.cell? ⟨g, 0, none⟩ = some (.int .u64 x.1)
  c1 : w.cell? ⟨g, 1, none⟩ = some (.string (S x.2))
  f0 : w.frozen? ⟨g, 0, none⟩ = false
  f1 : w.frozen? ⟨g, 1, none⟩ = false
theorem RowB.lt {w : World} {g : Nat} {x : Vec} (h : RowB w g x) : g < w.heap.size := World.block_lt_of_cell? _ _ h.c0
theorem RowB.keep {w w' : World} {g : Nat} {x : Vec} (h : RowB w g x) (hb : Lat w w') : RowB w' g x :=
  ⟨hb.cell_at h.c0, hb.cell_at h.c1, hb.free_at h.lt h.f0, hb.free_at h.lt h.f1⟩

theorem and_bit (n i : Nat) : n &&& bitP i = if n.testBit i = true then bitP i else 0 := by
  unfold bitP
  apply Nat.eq_of_testBit_eq
  intro j
  rw [Nat.testBit_and, Nat.testBit_two_pow]
  by_cases h : n.testBit i = true
  · rw [if_pos h, Nat.testBit_two_pow]
    by_cases e : i = j
    · subst e; simp [h]
    · simp [e]
  · rw [if_neg h, Nat.zero_testBit]
    by_cases e : i = j
    · subst e; simp at h; simp [h]
    · simp [e]
theorem two_setR {w : World} {g : Nat} {a b : Value} (c0 : w.cell? ⟨g, 0, none⟩ = some a) (c1 : w.cell? ⟨g, 1, none⟩ = some b) (x y : Value) :
    ((w.setCell ⟨g, 0, none⟩ x).setCell ⟨g, 1, none⟩ y).cell? ⟨g, 0, none⟩ = some x ∧ ((w.setCell ⟨g, 0, none⟩ x).setCell ⟨g, 1, none⟩ y).cell? ⟨g, 1, none⟩ = some y := by
  refine ⟨?_, ?_⟩
  · rw [World.cell?_setCell_other _ _ _ _ (by intro e; injection e with _ e2 _; cases e2)]
    exact World.cell?_setCell_same _ _ _ c0
  · exact World.cell?_setCell_same _ _ _ (by rw [World.cell?_setCell_other _ _ _ _ (by intro e; injection e with _ e2 _; cases e2)]; exact c1)
theorem row_put {w : World} {g : Nat} {x : Vec} (h : RowB w g x) (a : Nat) (l : List UInt8) : RowB ((w.setCell ⟨g, 0, none⟩ (.int .u64 a)).setCell ⟨g, 1, none⟩ (.string (S l))) g (a, l) := by
  obtain ⟨q0, q1⟩ := two_setR h.c0 h.c1 (.int .u64 a) (.string (S l))
  exact ⟨q0, q1, by rw [World.frozen?_setCell, World.frozen?_setCell]; exact h.f0, by rw [World.frozen?_setCell, World.frozen?_setCell]; exact h.f1⟩
theorem RowB.other {w : World} {g h : Nat} {x : Vec} (hb : RowB w g x) (hne : g ≠ h) (o : Nat) (v : Value) : RowB (w.setCell ⟨h, o, none⟩ v) g x :=
  ⟨by rw [World.cell?_setCell_other _ _ _ _ (by intro e; injection e with e1 _ _; exact hne e1.symm)]; exact hb.c0, by rw [World.cell?_setCell_other _ _ _ _ (by intro e; injection e with e1 _ _; exact hne e1.symm)]; exact hb.c1,
   by rw [World.frozen?_setCell]; exact hb.f0, by rw [World.frozen?_setCell]; exact hb.f1⟩
theorem row_new (w : World) (a : Nat) (l : List UInt8) : RowB (w.alloc (.cells #[.int .u64 a, .string (S l)] 163)) w.heap.size (a, l) := by
  have hh := heap_alloc_new w (.cells #[.int .u64 a, .string (S l)] 163)
  refine ⟨by rw [World.cell?_alloc_at _ _ _ _ rfl]; rfl, by rw [World.cell?_alloc_at _ _ _ _ rfl]; rfl, ?_, ?_⟩ <;>
  · unfold World.frozen?
    rw [hh]; rfl

set_option maxHeartbeats 2000000 in
set_option maxRecDepth 100000 in
theorem left_any (p b k m : Nat) (T : Nat → Option Vec) (v : Vec) (w : World) (h : TabAt w p b k T) (hk : k ≤ 16) (hT : TI m k T) (hv : v.1 < 2 ^ k) (hm : v.2.length = m) (hm8 : m ≤ 8) :
    Calls Tryz.prog 143 #[.pointer (some ⟨p, 0, none⟩), rowV v] w fun e w' => e = .returned (rowV (leftTo T v k)) ∧ Lat w w' := by
  have hlt := leftTo_lt hT hv
  have hln := leftTo_len hT hm
  have hk64 : (2 : Nat) ^ k ≤ 65536 := Nat.pow_le_pow_right (by omega) hk
  have H := Lib.hid h; have HLT := Lib.hid hlt; have HLN := Lib.hid hln; have HT := Lib.hid hT
  clear h hlt hln hT
  obtain ⟨v1, v2⟩ := v
  show Calls _ _ #[_, .agg #[.int .u64 v1, .string (S v2)]] _ _
  go_enter Tryz.func143, Tryz.ntmps143
  go_wp2
  have hb0 : Lat w ((w.alloc (.cells #[.int .u64 v1, .string (S v2)] 163)).alloc (.cells #[.int .u64 0, .string { data := #[] }] 163)) := Lat.trans (Lat.alloc _ _) (Lat.alloc _ _)
  have hr0 : RowB ((w.alloc (.cells #[.int .u64 v1, .string (S v2)] 163)).alloc (.cells #[.int .u64 0, .string { data := #[] }] 163)) w.heap.size (v1, v2) := (row_new w v1 v2).keep (Lat.alloc _ _)
  have hz0 : RowB ((w.alloc (.cells #[.int .u64 v1, .string (S v2)] 163)).alloc (.cells #[.int .u64 0, .string { data := #[] }] 163)) (w.heap.size + 1) (0, []) := by
    have h2 := row_new (w.alloc (.cells #[.int .u64 v1, .string (S v2)] 163)) 0 []
    rw [World.size_alloc] at h2
    exact h2
  have HB0 := Lib.hid hb0; have HR0 := Lib.hid hr0; have HZ0 := Lib.hid hz0
  clear hb0 hr0 hz0
  go_loopg [5, 6, 7] 20 (fun f bb _ _ wr => ∃ i : Nat, i ≤ k ∧ bb = .int .u64 (bitP i) ∧ Hid (f + i = 20 ∧ RowB wr w.heap.size (leftTo T (v1, v2) i) ∧ RowB wr (w.heap.size + 1) (0, []) ∧ Lat w wr))
  case atStart => exact ⟨0, Nat.zero_le _, rfl, rfl, HR0.out, HZ0.out, HB0.out⟩
  case round =>
    obtain ⟨i, hi, rfl, hrel⟩ := hrel
    obtain ⟨hgk, hrb, hzb, hlat⟩ := hrel.out
    have hul := HLT.out i
    have hum := HLN.out i
    obtain ⟨u1, u2, hu⟩ : ∃ a b, leftTo T (v1, v2) i = (a, b) := ⟨_, _, rfl⟩
    rw [hu] at hrb hul hum
    have c0 := hrb.c0
    have c1 := hrb.c1
    have hbi : bitP i ≤ 65536 := Nat.le_trans (Nat.pow_le_pow_right (by omega) hi) hk64
    have hu16 : u1 < 65536 := Nat.lt_of_lt_of_le hul hk64
    have HGK := Lib.hid hgk; have HRBX := Lib.hid hrb; have HZB := Lib.hid hzb; have HLAT := Lib.hid hlat; have HU := Lib.hid hu; have HUL := Lib.hid hum
    clear hrel hgk hrb hzb hlat hu hum
    by_cases hle : bitP i ≤ u1
    · have hik : i < k := by
        rcases Nat.lt_or_ge i k with h | h
        · exact h
        · obtain rfl : i = k := by omega
          have : u1 < bitP i := hul
          omega
      have d1 : decide (bitP i ≤ u1) = true := decide_eq_true hle
      have hsh : (bitP i : Int) * 2 = (bitP (i + 1) : Int) := by rw [bitP_succ]; omega
      have HSH := Lib.hid hsh
      have hand : bits .and .u64 (u1 : Int) (bitP i : Int) = ((u1 &&& bitP i : Nat) : Int) := bits_and_u64_nat _ _ (by omega) (by omega)
      have hand2 : u1 &&& bitP i = if u1.testBit i = true then bitP i else 0 := and_bit u1 i
      have hbp := bitP_pos i
      clear hsh
      by_cases htb : u1.testBit i = true
      · have hne : (bits .and .u64 (u1 : Int) (bitP i : Int) == 0) = false := by rw [hand, hand2, if_pos htb]; exact beq_eq_false_iff_ne.2 (by omega)
        have hlook := (H.out.keep HLAT.out).look_ok i (by omega)
        have ct := (H.out.keep HLAT.out).cell
        cases hTi : T i with
        | none =>
          have HST : Hid (leftTo T (v1, v2) (i + 1) = (u1, u2)) := by show _ = _; rw [leftTo_none hTi, HU.out]
          rw [hTi] at hlook
          have hlook2 : (Instr.lookup 180 (.map (some b)) (.int .u64 (bitP i : Int)) true).run Tryz.prog wr = .ok (.tuple #[.agg #[.int .u64 0, .string { data := #[] }], .bool false]) wr := hlook
          clear hlook hand hand2 htb hTi hbp hle hul
          go_wp2
          go_roundg (gk - 1)
          case measure => go_light; have := HGK.out; omega
          case rel => go_light; exact ⟨i + 1, by omega, by rw [HSH.out], by have := HGK.out; omega, by rw [HST.out]; exact HRBX.out.keep (Lat.alloc _ _), HZB.out.keep (Lat.alloc _ _), Lat.trans HLAT.out (Lat.alloc _ _)⟩
        | some x =>
          obtain ⟨x1, x2⟩ := x
          have HST : Hid (leftTo T (v1, v2) (i + 1) = (u1 ^^^ x1, xorL u2 x2)) := by show _ = _; rw [leftTo_take (by rw [HU.out]; exact htb) hTi, HU.out]; rfl
          rw [hTi] at hlook
          have hlook2 : (Instr.lookup 180 (.map (some b)) (.int .u64 (bitP i : Int)) true).run Tryz.prog wr = .ok (.tuple #[.agg #[.int .u64 x1, .string (S x2)], .bool true]) wr := hlook
          have hxl : x2.length = m := HT.out.len i (x1, x2) hTi
          have hxb : x1 < 2 ^ k := HT.out.bits i (x1, x2) hTi
          have HAB : Hid (u2.length = (S x2).size) := by show u2.length = x2.length; rw [HUL.out, hxl]
          have HXOR : Hid (bits .xor .u64 (u1 : Int) (x1 : Int) = ((u1 ^^^ x1 : Nat) : Int)) := bits_xor_u64_nat _ _ (by omega) (by omega)
          clear hlook hand hand2 htb hTi hbp hle hul hxl hxb
          go_upto_region 7 with fail
          obtain ⟨X, hX⟩ : ∃ X, X = wr.heap.size := ⟨_, rfl⟩
          obtain ⟨W0, hW0⟩ : ∃ W, W = wr.alloc (.cells #[.int .u64 x1, .string (S x2)] 163) := ⟨_, rfl⟩
          have hlw0 : Lat wr W0 := by rw [hW0]; exact Lat.alloc _ _
          have hXR : RowB W0 X (x1, x2) := by rw [hW0, hX]; exact row_new wr x1 x2
          have hne1 : X ≠ w.heap.size := by have := HLAT.out.size; have := HRBX.out.lt; omega
          have hR0 := HRBX.out.keep hlw0
          have HFX : Hid (W0.drew.cell? ⟨X, 0, none⟩ = some (.int .u64 x1) ∧ W0.drew.cell? ⟨X, 1, none⟩ = some (.string (S x2)) ∧ W0.drew.frozen? ⟨w.heap.size, 0, none⟩ = false ∧ W0.drew.frozen? ⟨w.heap.size, 1, none⟩ = false) := ⟨hXR.c0, hXR.c1, hR0.f0, hR0.f1⟩
          have HGX : Hid (W0.drew.cell? ⟨w.heap.size, 0, none⟩ = some (.int .u64 u1) ∧ W0.drew.cell? ⟨w.heap.size, 1, none⟩ = some (.string (S u2))) := ⟨hR0.c0, hR0.c1⟩
          have HLW0 := Lib.hid (Lat.trans HLAT.out hlw0); have HZW0 := Lib.hid (HZB.out.keep hlw0)
          rw [← hW0, ← hX]
          clear hW0 hX hlw0 hXR hR0 c0 c1 ct hlook2
          have hF : W0.drew.cell? ⟨X, 0, none⟩ = some (.int .u64 x1) ∧ W0.drew.cell? ⟨X, 1, none⟩ = some (.string (S x2)) ∧ W0.drew.frozen? ⟨w.heap.size, 0, none⟩ = false ∧ W0.drew.frozen? ⟨w.heap.size, 1, none⟩ = false := HFX.out
          have hG : W0.drew.cell? ⟨w.heap.size, 0, none⟩ = some (.int .u64 u1) ∧ W0.drew.cell? ⟨w.heap.size, 1, none⟩ = some (.string (S u2)) := HGX.out
          refine wp_region_gate (fun w' => w'.cell? ⟨X, 0, none⟩ = some (.int .u64 x1) ∧ w'.cell? ⟨X, 1, none⟩ = some (.string (S x2)) ∧ w'.frozen? ⟨w.heap.size, 0, none⟩ = false ∧ w'.frozen? ⟨w.heap.size, 1, none⟩ = false) (fun w' => w'.cell? ⟨w.heap.size, 0, none⟩ = some (.int .u64 u1) ∧ w'.cell? ⟨w.heap.size, 1, none⟩ = some (.string (S u2))) 11 (by kernel_rfl) ?_
          refine gate_takeF (i := 0) (v := ?_) rfl (by kernel_rfl) (by kernel_rfl) (by kernel_rfl) (fun _ _ _ h => h) (by decide) ⟨hF, fun _ => hG⟩ (Or.inl ⟨by rfl, ?_⟩) ?_
          rotate_left
          · intro wq hSw; obtain ⟨s0, s1, s2, s3⟩ := hSw; go_simp; rfl
          simp only [Act.put]
          refine gate_takeC (i := 1) [4, 10] (v := ?_) rfl (by kernel_rfl) (by kernel_rfl) (by kernel_rfl) (fun _ _ _ h => h) (by decide) (by kernel_rfl) (by kernel_rfl) ⟨hF, fun _ => hG⟩ (Or.inl ⟨by rfl, ?_⟩) ?_
          rotate_left
          · intro wq hSw; obtain ⟨⟨s0, s1, s2, s3⟩, s4, s5⟩ := hSw; go_simp; rfl
          simp only [Act.put]
          refine gate_takeF (i := 2) (v := ?_) rfl (by kernel_rfl) (by kernel_rfl) (by kernel_rfl) (fun _ _ _ h => h) (by decide) ⟨hF, fun _ => hG⟩ (Or.inl ⟨by rfl, ?_⟩) ?_
          rotate_left
          · intro wq hSw; obtain ⟨s0, s1, s2, s3⟩ := hSw; go_simp; rfl
          simp only [Act.put]
          refine gate_takeF (i := 3) (v := ?_) rfl (by kernel_rfl) (by kernel_rfl) (by kernel_rfl) (fun _ _ _ h => h) (by decide) ⟨hF, fun _ => hG⟩ (Or.inl ⟨by rfl, ?_⟩) ?_
          rotate_left
          · intro wq hSw; obtain ⟨s0, s1, s2, s3⟩ := hSw; go_simp; rfl
          simp only [Act.put]
          refine gate_takeF (i := 4) (v := ?_) rfl (by kernel_rfl) (by kernel_rfl) (by kernel_rfl) (fun _ _ _ h => h) (by decide) ⟨hF, fun _ => hG⟩ (Or.inl ⟨by rfl, ?_⟩) ?_
          rotate_left
          · intro wq hSw; obtain ⟨s0, s1, s2, s3⟩ := hSw; go_simp; rfl
          simp only [Act.put]
          refine gate_takeF (i := 5) (v := ?_) rfl (by kernel_rfl) (by kernel_rfl) (by kernel_rfl) (fun _ _ _ h => h) (by decide) ⟨hF, fun _ => hG⟩ (Or.inl ⟨by rfl, ?_⟩) ?_
          rotate_left
          · intro wq hSw; obtain ⟨s0, s1, s2, s3⟩ := hSw; go_simp; rfl
          simp only [Act.put]
          refine gate_takeC (i := 6) [9, 10] (v := ?_) rfl (by kernel_rfl) (by kernel_rfl) (by kernel_rfl) (fun _ _ _ h => h) (by decide) (by kernel_rfl) (by kernel_rfl) ⟨hF, fun _ => hG⟩ (Or.inl ⟨by rfl, ?_⟩) ?_
          rotate_left
          · intro wq hSw; obtain ⟨⟨s0, s1, s2, s3⟩, s4, s5⟩ := hSw; go_simp; rfl
          simp only [Act.put]
          refine gate_takeF (i := 7) (v := ?_) rfl (by kernel_rfl) (by kernel_rfl) (by kernel_rfl) (fun _ _ _ h => h) (by decide) ⟨hF, fun _ => hG⟩ (Or.inl ⟨by rfl, ?_⟩) ?_
          rotate_left
          · intro wq hSw; obtain ⟨s0, s1, s2, s3⟩ := hSw; go_simp; rfl
          simp only [Act.put]
          refine gate_takeF (i := 8) (v := ?_) rfl (by kernel_rfl) (by kernel_rfl) (by kernel_rfl) (fun _ _ _ h => h) (by decide) ⟨hF, fun _ => hG⟩ (Or.inl ⟨by rfl, ?_⟩) ?_
          rotate_left
          · intro wq hSw; obtain ⟨s0, s1, s2, s3⟩ := hSw; go_simp; rfl
          simp only [Act.put]
          refine gate_one (i := 9) (by kernel_rfl) rfl (fun K hK => ?_)
          go_simp
          refine (overS u2 (S x2) _ HAB.out (by rw [HUL.out]; unfold maxLen; omega)).mono ?_
          rintro y w2 ⟨rfl, hb2⟩
          have hF2 : w2.cell? ⟨X, 0, none⟩ = some (.int .u64 x1) ∧ w2.cell? ⟨X, 1, none⟩ = some (.string (S x2)) ∧ w2.frozen? ⟨w.heap.size, 0, none⟩ = false ∧ w2.frozen? ⟨w.heap.size, 1, none⟩ = false := ⟨hb2.cell_at hF.1, hb2.cell_at hF.2.1, hb2.free_at (World.block_lt_of_cell? _ _ hG.1) hF.2.2.1, hb2.free_at (World.block_lt_of_cell? _ _ hG.2) hF.2.2.2⟩
          have hG2 : w2.cell? ⟨w.heap.size, 0, none⟩ = some (.int .u64 u1) ∧ w2.cell? ⟨w.heap.size, 1, none⟩ = some (.string (S u2)) := ⟨hb2.cell_at hG.1, hb2.cell_at hG.2⟩
          refine hK _ _ ⟨hF2, fun _ => hG2⟩ ?_
          clear hK K hF hG
          obtain ⟨hF, hG⟩ := And.intro hF2 hG2
          clear hF2 hG2
          refine gate_takeF (i := 10) (v := ?_) rfl (by kernel_rfl) (by kernel_rfl) (by kernel_rfl) (fun _ _ _ h => h) (by decide) ⟨hF, fun _ => hG⟩ (Or.inl ⟨by rfl, ?_⟩) ?_
          rotate_left
          · intro wq hSw; obtain ⟨s0, s1, s2, s3⟩ := hSw; go_simp; rfl
          simp only [Act.put]
          refine gate_one (i := 11) (by kernel_rfl) rfl (fun K hK => ?_)
          obtain ⟨s0, s1, s2, s3⟩ := hF
          obtain ⟨s4, s5⟩ := hG
          have hlw2 : Lat w w2 := Lat.trans HLW0.out (Lat.trans (Lat.drew W0) hb2)
          have hRB := row_put (x := (u1, u2)) ⟨s4, s5, s2, s3⟩ (u1 ^^^ x1) (xorL u2 x2)
          have hZ2 := ((HZW0.out.keep (Lat.trans (Lat.drew W0) hb2)).other (show w.heap.size + 1 ≠ w.heap.size by omega) 0 (.int .u64 ((u1 ^^^ x1 : Nat) : Int))).other (show w.heap.size + 1 ≠ w.heap.size by omega) 1 (.string (S (xorL u2 x2)))
          have hlw3 : Lat w ((w2.setCell ⟨w.heap.size, 0, none⟩ (.int .u64 ((u1 ^^^ x1 : Nat) : Int))).setCell ⟨w.heap.size, 1, none⟩ (.string (S (xorL u2 x2)))) := (hlw2.setCell (p := ⟨w.heap.size, 0, none⟩) (Nat.le_refl _) _).setCell (p := ⟨w.heap.size, 1, none⟩) (Nat.le_refl _) _
          have HRB := Lib.hid hRB; have HZ2 := Lib.hid hZ2; have HLW3 := Lib.hid hlw3
          have hxr := HXOR.out
          clear hRB hZ2 hlw2 hlw3
          go_simp
          refine hK _ _ ?_ ?_
          · refine FG.past (by kernel_rfl) ⟨?_, ?_, ?_, ?_⟩
            · rw [World.cell?_setCell_other _ _ _ _ (by intro e; injection e with e1 _ _; omega), World.cell?_setCell_other _ _ _ _ (by intro e; injection e with e1 _ _; omega)]; exact s0
            · rw [World.cell?_setCell_other _ _ _ _ (by intro e; injection e with e1 _ _; omega), World.cell?_setCell_other _ _ _ _ (by intro e; injection e with e1 _ _; omega)]; exact s1
            · rw [World.frozen?_setCell, World.frozen?_setCell]; exact s2
            · rw [World.frozen?_setCell, World.frozen?_setCell]; exact s3
          clear hK K
          refine gate_done (by kernel_rfl) ?_ _
          clear s0 s1 s2 s3 s4 s5 hxr hb2
          go_wp2
          go_roundg (gk - 1)
          case measure => go_light; have := HGK.out; omega
          case rel => go_light; exact ⟨i + 1, by omega, by rw [HSH.out], by have := HGK.out; omega, by rw [HST.out]; exact HRB.out, HZ2.out, HLW3.out⟩
      · have hne : (bits .and .u64 (u1 : Int) (bitP i : Int) == 0) = true := by rw [hand, hand2, if_neg htb]; rfl
        have HST : Hid (leftTo T (v1, v2) (i + 1) = (u1, u2)) := by show _ = _; rw [leftTo_no (by rw [HU.out]; simpa using htb), HU.out]
        clear hand hand2 htb hbp hle hul
        go_wp2
        go_roundg (gk - 1)
        case measure => go_light; have := HGK.out; omega
        case rel => go_light; exact ⟨i + 1, by omega, by rw [HSH.out], by have := HGK.out; omega, by rw [HST.out]; exact HRBX.out, HZB.out, HLAT.out⟩
    · have d1 : decide (bitP i ≤ u1) = false := decide_eq_false hle
      have hend : leftTo T (v1, v2) k = (u1, u2) := by
        rw [leftTo_end (by rw [HU.out]; show u1 < bitP i; omega) k hi]; exact HU.out
      have HEND := Lib.hid hend
      have z0 := HZB.out.c0
      have z1 : wr.cell? ⟨w.heap.size + 1, 1, none⟩ = some (.string { data := #[] }) := HZB.out.c1
      have g0 := HZB.out.f0
      have g1 := HZB.out.f1
      have hfin : Lat w ((wr.setCell ⟨w.heap.size + 1, 0, none⟩ (.int .u64 u1)).setCell ⟨w.heap.size + 1, 1, none⟩ (.string (S u2))) := (HLAT.out.setCell (p := ⟨w.heap.size + 1, 0, none⟩) (Nat.le_succ _) _).setCell (p := ⟨w.heap.size + 1, 1, none⟩) (Nat.le_succ _) _
      have hq := two_setR z0 z1 (.int .u64 u1) (.string (S u2))
      obtain ⟨q0, q1⟩ := hq
      have HFIN := Lib.hid hfin; have Q0 := Lib.hid q0; have Q1 := Lib.hid q1
      clear hend hfin hle hul q0 q1
      go_wp2
      exact bodyPost_ret (v := .agg #[.int .u64 u1, .string (S u2)]) (by simp [results, Tryz.results143, go_sem, Q0.out, Q1.out]) rfl ⟨by rw [HEND.out]; rfl, HFIN.out⟩
end Go.Proofs.YtheimfdbadjpoaaGreatDoor

namespace Go.Proofs.YtheimfdbadjpoaaGreatDoor
open Go.ChangeShapes Go.WideShapes Go.ChangeAt Go.RowKit

def mayT (k : Nat) (T : Nat → Option Vec) (v : Vec) : Bool := !decide ((leftTo T v k).1 = 0 ∧ (leftTo T v k).2 ≠ noughts v.2.length)

set_option maxHeartbeats 2000000 in
set_option maxRecDepth 100000 in
theorem tadd_any (p b k m : Nat) (T : Nat → Option Vec) (v : Vec) (w : World) (h : TabAt w p b k T) (hk : k ≤ 16) (hT : TI m k T) (hv : v.1 < 2 ^ k) (hm : v.2.length = m) (hm8 : m ≤ 8) :
    Calls Tryz.prog 105 #[.pointer (some ⟨p, 0, none⟩), rowV v] w fun e w' => e = .returned (.tuple #[.bool (rsT k T v), .bool (mayT k T v)]) ∧ TabAt w' p b k (addT k T v) ∧ Fr (fun j => j = b) w w' := by
  have hcl := left_any p b k m T v
  have hlt := leftTo_lt hT hv k
  have hln := leftTo_len hT hm k
  have hk64 : (2 : Nat) ^ k ≤ 65536 := Nat.pow_le_pow_right (by omega) hk
  obtain ⟨u1, u2, hu⟩ : ∃ a b, leftTo T v k = (a, b) := ⟨_, _, rfl⟩
  have hrs : rsT k T v = decide (u1 ≠ 0) := by unfold rsT; rw [hu]
  have hmy : mayT k T v = !decide (u1 = 0 ∧ u2 ≠ noughts m) := by unfold mayT; rw [hu, hm]
  have hat : addT k T v = if u1 = 0 then T else insT T (lowI u1) (u1, u2) := by unfold addT; rw [hu]
  have hnl : u1 ≠ 0 → Low u1 (lowI u1) ∧ lowI u1 < k ∧ T (lowI u1) = none := fun h0 => by
    obtain ⟨h1, h2⟩ := lowI_low (n := u1) h0 (by rw [hu] at hlt; exact hlt) (show k ≤ 64 by omega)
    exact ⟨h1, h2, left_low_none hT (v := v) h2 (by rw [hu]; exact h1)⟩
  rw [hu] at hlt hln
  have hu16 : u1 < 65536 := Nat.lt_of_lt_of_le hlt hk64
  have hc2 := fun W (hW : TabAt W p b k T) => hcl W hW hk hT hv hm hm8
  rw [hu] at hc2
  rw [hrs, hmy, hat]
  have H := Lib.hid h; have HC := Lib.hid hc2; have HNL := Lib.hid hnl; have HLN : Hid (u2.length = m) := hln
  clear h hcl hc2 hnl hln hlt hu hrs hmy hat hT
  obtain ⟨v1, v2⟩ := v
  show Calls _ _ #[_, .agg #[.int .u64 v1, .string (S v2)]] _ _
  have hbx : Lat w (w.alloc (.cells #[.int .u64 v1, .string (S v2)] 163)) := Lat.alloc _ _
  have hr0 := row_new w v1 v2
  have hc3 : Calls Tryz.prog 143 #[.pointer (some ⟨p, 0, none⟩), .agg #[.int .u64 v1, .string (S v2)]] (w.alloc (.cells #[.int .u64 v1, .string (S v2)] 163)) fun e w' => e = .returned (.agg #[.int .u64 u1, .string (S u2)]) ∧ Lat (w.alloc (.cells #[.int .u64 v1, .string (S v2)] 163)) w' := HC.out _ (H.out.keep hbx)
  have HC3 := Lib.hid hc3; have HR0 := Lib.hid hr0; have HBX := Lib.hid hbx
  clear hc3 hr0 hbx
  go_enter Tryz.func105, Tryz.ntmps105
  go_wp2_with fail
  refine HC3.out.mono ?_
  rintro y w2 ⟨rfl, hb2⟩
  have hlw2 : Lat w w2 := Lat.trans HBX.out hb2
  have hrw2 := HR0.out.keep hb2
  have htab2 := H.out.keep hlw2
  have c0 := hrw2.c0
  have c1 := hrw2.c1
  have f0 := hrw2.f0
  have f1 := hrw2.f1
  obtain ⟨R, hR⟩ : ∃ R, R = w.heap.size := ⟨_, rfl⟩
  have hpR : p ≠ R := by have := H.out.lt.1; omega
  have hbR : b ≠ R := by have := H.out.lt.2; omega
  rw [← hR] at c0 c1 f0 f1 hrw2 ⊢
  have hput := row_put hrw2 u1 u2
  have htab3 := (htab2.fr (Fr.set (S := fun j => j = R) w2 ⟨R, 0, none⟩ (.int .u64 u1) rfl) hpR hbR).fr (Fr.set (S := fun j => j = R) _ ⟨R, 1, none⟩ (.string (S u2)) rfl) hpR hbR
  have hlw3 : Lat w ((w2.setCell ⟨R, 0, none⟩ (.int .u64 u1)).setCell ⟨R, 1, none⟩ (.string (S u2))) := (hlw2.setCell (p := ⟨R, 0, none⟩) (Nat.le_of_eq hR.symm) _).setCell (p := ⟨R, 1, none⟩) (Nat.le_of_eq hR.symm) _
  have HPUT := Lib.hid hput; have HTAB3 := Lib.hid htab3; have HLW3 := Lib.hid hlw3
  clear hput htab3 hlw3 htab2 hrw2 hlw2 hb2 hR
  by_cases h0 : u1 = 0
  · subst h0
    go_upto_region 2 with fail
    obtain ⟨W2, hW2⟩ : ∃ W, W = (w2.setCell ⟨R, 0, none⟩ (.int .u64 ((0 : Nat) : Int))).setCell ⟨R, 1, none⟩ (.string (S u2)) := ⟨_, rfl⟩
    have hput := HPUT.out
    have htab3 := HTAB3.out
    have hlw3 := HLW3.out
    rw [← hW2] at hput htab3 hlw3
    have hw2' : W2 = (w2.setCell ⟨R, 0, none⟩ (.int .u64 0)).setCell ⟨R, 1, none⟩ (.string (S u2)) := hW2
    rw [← hw2']
    have k0 : W2.cell? ⟨R, 0, none⟩ = some (.int .u64 0) := hput.c0
    have k1 := hput.c1
    have HT3 := Lib.hid htab3; have HL3 := Lib.hid hlw3
    clear hW2 hw2' hput htab3 hlw3 HPUT HTAB3 HLW3 c0 c1 f0 f1
    go_upto_region 3 with fail
    have hF : W2.drew.cell? ⟨R, 1, none⟩ = some (.string (S u2)) := k1
    refine wp_region_gate (fun w' => w'.cell? ⟨R, 1, none⟩ = some (.string (S u2))) (fun _ => True) 1000 (by kernel_rfl) ?_
    refine gate_takeF (i := 0) (v := ?_) rfl (by kernel_rfl) (by kernel_rfl) (by kernel_rfl) (fun _ _ _ h => h) (by decide) ⟨hF, fun _ => trivial⟩ (Or.inl ⟨by rfl, ?_⟩) ?_
    rotate_left
    · intro wq hSw; have s0 := hSw; go_simp; rfl
    simp only [Act.put]
    refine gate_takeF (i := 1) (v := ?_) rfl (by kernel_rfl) (by kernel_rfl) (by kernel_rfl) (fun _ _ _ h => h) (by decide) ⟨hF, fun _ => trivial⟩ (Or.inl ⟨by rfl, ?_⟩) ?_
    rotate_left
    · intro wq hSw; have s0 := hSw; go_simp; rfl
    simp only [Act.put]
    refine gate_takeF (i := 2) (v := ?_) rfl (by kernel_rfl) (by kernel_rfl) (by kernel_rfl) (fun _ _ _ h => h) (by decide) ⟨hF, fun _ => trivial⟩ (Or.inl ⟨by rfl, ?_⟩) ?_
    rotate_left
    · intro wq hSw; have s0 := hSw; go_simp; rfl
    simp only [Act.put]
    refine gate_takeF (i := 3) (v := ?_) rfl (by kernel_rfl) (by kernel_rfl) (by kernel_rfl) (fun _ _ _ h => h) (by decide) ⟨hF, fun _ => trivial⟩ (Or.inl ⟨by rfl, ?_⟩) ?_
    rotate_left
    · intro wq hSw; have s0 := hSw; go_simp; rfl
    simp only [Act.put]
    refine gate_takeF (i := 4) (v := ?_) rfl (by kernel_rfl) (by kernel_rfl) (by kernel_rfl) (fun _ _ _ h => h) (by decide) ⟨hF, fun _ => trivial⟩ (Or.inl ⟨by rfl, ?_⟩) ?_
    rotate_left
    · intro wq hSw; have s0 := hSw; go_simp; rfl
    simp only [Act.put]
    refine gate_one (i := 5) (by kernel_rfl) rfl (fun K hK => ?_)
    go_simp
    refine (noughts_any (S u2).size _ (by show u2.length ≤ _; rw [HLN.out]; omega)).mono ?_
    rintro y w4 ⟨rfl, hb4⟩
    have hF' : w4.cell? ⟨R, 1, none⟩ = some (.string (S u2)) := hb4.cell_at hF
    refine hK _ _ ⟨hF', fun _ => trivial⟩ ?_
    clear hK K hF
    have hF := hF'
    clear hF'
    refine gate_takeF (i := 6) (v := ?_) rfl (by kernel_rfl) (by kernel_rfl) (by kernel_rfl) (fun _ _ _ h => h) (by decide) ⟨hF, fun _ => trivial⟩ (Or.inl ⟨by rfl, ?_⟩) ?_
    rotate_left
    · intro wq hSw; have s0 := hSw; go_simp; rfl
    simp only [Act.put]
    refine gate_takeF (i := 7) (v := ?_) rfl (by kernel_rfl) (by kernel_rfl) (by kernel_rfl) (fun _ _ _ h => h) (by decide) ⟨hF, fun _ => trivial⟩ (Or.inl ⟨by rfl, ?_⟩) ?_
    rotate_left
    · intro wq hSw; have s0 := hSw; go_simp; rfl
    simp only [Act.put]
    refine gate_takeF (i := 8) (v := ?_) rfl (by kernel_rfl) (by kernel_rfl) (by kernel_rfl) (fun _ _ _ h => h) (by decide) ⟨hF, fun _ => trivial⟩ (Or.inl ⟨by rfl, ?_⟩) ?_
    rotate_left
    · intro wq hSw; have s0 := hSw; go_simp; rfl
    simp only [Act.put]
    refine gate_done (by kernel_rfl) ?_ _
    clear hF k0 k1
    have HL4 := Lib.hid (Lat.trans (Lat.drew W2) hb4)
    clear hb4
    go_wp2
    go_ret2
    refine ⟨?_, ?_, ?_⟩
    · have e1 : u2.length = m := HLN.out
      show Ending.returned (.tuple #[.bool false, .bool (u2 == noughts u2.length)]) = _
      rw [e1]
      by_cases hx : u2 = noughts m
      · rw [hx, beq_self_eq_true, decide_eq_true rfl]
      · rw [beq_eq_false_iff_ne.2 hx, decide_eq_false hx]
    · exact HT3.out.keep HL4.out
    · exact Fr.lat (Lat.trans HL3.out HL4.out)
  · have hn0 : ((u1 : Int) == 0) = false := beq_eq_false_iff_ne.2 (by omega)
    go_upto_region 2 with fail
    obtain ⟨W2, hW2⟩ : ∃ W, W = (w2.setCell ⟨R, 0, none⟩ (.int .u64 u1)).setCell ⟨R, 1, none⟩ (.string (S u2)) := ⟨_, rfl⟩
    have hput := HPUT.out
    have htab3 := HTAB3.out
    have hlw3 := HLW3.out
    rw [← hW2] at hput htab3 hlw3 ⊢
    have k0 := hput.c0
    have k1 := hput.c1
    have kp := htab3.cell
    obtain ⟨hlo, hlk, hTn⟩ := HNL.out h0
    obtain ⟨w5, hrun, htab5, hfr5⟩ := (htab3.keep (Lat.drew W2)).store hk (lowI u1) hlk hTn (u1, u2)
    have hrun2 : (Instr.mapUpdate 180 (.map (some b)) (.int .u64 (bitP (lowI u1) : Int)) (.agg #[.int .u64 u1, .string (S u2)])).run Tryz.prog W2.drew = .ok () w5 := hrun
    have HT5 := Lib.hid htab5; have HF5 := Lib.hid hfr5; have HL3 := Lib.hid hlw3; have HRUN := Lib.hid hrun2; have H0 := Lib.hid h0
    clear hW2 hput htab3 hlw3 HPUT HTAB3 HLW3 c0 c1 f0 f1 htab5 hfr5 hrun hrun2 hlo hTn h0
    go_upto_region 4 with fail
    have hF : W2.drew.cell? ⟨p, 0, none⟩ = some (.map (some b)) ∧ W2.drew.cell? ⟨R, 0, none⟩ = some (.int .u64 u1) ∧ W2.drew.cell? ⟨R, 1, none⟩ = some (.string (S u2)) := ⟨kp, k0, k1⟩
    refine wp_region_gate (fun w' => w'.cell? ⟨p, 0, none⟩ = some (.map (some b)) ∧ w'.cell? ⟨R, 0, none⟩ = some (.int .u64 u1) ∧ w'.cell? ⟨R, 1, none⟩ = some (.string (S u2))) (fun _ => True) 1000 (by kernel_rfl) ?_
    refine gate_takeF (i := 0) (v := ?_) rfl (by kernel_rfl) (by kernel_rfl) (by kernel_rfl) (fun _ _ _ h => h) (by decide) ⟨hF, fun _ => trivial⟩ (Or.inl ⟨by rfl, ?_⟩) ?_
    rotate_left
    · intro wq hSw; obtain ⟨s0, s1, s2⟩ := hSw; go_simp; rfl
    simp only [Act.put]
    refine gate_takeF (i := 1) (v := ?_) rfl (by kernel_rfl) (by kernel_rfl) (by kernel_rfl) (fun _ _ _ h => h) (by decide) ⟨hF, fun _ => trivial⟩ (Or.inl ⟨by rfl, ?_⟩) ?_
    rotate_left
    · intro wq hSw; obtain ⟨s0, s1, s2⟩ := hSw; go_simp; rfl
    simp only [Act.put]
    refine gate_takeF (i := 2) (v := ?_) rfl (by kernel_rfl) (by kernel_rfl) (by kernel_rfl) (fun _ _ _ h => h) (by decide) ⟨hF, fun _ => trivial⟩ (Or.inl ⟨by rfl, ?_⟩) ?_
    rotate_left
    · intro wq hSw; obtain ⟨s0, s1, s2⟩ := hSw; go_simp; rfl
    simp only [Act.put]
    refine gate_takeF (i := 3) (v := ?_) rfl (by kernel_rfl) (by kernel_rfl) (by kernel_rfl) (fun _ _ _ h => h) (by decide) ⟨hF, fun _ => trivial⟩ (Or.inl ⟨by rfl, ?_⟩) ?_
    rotate_left
    · intro wq hSw; obtain ⟨s0, s1, s2⟩ := hSw; go_simp; rfl
    simp only [Act.put]
    refine gate_takeF (i := 4) (v := ?_) rfl (by kernel_rfl) (by kernel_rfl) (by kernel_rfl) (fun _ _ _ h => h) (by decide) ⟨hF, fun _ => trivial⟩ (Or.inl ⟨by rfl, ?_⟩) ?_
    rotate_left
    · intro wq hSw; obtain ⟨s0, s1, s2⟩ := hSw; go_simp; rfl
    simp only [Act.put]
    refine gate_takeF (i := 5) (v := ?_) rfl (by kernel_rfl) (by kernel_rfl) (by kernel_rfl) (fun _ _ _ h => h) (by decide) ⟨hF, fun _ => trivial⟩ (Or.inl ⟨by rfl, ?_⟩) ?_
    rotate_left
    · intro wq hSw; obtain ⟨s0, s1, s2⟩ := hSw; go_simp; rfl
    simp only [Act.put]
    refine gate_takeF (i := 7) (v := ?_) rfl (by kernel_rfl) (by kernel_rfl) (by kernel_rfl) (fun _ _ _ h => h) (by decide) ⟨hF, fun _ => trivial⟩ (Or.inl ⟨by rfl, ?_⟩) ?_
    rotate_left
    · intro wq hSw; obtain ⟨s0, s1, s2⟩ := hSw; go_simp; rfl
    simp only [Act.put]
    refine gate_one (i := 6) (by kernel_rfl) rfl (fun K hK => ?_)
    go_simp
    refine (low_any u1 _ H0.out hu16).mono ?_
    rintro y w4 ⟨rfl, rfl⟩
    refine hK _ _ ⟨hF, fun _ => trivial⟩ ?_
    clear hK K
    refine gate_one (i := 8) (by kernel_rfl) rfl (fun K hK => ?_)
    have hrun := HRUN.out
    go_simp
    have hF' : w5.cell? ⟨p, 0, none⟩ = some (.map (some b)) ∧ w5.cell? ⟨R, 0, none⟩ = some (.int .u64 u1) ∧ w5.cell? ⟨R, 1, none⟩ = some (.string (S u2)) := ⟨HT5.out.cell, HF5.out.cell_at hF.2.1 (fun e => hbR e.symm), HF5.out.cell_at hF.2.2 (fun e => hbR e.symm)⟩
    refine hK _ _ ⟨hF', fun _ => trivial⟩ ?_
    clear hK K hF hF' hrun
    refine gate_done (by kernel_rfl) ?_ _
    clear k0 k1 kp
    go_wp2
    go_ret2
    refine ⟨?_, ?_, ?_⟩
    · rfl
    · exact HT5.out
    · exact (Fr.lat (Lat.trans HL3.out (Lat.drew W2))).trans HF5.out (fun _ _ e => e)
end Go.Proofs.YtheimfdbadjpoaaGreatDoor

namespace Go.Proofs.YtheimfdbadjpoaaGreatDoor
open Go.ChangeShapes Go.WideShapes Go.ChangeAt Go.RowKit

def bkR (r : Vec) (kn : Nat → List UInt8) (i : Nat) : Nat → List UInt8
  | 0 => r.2
  | q + 1 => if r.1.testBit (i + 1 + q) = true then xorL (bkR r kn i q) (kn (i + 1 + q)) else bkR r kn i q
def outF (T : Nat → Option Vec) (k : Nat) : Nat → Nat → List UInt8
  | 0 => fun _ => []
  | f + 1 => fun j => if j = k - 1 - f then bkR ((T (k - 1 - f)).getD (0, [])) (outF T k f) (k - 1 - f) f else outF T k f j
theorem outF_len {m k : Nat} {T : Nat → Option Vec} (hT : TI m k T) (hfull : ∀ b, b < k → T b ≠ none) : ∀ f, f ≤ k → ∀ j, k - f ≤ j → j < k → (outF T k f j).length = m
  | 0, _, j, h1, h2 => by omega
  | f + 1, hf, j, h1, h2 => by
    have ih := outF_len hT hfull f (by omega)
    show (if j = k - 1 - f then bkR ((T (k - 1 - f)).getD (0, [])) (outF T k f) (k - 1 - f) f else outF T k f j).length = m
    by_cases e : j = k - 1 - f
    · rw [if_pos e]
      obtain ⟨x, hx⟩ : ∃ x, T (k - 1 - f) = some x := by
        cases h : T (k - 1 - f) with
        | none => exact absurd h (hfull _ (by omega))
        | some x => exact ⟨x, rfl⟩
      rw [hx]
      have hxl := hT.len _ _ hx
      have : ∀ q, q ≤ f → (bkR ((some x).getD (0, [])) (outF T k f) (k - 1 - f) q).length = m := fun q => by
        induction q with
        | zero => intro _; exact hxl
        | succ q ihq =>
          intro hq
          unfold bkR
          split
          · rw [xorL_length _ _ (by rw [ihq (by omega), ih _ (by omega) (by omega)])]; exact ihq (by omega)
          · exact ihq (by omega)
      exact this f (Nat.le_refl _)
    · rw [if_neg e]; exact ih j (by omega) h2
theorem bkR_len {m k : Nat} {T : Nat → Option Vec} (hT : TI m k T) (hfull : ∀ b, b < k → T b ≠ none) {f : Nat} (hf : f < k) {x : Vec} (hx : T (k - 1 - f) = some x) : ∀ q, q ≤ f → (bkR x (outF T k f) (k - 1 - f) q).length = m
  | 0, _ => hT.len _ _ hx
  | q + 1, hq => by
    have ih := bkR_len hT hfull hf hx q (by omega)
    unfold bkR
    split
    · rw [xorL_length _ _ (by rw [ih, outF_len hT hfull f (by omega) _ (by omega) (by omega)])]; exact ih
    · exact ih
theorem shr_bit (n j : Nat) (hn : n < 65536) : bits .and .u64 ((n / 2 ^ j : Nat) : Int) 1 = if n.testBit j = true then 1 else 0 := by
  have h1 : n / 2 ^ j ≤ n := Nat.div_le_self _ _
  have h2 := bits_and_u64_nat (n / 2 ^ j) 1 (by omega) (by omega)
  rw [Nat.and_one_is_mod] at h2
  have h3 : ((1 : Nat) : Int) = 1 := rfl
  rw [h3] at h2
  rw [h2, Nat.testBit_eq_decide_div_mod_eq]
  by_cases h : n / 2 ^ j % 2 = 1
  · rw [h, decide_eq_true rfl, if_pos rfl]; rfl
  · rw [decide_eq_false h, if_neg (by simp)]
    have : n / 2 ^ j % 2 = 0 := by omega
    rw [this]; rfl

theorem row_put1 {w : World} {g : Nat} {x : Vec} (h : RowB w g x) (l : List UInt8) : RowB (w.setCell ⟨g, 1, none⟩ (.string (S l))) g (x.1, l) :=
  ⟨by rw [World.cell?_setCell_other _ _ _ _ (by intro e; injection e with _ e2 _; cases e2)]; exact h.c0, World.cell?_setCell_same _ _ _ h.c1, by rw [World.frozen?_setCell]; exact h.f0, by rw [World.frozen?_setCell]; exact h.f1⟩
theorem Blk.otherB {w : World} {g n h : Nat} {F : Nat → Value} (hb : Blk w g n F) (hne : g ≠ h) (o : Nat) (v : Value) : Blk (w.setCell ⟨h, o, none⟩ v) g n F :=
  ⟨by simpa [World.setCell] using hb.lt, fun j hj => by rw [World.cell?_setCell_other _ _ _ _ (by intro e; injection e with e1 _ _; exact hne e1.symm)]; exact hb.cell j hj, fun j hj => by rw [World.frozen?_setCell]; exact hb.free j hj⟩

set_option maxHeartbeats 4000000 in
set_option maxRecDepth 100000 in
theorem back_any (p b k m : Nat) (T : Nat → Option Vec) (w : World) (h : TabAt w p b k T) (hk1 : 1 ≤ k) (hk : k ≤ 16) (hT : TI m k T) (hm8 : m ≤ 8) (hfull : ∀ b, b < k → T b ≠ none) :
    Calls Tryz.prog 108 #[.pointer (some ⟨p, 0, none⟩), .int .i64 k] w fun e w' => ∃ g, e = .returned (.slice (some ⟨g, 0, none⟩) k k) ∧ w.heap.size ≤ g ∧ Blk w' g k (fun j => .string (S (outF T k k j))) ∧ Lat w w' := by
  have hol := fun f hf => outF_len hT hfull f hf
  have hbl := fun f (hf : f < k) x hx => bkR_len (x := x) hT hfull hf hx
  have H := Lib.hid h; have HTI := Lib.hid hT; have HFU := Lib.hid hfull; have HOL := Lib.hid hol; have HBL := Lib.hid hbl
  clear h hT hfull hol hbl
  go_enter Tryz.func108, Tryz.ntmps108
  go_wp2_with (at_make; refine wpList_make_blk _ rfl _ _ 35 rfl 9 (.string .empty) 16 Tryz.underlying35 info_string rfl k rfl rfl (by omega) (by unfold maxLen; omega) ?_)
  intro g w1 hg hblk hb1
  have HBK : Hid (Blk w1 g k (fun j => .string (S (outF T k 0 j)))) := hblk.congr fun j _ => rfl
  have HB1 := Lib.hid hb1; have HG : Hid (w.heap.size ≤ g) := Nat.le_of_eq hg.symm
  clear hblk hb1 hg
  go_wp2
  go_loopg [6, 7, 8] (k + 1) (fun gh i _ _ wr => ∃ f : Nat, f ≤ k ∧ i = .int .i64 ((k : Int) - 1 - (f : Int)) ∧ Hid (gh + f = k + 1 ∧ Blk wr g k (fun j => .string (S (outF T k f j))) ∧ Lat w wr))
  case atStart => exact ⟨0, Nat.zero_le _, by go_num, rfl, HBK.out, HB1.out⟩
  case round =>
    obtain ⟨f, hf, rfl, hrel⟩ := hrel
    obtain ⟨hgh, hblk, hlat⟩ := hrel.out
    by_cases hfk : f < k
    · obtain ⟨i, hi⟩ : ∃ i, i = k - 1 - f := ⟨_, rfl⟩
      have hiI : (k : Int) - 1 - (f : Int) = (i : Int) := by omega
      rw [hiI]
      have hik : i < k := by omega
      obtain ⟨x, hx⟩ : ∃ x, T i = some x := by
        cases h : T i with
        | none => exact absurd h (HFU.out i hik)
        | some x => exact ⟨x, rfl⟩
      obtain ⟨x1, x2⟩ := x
      have hxb := HTI.out.bits i _ hx
      have hx16 : x1 < 65536 := Nat.lt_of_lt_of_le hxb (Nat.pow_le_pow_right (by omega) hk)
      have hbl := HBL.out f hfk (x1, x2) (by rw [← hi]; exact hx)
      rw [← hi] at hbl
      have hst : ∀ j, outF T k (f + 1) j = if j = i then bkR (x1, x2) (outF T k f) i f else outF T k f j := fun j => by
        show (if j = k - 1 - f then bkR ((T (k - 1 - f)).getD (0, [])) (outF T k f) (k - 1 - f) f else outF T k f j) = _
        rw [← hi, hx]; rfl
      have hwp := wrap_pow i (by omega)
      have HGH := Lib.hid hgh; have HBLK := Lib.hid hblk; have HLT := Lib.hid hlat; have HX := Lib.hid hx; have HBL2 := Lib.hid hbl; have HST := Lib.hid hst; have HI := Lib.hid hi; have HWP := Lib.hid hwp
      clear hrel hgh hblk hlat hx hxb hbl hst hi hwp hiI
      go_upto_region 5 with fail
      have hF : TabAt wr.drew p b k T := (H.out.keep HLT.out).keep (Lat.drew wr)
      have hL0 : Lat wr wr.drew := Lat.drew wr
      have hci : (0 : Int) ≤ (i : Int) := by omega
      refine wp_region_gate (fun w' => TabAt w' p b k T) (fun _ => True) 1000 (by kernel_rfl) ?_
      obtain ⟨w0, hw0⟩ : ∃ x, x = wr.drew := ⟨_, rfl⟩
      rw [← hw0] at hF hL0 ⊢
      clear hw0
      refine gate_takeF (i := 0) (v := ?_) rfl (by kernel_rfl) (by kernel_rfl) (by kernel_rfl) (fun _ _ _ h => h) (by decide) ⟨hF, fun _ => trivial⟩ (Or.inl ⟨by rfl, ?_⟩) ?_
      rotate_left
      · intro wq hSw; go_simp; rfl
      simp only [Act.put]
      refine gate_takeF (i := 1) (v := ?_) rfl (by kernel_rfl) (by kernel_rfl) (by kernel_rfl) (fun _ _ _ h => h) (by decide) ⟨hF, fun _ => trivial⟩ (Or.inl ⟨by rfl, ?_⟩) ?_
      rotate_left
      · intro wq hSw; go_simp; rfl
      simp only [Act.put]
      refine gate_takeF (i := 2) (v := ?_) rfl (by kernel_rfl) (by kernel_rfl) (by kernel_rfl) (fun _ _ _ h => h) (by decide) ⟨hF, fun _ => trivial⟩ (Or.inl ⟨by rfl, ?_⟩) ?_
      rotate_left
      · intro wq hSw; go_simp; rfl
      simp only [Act.put]
      refine gate_takeF (i := 3) (v := ?_) rfl (by kernel_rfl) (by kernel_rfl) (by kernel_rfl) (fun _ _ _ h => h) (by decide) ⟨hF, fun _ => trivial⟩ (Or.inl ⟨by rfl, ?_⟩) ?_
      rotate_left
      · intro wq hSw; have s0 := hSw.cell; go_simp; rfl
      simp only [Act.put]
      refine gate_takeF (i := 4) (v := ?_) rfl (by kernel_rfl) (by kernel_rfl) (by kernel_rfl) (fun _ _ _ h => h) (by decide) ⟨hF, fun _ => trivial⟩ (Or.inl ⟨by rfl, ?_⟩) ?_
      rotate_left
      · intro wq hSw; go_simp; rfl
      simp only [Act.put]
      refine gate_takeF (i := 5) (v := ?_) rfl (by kernel_rfl) (by kernel_rfl) (by kernel_rfl) (fun _ _ _ h => h) (by decide) ⟨hF, fun _ => trivial⟩ (Or.inl ⟨by rfl, ?_⟩) ?_
      rotate_left
      · intro wq hSw; have hw := HWP.out; go_simp; rfl
      simp only [Act.put]
      refine gate_takeF (i := 6) (v := ?_) rfl (by kernel_rfl) (by kernel_rfl) (by kernel_rfl) (fun _ _ _ h => h) (by decide) ⟨hF, fun _ => trivial⟩ (Or.inl ⟨by rfl, ?_⟩) ?_
      rotate_left
      · intro wq hSw; have s9 := hSw.look i (by omega); rw [HX.out] at s9; have s0 : (Instr.lookup 180 (.map (some b)) (.int .u64 (bitP i : Int)) false).run Tryz.prog wq = .ok (.agg #[.int .u64 x1, .string (S x2)]) wq := s9; clear s9; have hw := HWP.out; go_simp; rfl
      simp only [Act.put]
      refine gate_one (i := 7) (by kernel_rfl) rfl (fun K hK => ?_)
      go_simp
      obtain ⟨X, hX⟩ : ∃ X, X = w0.heap.size := ⟨_, rfl⟩
      obtain ⟨W1, hW1⟩ : ∃ W, W = w0.alloc (.cells #[.int .u64 0, .string { data := #[] }] 163) := ⟨_, rfl⟩
      have hrx : RowB W1 X (0, []) := by rw [hW1, hX]; exact row_new w0 0 []
      have hL1 : Lat wr W1 := by rw [hW1]; exact Lat.trans hL0 (Lat.alloc _ _)
      have hF1 : TabAt W1 p b k T := by rw [hW1]; exact hF.keep (Lat.alloc _ _)
      have hXw : wr.heap.size ≤ X := by rw [hX]; exact hL0.size
      rw [← hW1, ← hX]
      clear hW1 hX
      refine hK _ _ ⟨hF1, fun _ => trivial⟩ ?_
      clear hK K hF
      refine gate_one (i := 8) (by kernel_rfl) rfl (fun K hK => ?_)
      have s0 := hrx.c0
      have s1 : W1.cell? ⟨X, 1, none⟩ = some (.string { data := #[] }) := hrx.c1
      have s2 := hrx.f0
      have s3 := hrx.f1
      have hpX : p ≠ X := by have h1 := H.out.lt.1; have h2 := HLT.out.size; omega
      have hbX : b ≠ X := by have h1 := H.out.lt.2; have h2 := HLT.out.size; omega
      have hgX : g ≠ X := by have h1 := HBLK.out.lt; omega
      have hput := row_put hrx x1 x2
      have hF2 := (hF1.fr (Fr.set (S := fun j => j = X) W1 ⟨X, 0, none⟩ (.int .u64 x1) rfl) hpX hbX).fr (Fr.set (S := fun j => j = X) _ ⟨X, 1, none⟩ (.string (S x2)) rfl) hpX hbX
      have hbk2 := ((HBLK.out.keep hL1).otherB hgX 0 (.int .u64 x1)).otherB hgX 1 (.string (S x2))
      have hL2 : Lat w ((W1.setCell ⟨X, 0, none⟩ (.int .u64 x1)).setCell ⟨X, 1, none⟩ (.string (S x2))) := ((Lat.trans HLT.out hL1).setCell (p := ⟨X, 0, none⟩) (Nat.le_trans HLT.out.size hXw) _).setCell (p := ⟨X, 1, none⟩) (Nat.le_trans HLT.out.size hXw) _
      have HPUT := Lib.hid hput; have HF2 := Lib.hid hF2; have HBK2 := Lib.hid hbk2; have HL2 := Lib.hid hL2; have HXW := Lib.hid (Nat.le_trans HLT.out.size hXw)
      clear hput hF2 hbk2 hL2 hrx hF1 hL1 hXw hL0
      go_simp
      refine hK _ _ ⟨HF2.out, fun _ => trivial⟩ ?_
      clear hK K
      refine gate_done (by kernel_rfl) ?_ _
      clear s0 s1 s2 s3
      obtain ⟨W2, hW2⟩ : ∃ W, W = (W1.setCell ⟨X, 0, none⟩ (.int .u64 x1)).setCell ⟨X, 1, none⟩ (.string (S x2)) := ⟨_, rfl⟩
      have hput := HPUT.out
      have hbk2 := HBK2.out
      have hL2 := HL2.out
      rw [← hW2] at hput hbk2 hL2 ⊢
      have HP2 := Lib.hid hput; have HB2 := Lib.hid hbk2; have HL3 := Lib.hid hL2
      clear hW2 hput hbk2 hL2 HPUT HF2 HBK2 HL2
      obtain ⟨wo, hwo⟩ : ∃ wo : World, wo = wr := ⟨_, rfl⟩
      subst hwo
      go_wp2
      go_loopw [8] (fun jj wr => ∃ q : Nat, q ≤ f ∧ jj = .int .i64 ((i + 1 + q : Nat) : Int) ∧ Hid (RowB wr X (x1, bkR (x1, x2) (outF T k f) i q) ∧ Blk wr g k (fun j => .string (S (outF T k f j))) ∧ Lat w wr)) (fun jj _ => 40 - (intOf jj).toNat)
      case atStart => exact ⟨0, Nat.zero_le _, rfl, HP2.out, HB2.out, HL3.out⟩
      case round =>
        obtain ⟨q, hq, rfl, hrel⟩ := hrel
        obtain ⟨hrw, hbk, hlat⟩ := hrel.out
        obtain ⟨jn, hjn⟩ : ∃ x, x = i + 1 + q := ⟨_, rfl⟩
        rw [← hjn]
        have hik2 : i + 1 + f = k := by have := HI.out; omega
        by_cases hqf : q < f
        · have hjk : jn < k := by omega
          have c0 := hrw.c0
          have dj : decide (jn < k) = true := decide_eq_true hjk
          have hyl := HBL2.out q (by omega)
          have hzl := HOL.out f (by omega) jn (by omega) hjk
          have hq1 : bkR (x1, x2) (outF T k f) i (q + 1) = if x1.testBit jn = true then xorL (bkR (x1, x2) (outF T k f) i q) (outF T k f jn) else bkR (x1, x2) (outF T k f) i q := by rw [hjn]; rfl
          obtain ⟨y, hy⟩ : ∃ y, y = bkR (x1, x2) (outF T k f) i q := ⟨_, rfl⟩
          obtain ⟨z, hz⟩ : ∃ z, z = outF T k f jn := ⟨_, rfl⟩
          have cg : wr.cell? ⟨g, jn, none⟩ = some (.string (S z)) := by rw [hz]; exact hbk.cell jn hjk
          rw [← hy] at hyl hq1 hrw
          rw [← hz] at hzl hq1
          have hdiv : (x1 : Int) / 2 ^ jn = ((x1 / 2 ^ jn : Nat) : Int) := by rw [Int.natCast_ediv, Int.natCast_pow]; rfl
          have hsb := shr_bit x1 jn hx16
          rw [← hdiv] at hsb
          have HRW := Lib.hid hrw; have HBK := Lib.hid hbk; have HLA := Lib.hid hlat; have HQ1 := Lib.hid hq1; have HJN := Lib.hid hjn; have HCG := Lib.hid cg
          have HYL : Hid (y.length = (S z).size) := hyl.trans hzl.symm
          have HYM : Hid (y.length = m) := hyl
          clear hik2 hrel hrw hbk hlat hq1 hjn hy hz cg hyl hzl hdiv
          by_cases htb : x1.testBit jn = true
          · have dbit : (bits BinOp.and IntKind.u64 ((x1 : Int) / 2 ^ jn) 1 == 1) = true := by rw [hsb, if_pos htb]; rfl
            have HQ2 : Hid (bkR (x1, x2) (outF T k f) i (q + 1) = xorL y z) := by show _ = _; rw [HQ1.out, if_pos htb]
            clear hsb htb
            go_upto_region 10 with fail
            have hF : wr.drew.cell? ⟨g, jn, none⟩ = some (.string (S z)) ∧ wr.drew.frozen? ⟨X, 1, none⟩ = false := ⟨HCG.out, HRW.out.f1⟩
            have hG : wr.drew.cell? ⟨X, 1, none⟩ = some (.string (S y)) := HRW.out.c1
            have hj0 : (0 : Int) ≤ (jn : Int) := by omega
            have hjk2 : (jn : Int) < (k : Int) := by omega
            have hL0 : Lat wr wr.drew := Lat.drew wr
            refine wp_region_gate (fun w' => w'.cell? ⟨g, jn, none⟩ = some (.string (S z)) ∧ w'.frozen? ⟨X, 1, none⟩ = false) (fun w' => w'.cell? ⟨X, 1, none⟩ = some (.string (S y))) 8 (by kernel_rfl) ?_
            obtain ⟨w0, hw0⟩ : ∃ x, x = wr.drew := ⟨_, rfl⟩
            rw [← hw0] at hF hG hL0 ⊢
            clear hw0
            refine gate_takeF (i := 0) (v := ?_) rfl (by kernel_rfl) (by kernel_rfl) (by kernel_rfl) (fun _ _ _ h => h) (by decide) ⟨hF, fun _ => hG⟩ (Or.inl ⟨by rfl, ?_⟩) ?_
            rotate_left
            · intro wq hSw; go_simp; rfl
            simp only [Act.put]
            refine gate_takeC (i := 1) [6] (v := ?_) rfl (by kernel_rfl) (by kernel_rfl) (by kernel_rfl) (fun _ _ _ h => h) (by decide) (by kernel_rfl) (by kernel_rfl) ⟨hF, fun _ => hG⟩ (Or.inl ⟨by rfl, ?_⟩) ?_
            rotate_left
            · intro wq hSw; obtain ⟨⟨s0, s1⟩, s2⟩ := hSw; go_simp; rfl
            simp only [Act.put]
            refine gate_takeF (i := 2) (v := ?_) rfl (by kernel_rfl) (by kernel_rfl) (by kernel_rfl) (fun _ _ _ h => h) (by decide) ⟨hF, fun _ => hG⟩ (Or.inl ⟨by rfl, ?_⟩) ?_
            rotate_left
            · intro wq hSw; go_simp; rfl
            simp only [Act.put]
            refine gate_takeF (i := 3) (v := ?_) rfl (by kernel_rfl) (by kernel_rfl) (by kernel_rfl) (fun _ _ _ h => h) (by decide) ⟨hF, fun _ => hG⟩ (Or.inl ⟨by rfl, ?_⟩) ?_
            rotate_left
            · intro wq hSw; go_simp; rfl
            simp only [Act.put]
            refine gate_takeF (i := 4) (v := ?_) rfl (by kernel_rfl) (by kernel_rfl) (by kernel_rfl) (fun _ _ _ h => h) (by decide) ⟨hF, fun _ => hG⟩ (Or.inl ⟨by rfl, ?_⟩) ?_
            rotate_left
            · intro wq hSw; go_simp; rfl
            simp only [Act.put]
            refine gate_takeF (i := 5) (v := ?_) rfl (by kernel_rfl) (by kernel_rfl) (by kernel_rfl) (fun _ _ _ h => h) (by decide) ⟨hF, fun _ => hG⟩ (Or.inl ⟨by rfl, ?_⟩) ?_
            rotate_left
            · intro wq hSw; obtain ⟨s0, s1⟩ := hSw; go_simp; rfl
            simp only [Act.put]
            refine gate_one (i := 6) (by kernel_rfl) rfl (fun K hK => ?_)
            go_simp
            refine (overS y (S z) _ HYL.out (by rw [HYM.out]; unfold maxLen; omega)).mono ?_
            rintro e w5 ⟨rfl, hb5⟩
            have hX0 : X < w0.heap.size := World.block_lt_of_cell? _ _ hG
            have hF' : w5.cell? ⟨g, jn, none⟩ = some (.string (S z)) ∧ w5.frozen? ⟨X, 1, none⟩ = false := ⟨hb5.cell_at hF.1, hb5.free_at hX0 hF.2⟩
            have hG' : w5.cell? ⟨X, 1, none⟩ = some (.string (S y)) := hb5.cell_at hG
            refine hK _ _ ⟨hF', fun _ => hG'⟩ ?_
            clear hK K hF hG
            refine gate_takeF (i := 7) (v := ?_) rfl (by kernel_rfl) (by kernel_rfl) (by kernel_rfl) (fun _ _ _ h => h) (by decide) ⟨hF', fun _ => hG'⟩ (Or.inl ⟨by rfl, ?_⟩) ?_
            rotate_left
            · intro wq hSw; go_simp; rfl
            simp only [Act.put]
            refine gate_one (i := 8) (by kernel_rfl) rfl (fun K hK => ?_)
            obtain ⟨s0, s1⟩ := hF'
            have s2 := hG'
            have hl5 : Lat wr w5 := Lat.trans hL0 hb5
            have hrow5 := row_put1 (HRW.out.keep hl5) (xorL y z)
            have hbk5 := (HBK.out.keep hl5).otherB hgX 1 (.string (S (xorL y z)))
            have hlw5 : Lat w (w5.setCell ⟨X, 1, none⟩ (.string (S (xorL y z)))) := (Lat.trans HLA.out hl5).setCell (p := ⟨X, 1, none⟩) HXW.out _
            have HR5 := Lib.hid hrow5; have HB5 := Lib.hid hbk5; have HL5 := Lib.hid hlw5
            clear hrow5 hbk5 hlw5 hl5 hL0 hb5
            go_simp
            refine hK _ _ (FG.past (by kernel_rfl) ⟨by rw [World.cell?_setCell_other _ _ _ _ (by intro e; injection e with e1 _ _; exact hgX e1.symm)]; exact s0, by rw [World.frozen?_setCell]; exact s1⟩) ?_
            clear hK K
            refine gate_done (by kernel_rfl) ?_ _
            clear s0 s1 s2 hG'
            go_wp2
            go_roundw
            case rel => exact ⟨q + 1, by omega, by rw [HJN.out]; go_num, by rw [HQ2.out]; exact HR5.out, HB5.out, HL5.out⟩
            case measure => simp [intOf]; omega
          · have dbit : (bits BinOp.and IntKind.u64 ((x1 : Int) / 2 ^ jn) 1 == 1) = false := by rw [hsb, if_neg htb]; rfl
            have HQ2 : Hid (bkR (x1, x2) (outF T k f) i (q + 1) = y) := by show _ = _; rw [HQ1.out, if_neg htb]
            clear hsb htb
            go_wp2
            go_roundw
            case rel => exact ⟨q + 1, by omega, by rw [HJN.out]; go_num, by rw [HQ2.out]; exact HRW.out, HBK.out, HLA.out⟩
            case measure => simp [intOf]; omega
        · obtain rfl : q = f := by omega
          have hjk : jn = k := by omega
          have dj : decide (jn < k) = false := decide_eq_false (by omega)
          have cl := hbk.cell i hik
          have fl := hbk.free i hik
          have cx := hrw.c1
          obtain ⟨y, hy⟩ : ∃ y, y = bkR (x1, x2) (outF T k q) i q := ⟨_, rfl⟩
          rw [← hy] at cx
          have hnew : Blk (wr.setCell ⟨g, i, none⟩ (.string (S y))) g k (fun j => .string (S (outF T k (q + 1) j))) := (hbk.set hik (.string (S y))).congr fun j _ => by
            rw [HST.out j]
            by_cases e : j = i
            · rw [if_pos e, if_pos e, hy]
            · rw [if_neg e, if_neg e]
          have hlat2 : Lat w (wr.setCell ⟨g, i, none⟩ (.string (S y))) := hlat.setCell (p := ⟨g, i, none⟩) HG.out _
          have hiI : (i : Int) < (k : Int) := by omega
          have HNEW := Lib.hid hnew; have HLAT2 := Lib.hid hlat2; have HIK2 := Lib.hid hik2
          clear hrel hrw hbk hlat hjn hjk hy hnew hlat2 hik2
          go_wp2
          go_roundg (gk - 1)
          case measure => go_light; have := HGH.out; omega
          case rel => go_light; exact ⟨q + 1, by omega, by have := HIK2.out; go_num, by have := HGH.out; omega, HNEW.out, HLAT2.out⟩
    · obtain rfl : f = k := by omega
      have e : ((f : Int) - 1 - (f : Int)) = -1 := by omega
      rw [e]
      have HBF := Lib.hid hblk; have HLF := Lib.hid hlat
      clear hrel hgh hblk hlat e
      go_wp2
      go_ret
      exact ⟨g, rfl, HG.out, HBF.out, HLF.out⟩
end Go.Proofs.YtheimfdbadjpoaaGreatDoor

namespace Go.Proofs.YtheimfdbadjpoaaGreatDoor

def many (n s : Nat) : Nat := max 1 ((n + s - 1) / s)
theorem many_le (n s : Nat) (h : 1 ≤ s) : n ≤ many n s * s := by
  unfold many
  have h1 := Nat.div_add_mod (n + s - 1) s
  have h2 := Nat.mod_lt (n + s - 1) (show 0 < s by omega)
  have h3 : (n + s - 1) / s * s ≤ max 1 ((n + s - 1) / s) * s := Nat.mul_le_mul_right _ (by omega)
  rw [Nat.mul_comm] at h1
  omega
theorem many_lt (n s : Nat) (h : 1 ≤ s) : many n s * s < n + s ∨ n = 0 := by
  unfold many
  by_cases hn : n = 0
  · exact .inr hn
  · left
    have h1 := Nat.div_add_mod (n + s - 1) s
    have h2 : 1 ≤ (n + s - 1) / s := (Nat.le_div_iff_mul_le (by omega)).2 (by omega)
    rw [Nat.max_eq_right h2]
    rw [Nat.mul_comm] at h1
    omega
theorem many_pos (n s : Nat) : 1 ≤ many n s := by unfold many; omega
def padL (D : List UInt8) (s : Nat) : List UInt8 := D ++ noughts (many D.length s * s - D.length)
theorem padL_length (D : List UInt8) (s : Nat) (h : 1 ≤ s) : (padL D s).length = many D.length s * s := by
  have := many_le D.length s h
  unfold padL; rw [List.length_append]
  have e : (noughts (many D.length s * s - D.length)).length = many D.length s * s - D.length := by simp [noughts]
  omega
theorem padL_take (D : List UInt8) (s : Nat) : (padL D s).take D.length = D := by unfold padL; exact List.take_left
def cutAt (E : List UInt8) (s i : Nat) : List UInt8 := (E.drop (i * s)).take s
def cuts (E : List UInt8) (s k : Nat) : List ByteArray := (List.range k).map fun i => S (cutAt E s i)
theorem cuts_length (E : List UInt8) (s k : Nat) : (cuts E s k).length = k := by simp [cuts]
theorem cuts_succ (E : List UInt8) (s k : Nat) : cuts E s (k + 1) = cuts E s k ++ [S (cutAt E s k)] := by unfold cuts; rw [List.range_succ, List.map_append]; rfl
theorem cuts_getD (E : List UInt8) (s k j : Nat) (h : j < k) : (cuts E s k).getD j ByteArray.empty = S (cutAt E s j) := by
  rw [List.getD_eq_getElem?_getD, List.getElem?_eq_getElem (by rw [cuts_length]; exact h)]; simp [cuts]
theorem cutAt_length (E : List UInt8) (s k i : Nat) (h : E.length = k * s) (hi : i < k) : (cutAt E s i).length = s := by
  unfold cutAt
  rw [List.length_take, List.length_drop, h]
  have : i * s + s ≤ k * s := by rw [← Nat.succ_mul]; exact Nat.mul_le_mul_right _ hi
  omega
theorem cuts_join (E : List UInt8) (s : Nat) : ∀ k, k * s ≤ E.length → ((cuts E s k).map fun b => b.data.toList).flatten = E.take (k * s)
  | 0, _ => by simp [cuts]
  | k + 1, h => by
    rw [Nat.succ_mul] at h
    rw [cuts_succ, List.map_append, List.flatten_append, cuts_join E s k (by omega)]
    show E.take (k * s) ++ ([cutAt E s k]).flatten = _
    rw [List.flatten_singleton, Nat.succ_mul, List.take_add]
    rfl
def spE (n : Nat) (s : Int) : Nat := if 120 < n then 4 else if s < 1 ∨ 8 < s then 1 else if 16 < many n s.toNat then 4 else 0
end Go.Proofs.YtheimfdbadjpoaaGreatDoor

namespace Go.Proofs.YtheimfdbadjpoaaGreatDoor

def spl (D : ByteArray) (s : Int) : List ByteArray := if spE D.size s = 0 then cuts (padL D.data.toList s.toNat) s.toNat (many D.size s.toNat) else []
structure SpOk (D : ByteArray) (s : Int) (m k : Nat) : Prop where
  es : s = m
  lo : 1 ≤ m
  hi : m ≤ 8
  len : D.size ≤ 120
  ek : k = many D.size m
  most : k ≤ 16
theorem spE_ok {D : ByteArray} {s : Int} (h : spE D.size s = 0) : SpOk D s s.toNat (many D.size s.toNat) := by
  unfold spE at h
  split at h
  · omega
  split at h
  · omega
  split at h
  · omega
  rename_i h1 h2 h3
  exact ⟨by omega, by omega, by omega, by omega, rfl, by omega⟩
theorem size_toList (D : ByteArray) : D.data.toList.length = D.size := Array.length_toList
theorem pad_len {D : ByteArray} {s : Int} {m k : Nat} (h : SpOk D s m k) : (padL D.data.toList m).length = k * m := by
  rw [padL_length _ _ h.lo, size_toList, ← h.ek]
theorem spl_ok {D : ByteArray} {s : Int} {m k : Nat} (h : SpOk D s m k) (he : spE D.size s = 0) : spl D s = cuts (padL D.data.toList m) m k := by
  have := h.es
  unfold spl; rw [if_pos he, h.ek]; rw [show s.toNat = m by omega]
theorem cuts_szAt {E : List UInt8} {m k : Nat} (hE : E.length = k * m) (j : Nat) (hj : j < k) : szAt (cuts E m k) j = m := by
  unfold szAt; rw [cuts_getD E m k j hj, S_size, cutAt_length E m k j hE hj]
theorem spl_chk {D : ByteArray} {s : Int} {m k : Nat} (h : SpOk D s m k) (he : spE D.size s = 0) : chk (spl D s) = 0 := by
  have hk : 1 ≤ k := by rw [h.ek]; exact many_pos _ _
  rw [spl_ok h he]
  have hE := pad_len h
  have h0 := cuts_szAt hE 0 (by omega)
  exact chk_of ⟨by rw [cuts_length]; exact hk, by rw [cuts_length]; exact h.most, by rw [h0]; exact h.lo, by rw [h0]; exact h.hi, fun j hj => by rw [h0, cuts_szAt hE j (by rw [cuts_length] at hj; exact hj)]⟩
theorem chk_spl {D : ByteArray} {s : Int} (he : spE D.size s = 0) : chk (spl D s) = 0 := spl_chk (spE_ok he) he
def flatB (ss : List ByteArray) : List UInt8 := (ss.map fun b => b.data.toList).flatten
theorem flatB_spl {D : ByteArray} {s : Int} {m k : Nat} (h : SpOk D s m k) (he : spE D.size s = 0) : flatB (spl D s) = padL D.data.toList m := by
  rw [spl_ok h he]
  have hE := pad_len h
  unfold flatB
  rw [cuts_join _ _ _ (by rw [hE]; exact Nat.le_refl _), ← hE, List.take_length]
theorem flatB_len {m : Nat} : ∀ {ss : List ByteArray}, (∀ b ∈ ss, b.size = m) → (flatB ss).length = ss.length * m
  | [], _ => by simp [flatB]
  | b :: ss, h => by
    have ih := flatB_len (ss := ss) (fun x hx => h x (List.mem_cons_of_mem _ hx))
    have hb := h b (List.mem_cons_self ..)
    show (b.data.toList ++ flatB ss).length = _
    rw [List.length_append, ih, size_toList, hb, List.length_cons, Nat.succ_mul, Nat.add_comm]
theorem chk_mem {ss : List ByteArray} (h : chk ss = 0) : ∀ b ∈ ss, b.size = szAt ss 0 := by
  intro b hb
  obtain ⟨j, hj, e⟩ := List.getElem_of_mem hb
  have := (chk_ok h).all j hj
  rw [← this]
  unfold szAt
  rw [List.getD_eq_getElem?_getD, List.getElem?_eq_getElem hj, e]; rfl
theorem chk_flat {ss : List ByteArray} (h : chk ss = 0) : (flatB ss).length = ss.length * szAt ss 0 ∧ (flatB ss).length ≤ 128 := by
  have h1 := flatB_len (chk_mem h)
  have h2 := chk_ok h
  refine ⟨h1, ?_⟩
  rw [h1]
  calc ss.length * szAt ss 0 ≤ 16 * 8 := Nat.mul_le_mul h2.most h2.eight
    _ = 128 := rfl
def jnE (ss : List ByteArray) (n : Int) : Nat := if chk ss ≠ 0 then chk ss else if n < 0 ∨ ((flatB ss).length : Int) < n ∨ many n.toNat (szAt ss 0) ≠ ss.length then 1 else 0
def jnS (ss : List ByteArray) (n : Int) : ByteArray := if jnE ss n = 0 then S ((flatB ss).take n.toNat) else .empty
theorem spl_szAt {D : ByteArray} {s : Int} {m k : Nat} (h : SpOk D s m k) (he : spE D.size s = 0) (j : Nat) (hj : j < k) : szAt (spl D s) j = m := by
  rw [spl_ok h he]; exact cuts_szAt (pad_len h) j hj
theorem spl_len {D : ByteArray} {s : Int} {m k : Nat} (h : SpOk D s m k) (he : spE D.size s = 0) : (spl D s).length = k := by
  rw [spl_ok h he, cuts_length]
theorem jn_back {D : ByteArray} {s : Int} (he : spE D.size s = 0) : jnE (spl D s) D.size = 0 ∧ jnS (spl D s) D.size = D := by
  have h := spE_ok he
  have hk : 1 ≤ many D.size s.toNat := many_pos _ _
  have h1 : jnE (spl D s) D.size = 0 := by
    unfold jnE
    rw [chk_spl he, if_neg (by simp), if_neg]
    rw [flatB_spl h he, pad_len h, spl_szAt h he 0 (by omega), spl_len h he, Int.toNat_natCast]
    have := many_le D.size s.toNat h.lo
    omega
  refine ⟨h1, ?_⟩
  unfold jnS
  rw [if_pos h1, flatB_spl h he, Int.toNat_natCast, ← size_toList, padL_take]
theorem spl_wf (D : ByteArray) (s : Int) : ∀ z ∈ spl D s, z.size ≤ maxLen := by
  intro z hz
  by_cases he : spE D.size s = 0
  · have h := chk_mem (chk_spl he) z hz
    have h8 := (chk_ok (chk_spl he)).eight
    unfold maxLen; omega
  · unfold spl at hz; rw [if_neg he] at hz; simp at hz
theorem join_flat (ss : List ByteArray) : Lib.join (ss.map fun b => b.data.toList) ([] : List UInt8) = flatB ss := by
  cases ss with
  | nil => rfl
  | cons b r =>
    rw [List.map_cons, Lib.join_cons]
    unfold flatB Lib.joinTail
    rw [List.map_cons, List.flatten_cons]
    congr 2
    simp
end Go.Proofs.YtheimfdbadjpoaaGreatDoor

namespace Go.Proofs.YtheimfdbadjpoaaGreatDoor
open Go.ChangeShapes Go.WideShapes Go.ChangeAt Go.RowKit

theorem mem_getD (zs : List Int) (k : Nat) (h : k < zs.length) : zs.getD k 0 ∈ zs := by
  rw [List.getD_eq_getElem?_getD, List.getElem?_eq_getElem h]; exact List.getElem_mem h
def TestI (F : Nat) (p : Int → Bool) (zs : List Int) : Prop := ∀ z ∈ zs, ∀ w : World, Calls Tryz.prog F #[.int .i64 z] w fun e w' => e = .returned (.bool (p z)) ∧ w = w'
def IdxI (p : Int → Bool) (zs : List Int) (w : World) (e : Ending) (w' : World) : Prop := ∃ r : Int, e = .returned (.int .i64 r) ∧ decide (0 ≤ r) = zs.any p ∧ w = w'

set_option maxHeartbeats 400000 in
theorem indexFuncI (F : Nat) (eF : ∀ args w, (callFunc F args).run Tryz.prog w = .ok (.enter F args) w) (p : Int → Bool) (a : Option Addr) (n cap : Nat) (zs : List Int) (w : World) (h : IntsAt w a n cap zs) (hF : TestI F p zs) :
    Calls Tryz.prog 152 #[.slice a n cap, .func (.func F) #[] #[]] w (IdxI p zs w) := by
  have hcap2 := h.row.cap
  have hle2 := h.row.le
  unfold maxLen at hcap2
  have H := Lib.hid h
  have HF := Lib.hid hF
  clear h hF
  go_enter Tryz.func152, Tryz.ntmps152
  go_wp2
  go_loop [8] (fun i => ∃ k : Nat, k ≤ n ∧ i = .int .i64 k ∧ Hid (∀ j, j < k → p (zs.getD j 0) = false)) (fun i => n - (intOf i).toNat)
  case atStart => exact ⟨0, Nat.zero_le _, rfl, fun j hj => absurd hj (Nat.not_lt_zero _)⟩
  case round =>
    obtain ⟨k, hk, rfl, hrel⟩ := hrel
    by_cases hlt : k < n
    · obtain ⟨b, o, rfl, hc⟩ := H.out.row.at_ (by omega)
      have c1 := hc k hlt
      have hm := mem_getD zs k (by rw [H.out.len]; exact hlt)
      have hcall := HF.out _ hm
      obtain ⟨z, hz⟩ : ∃ z, z = zs.getD k 0 := ⟨_, rfl⟩
      rw [← hz] at c1 hm hcall
      have HZ := Lib.hid hz
      have HM := Lib.hid hm
      clear hc hz hm
      cases hq : p z with
      | true =>
        have HQ := Lib.hid hq
        simp only [hq] at hcall
        clear hq
        go_wp2_with (go_at_fn F; refine (hcall _).mono ?_; rintro e w' ⟨rfl, rfl⟩)
        go_ret
        exact ⟨k, rfl, by rw [List.any_eq_true.2 ⟨z, HM.out, HQ.out⟩]; exact decide_eq_true (by omega), rfl⟩
      | false =>
        have HQ := Lib.hid hq
        simp only [hq] at hcall
        clear hq
        go_wp2_with (go_at_fn F; refine (hcall _).mono ?_; rintro e w' ⟨rfl, rfl⟩)
        go_round
        case rel => exact ⟨k + 1, by omega, by go_num, fun j hj => by
          by_cases e : j = k
          · subst e; rw [← HZ.out]; exact HQ.out
          · exact hrel.out j (by omega)⟩
        case measure => simp [intOf]; omega
    · obtain rfl : k = n := by omega
      go_wp2
      go_ret
      refine ⟨-1, rfl, ?_, rfl⟩
      have : zs.any p = false := by
        rw [List.any_eq_false]
        intro x hx
        obtain ⟨j, hj, e⟩ := List.getElem_of_mem hx
        have := hrel.out j (by rw [← H.out.len]; exact hj)
        rw [List.getD_eq_getElem?_getD, List.getElem?_eq_getElem hj, Option.getD_some, e] at this
        rw [this]; simp
      rw [this]; rfl
theorem containsFuncI (F : Nat) (eF : ∀ args w, (callFunc F args).run Tryz.prog w = .ok (.enter F args) w) (p : Int → Bool) (a : Option Addr) (n cap : Nat) (zs : List Int) (w : World) (h : IntsAt w a n cap zs) (hF : TestI F p zs) :
    Calls Tryz.prog 119 #[.slice a n cap, .func (.func F) #[] #[]] w fun e w' => e = .returned (.bool (zs.any p)) ∧ w = w' := by
  have H := Lib.hid h
  have HF := Lib.hid hF
  clear h hF
  obtain ⟨Y, hY⟩ : ∃ Y, Y = zs.any p := ⟨_, rfl⟩
  rw [← hY]
  have HY := Lib.hid hY
  clear hY
  go_enter Tryz.func119, Tryz.ntmps119
  go_wp2_with fail
  refine (indexFuncI F eF p a n cap zs _ H.out HF.out).mono ?_
  rintro e w' ⟨r, rfl, hr, rfl⟩
  rw [← HY.out] at hr
  have HR := Lib.hid hr
  clear hr
  go_wp2
  go_ret
  exact ⟨congrArg (fun b => Ending.returned (.bool b)) HR.out, rfl⟩
end Go.Proofs.YtheimfdbadjpoaaGreatDoor

namespace Go.Proofs.YtheimfdbadjpoaaGreatDoor
open Go.ChangeShapes Go.WideShapes Go.ChangeAt Go.RowKit

def noSeed (z : Int) : Bool := !decide (1 ≤ z ∧ z ≤ 10000)
def rdyE (k : Int) (zs : List Int) : Nat := if 60 < zs.length then 4 else if k < 1 ∨ 16 < k then 1 else if zs.any noSeed = true then 1 else 0
theorem rdyE_zero {k : Int} {zs : List Int} (h : rdyE k zs = 0) : zs.length ≤ 60 ∧ 1 ≤ k ∧ k ≤ 16 ∧ ∀ z ∈ zs, 1 ≤ z ∧ z ≤ 10000 := by
  unfold rdyE at h
  by_cases h1 : 60 < zs.length
  · rw [if_pos h1] at h; cases h
  rw [if_neg h1] at h
  by_cases h2 : k < 1 ∨ 16 < k
  · rw [if_pos h2] at h; cases h
  rw [if_neg h2] at h
  by_cases h3 : zs.any noSeed = true
  · rw [if_pos h3] at h; cases h
  refine ⟨by omega, by omega, by omega, fun z hz => ?_⟩
  by_cases h4 : 1 ≤ z ∧ z ≤ 10000
  · exact h4
  · exact absurd (List.any_eq_true.2 ⟨z, hz, by unfold noSeed; rw [decide_eq_false h4]; rfl⟩) h3
theorem seedR_yes (z : Int) (w : World) (h1 : 1 ≤ z) (h2 : z ≤ 10000) :
    Calls Tryz.prog 49 #[.int .i64 z] w fun e w' => e = .returned (.bool true) ∧ w = w' := by
  have hd : decide (z ≤ 10000) = true := decide_eq_true h2
  go_enter Tryz.func49, Tryz.ntmps49
  go_wp2
  go_ret
  exact ⟨rfl, rfl⟩
theorem seedR_no (z : Int) (w : World) (h : z < 1 ∨ 10000 < z) :
    Calls Tryz.prog 49 #[.int .i64 z] w fun e w' => e = .returned (.bool false) ∧ w = w' := by
  rcases h with h | h
  · have hd : decide (1 ≤ z) = false := decide_eq_false (by omega)
    go_enter Tryz.func49, Tryz.ntmps49
    go_wp2
    go_ret
    exact ⟨rfl, rfl⟩
  · have hd : decide (1 ≤ z) = true := decide_eq_true (by omega)
    have hd2 : decide (z ≤ 10000) = false := decide_eq_false (by omega)
    go_enter Tryz.func49, Tryz.ntmps49
    go_wp2
    go_ret
    exact ⟨rfl, rfl⟩
theorem ready_clos (z : Int) (w : World) : Calls Tryz.prog 120 #[.int .i64 z] w fun e w' => e = .returned (.bool (noSeed z)) ∧ w = w' := by
  by_cases h : 1 ≤ z ∧ z ≤ 10000
  · have hn : noSeed z = false := by unfold noSeed; rw [decide_eq_true h]; rfl
    rw [hn]
    go_enter Tryz.func120, Tryz.ntmps120
    go_wp2_with (go_at_call 49; refine (seedR_yes z _ h.1 h.2).mono ?_; rintro e w' ⟨rfl, rfl⟩)
    go_ret
    exact ⟨rfl, rfl⟩
  · have hn : noSeed z = true := by unfold noSeed; rw [decide_eq_false h]; rfl
    rw [hn]
    have h2 : z < 1 ∨ 10000 < z := by omega
    clear h
    go_enter Tryz.func120, Tryz.ntmps120
    go_wp2_with (go_at_call 49; refine (seedR_no z _ h2).mono ?_; rintro e w' ⟨rfl, rfl⟩)
    go_ret
    exact ⟨rfl, rfl⟩
set_option maxRecDepth 100000 in
theorem ready_any (k : Int) (a : Option Addr) (n cap : Nat) (zs : List Int) (w : World) (h : IntsAt w a n cap zs) :
    Calls Tryz.prog 73 #[.int .i64 k, .slice a n cap] w fun e w' => e = .returned (errv (rdyE k zs)) ∧ w = w' := by
  have hl := h.len
  have hcm := h.row.cap
  have hle := h.row.le
  unfold maxLen at hcm
  have hE : rdyE k zs = if 60 < n then 4 else if k < 1 ∨ 16 < k then 1 else if zs.any noSeed = true then 1 else 0 := by unfold rdyE; rw [hl]
  have hcf := containsFuncI 120 (enters_of Tryz.func120 (by kernel_rfl) rfl) noSeed a n cap zs w h (fun z _ W => ready_clos z W)
  rw [hE]
  have HC := Lib.hid hcf
  clear h hl hE hcf
  by_cases h1 : 60 < n
  · rw [if_pos h1, errv_pos (by omega)]
    have d1 : decide ((60 : Int) < (n : Int)) = true := decide_eq_true (by omega)
    go_enter Tryz.func73, Tryz.ntmps73
    go_wp2
    go_ret
    exact ⟨rfl, rfl⟩
  rw [if_neg h1]
  have d1 : decide ((60 : Int) < (n : Int)) = false := decide_eq_false (by omega)
  by_cases h2 : k < 1 ∨ 16 < k
  · rw [if_pos h2, errv_pos (by omega)]
    go_enter Tryz.func73, Tryz.ntmps73
    go_wp2_with (go_at_call 64; refine (dblocks_no k _ h2).mono ?_; rintro e w' ⟨rfl, rfl⟩)
    go_ret
    exact ⟨rfl, rfl⟩
  rw [if_neg h2]
  have k1 : 1 ≤ k := by omega
  have k2 : k ≤ 16 := by omega
  clear h2
  obtain ⟨t, ht⟩ : ∃ t, t = zs.any noSeed := ⟨_, rfl⟩
  rw [← ht] at HC ⊢
  clear ht
  cases t with
  | true =>
    rw [if_pos rfl, errv_pos (by omega)]
    go_enter Tryz.func73, Tryz.ntmps73
    go_wp2_with (first
      | (go_at_call 64; refine (dblocks_yes k _ k1 k2).mono ?_; rintro e w' ⟨rfl, rfl⟩)
      | (go_at_call 119; refine HC.out.mono ?_; rintro e w' ⟨rfl, rfl⟩))
    go_ret
    exact ⟨rfl, rfl⟩
  | false =>
    rw [if_neg (by simp), errv_zero rfl]
    go_enter Tryz.func73, Tryz.ntmps73
    go_wp2_with (first
      | (go_at_call 64; refine (dblocks_yes k _ k1 k2).mono ?_; rintro e w' ⟨rfl, rfl⟩)
      | (go_at_call 119; refine HC.out.mono ?_; rintro e w' ⟨rfl, rfl⟩))
    go_ret
    exact ⟨rfl, rfl⟩
end Go.Proofs.YtheimfdbadjpoaaGreatDoor

namespace Go.Proofs.YtheimfdbadjpoaaGreatDoor

theorem Bare.append {k : Nat} {L M : List Vec} (h : Bare k L) (h2 : Bare k M) : Bare k (L ++ M) := fun v hv => by
  rcases List.mem_append.1 hv with hv | hv
  · exact h v hv
  · exact h2 v hv
theorem Bare.nil (k : Nat) : Bare k [] := fun v hv => by cases hv
theorem Bare.take {k : Nat} {L : List Vec} (h : Bare k L) (i : Nat) : Bare k (L.take i) := fun v hv => h v (List.mem_of_mem_take hv)
theorem bare_units {k : Nat} (l : List Nat) (h : ∀ i ∈ l, i < k) : Bare k (l.map unit) := fun v hv => by
  obtain ⟨i, hi, rfl⟩ := List.mem_map.1 hv
  exact ⟨rfl, unit_lt (h i hi)⟩
def lackL (k : Nat) (L : List Vec) : Nat → List Nat
  | 0 => []
  | i + 1 => if raises k (L ++ (List.range i).map unit) (unit i) = true then lackL k L i ++ [i] else lackL k L i
theorem lackL_lt (k : Nat) (L : List Vec) : ∀ i, ∀ j ∈ lackL k L i, j < i
  | 0, j, h => by cases h
  | i + 1, j, h => by
    unfold lackL at h
    split at h
    · rcases List.mem_append.1 h with h | h
      · have := lackL_lt k L i j h; omega
      · have := List.mem_singleton.1 h; omega
    · have := lackL_lt k L i j h; omega
theorem units_snoc (i : Nat) : (List.range (i + 1)).map unit = (List.range i).map unit ++ [unit i] := by rw [List.range_succ, List.map_append]; rfl
theorem bare_range {k i : Nat} (h : i ≤ k) : Bare k ((List.range i).map unit) := bare_units _ fun j hj => by have := List.mem_range.1 hj; omega
theorem lackL_len {k : Nat} (h64 : k ≤ 64) {L : List Vec} (h : Bare k L) : ∀ i, i ≤ k → (lackL k L i).length + rk k L = rk k (L ++ (List.range i).map unit)
  | 0, _ => by simp [lackL]
  | i + 1, hi => by
    have ih := lackL_len h64 h i (by omega)
    rw [units_snoc, ← List.append_assoc, rk_snoc h64 (h.append (bare_range (by omega))) (unit_lt (by omega)), ← ih]
    have e : lackL k L (i + 1) = if raises k (L ++ (List.range i).map unit) (unit i) = true then lackL k L i ++ [i] else lackL k L i := rfl
    rw [e]
    by_cases hr : raises k (L ++ (List.range i).map unit) (unit i) = true
    · rw [if_pos hr, if_pos hr, List.length_append, List.length_singleton]; omega
    · rw [if_neg hr, if_neg hr]; omega
theorem rk_range {k : Nat} (h64 : k ≤ 64) {L : List Vec} (h : Bare k L) : rk k (L ++ (List.range k).map unit) = k := by
  have hb := h.append (bare_range (Nat.le_refl k))
  refine rk_units h64 hb fun b hlt => Sp.mem hb.wf (List.mem_append_right _ (List.mem_map.2 ⟨b, List.mem_range.2 hlt, rfl⟩))
theorem lack_len {k : Nat} (h64 : k ≤ 64) {L : List Vec} (h : Bare k L) : (lackL k L k).length + rk k L = k := by
  rw [lackL_len h64 h k (Nat.le_refl _), rk_range h64 h]
theorem lack_fills {k : Nat} (h64 : k ≤ 64) {L : List Vec} (h : Bare k L) : ∀ i, i ≤ k → ∀ j, j < i → Sp 0 (L ++ (lackL k L i).map unit) (unit j)
  | 0, _, j, hj => by omega
  | i + 1, hi, j, hj => by
    have ih := lack_fills h64 h i (by omega)
    have hbi : Bare k (L ++ (lackL k L i).map unit) := h.append (bare_units _ fun x hx => by have := lackL_lt k L i x hx; omega)
    have hbi1 : Bare k (L ++ (lackL k L (i + 1)).map unit) := h.append (bare_units _ fun x hx => by have := lackL_lt k L (i + 1) x hx; omega)
    have hsub : ∀ v, Sp 0 (L ++ (lackL k L i).map unit) v → Sp 0 (L ++ (lackL k L (i + 1)).map unit) v := fun v hv => Sp.mono (fun x hx => by
      rcases List.mem_append.1 hx with hx | hx
      · exact List.mem_append_left _ hx
      · refine List.mem_append_right _ ?_
        obtain ⟨y, hy, rfl⟩ := List.mem_map.1 hx
        refine List.mem_map.2 ⟨y, ?_, rfl⟩
        unfold lackL
        split
        · exact List.mem_append_left _ hy
        · exact hy) hv
    by_cases e : j = i
    · subst e
      cases hr : raises k (L ++ (List.range j).map unit) (unit j) with
      | true =>
        refine Sp.mem hbi1.wf (List.mem_append_right _ (List.mem_map.2 ⟨j, ?_, rfl⟩))
        unfold lackL
        rw [if_pos hr]; exact List.mem_append_right _ (List.mem_singleton.2 rfl)
      | false =>
        have hsp := (raises_iff h64 (h.append (bare_range (show j ≤ k by omega))) (v := unit j) rfl).1 hr
        refine hsub _ (Sp.sub hbi.wf (fun u hu => ?_) hsp)
        rcases List.mem_append.1 hu with hu | hu
        · exact Sp.mem hbi.wf (List.mem_append_left _ hu)
        · obtain ⟨y, hy, rfl⟩ := List.mem_map.1 hu
          exact ih y (List.mem_range.1 hy)
    · exact hsub _ (ih j (by omega))
theorem rk_filled {k : Nat} (h64 : k ≤ 64) {L : List Vec} (h : Bare k L) : rk k (L ++ (lackL k L k).map unit) = k :=
  rk_units h64 (h.append (bare_units _ fun x hx => lackL_lt k L k x hx)) (lack_fills h64 h k (Nat.le_refl _))
def newL (k : Nat) (L : List Vec) : Nat → List Nat
  | 0 => []
  | i + 1 => if raises k (L.take i) (L.getD i (0, [])) = true then newL k L i ++ [i] else newL k L i
theorem take_snocV (L : List Vec) (i : Nat) (h : i < L.length) : L.take (i + 1) = L.take i ++ [L.getD i (0, [])] := by
  rw [List.take_succ_eq_append_getElem h, List.getD_eq_getElem?_getD, List.getElem?_eq_getElem h]; rfl
theorem getD_bits {k : Nat} {L : List Vec} (h : Bare k L) (i : Nat) (hi : i < L.length) : (L.getD i (0, [])).2 = [] ∧ (L.getD i (0, [])).1 < 2 ^ k := by
  rw [List.getD_eq_getElem?_getD, List.getElem?_eq_getElem hi]; exact h _ (List.getElem_mem hi)
theorem newL_len {k : Nat} (h64 : k ≤ 64) {L : List Vec} (h : Bare k L) : ∀ i, i ≤ L.length → (newL k L i).length = rk k (L.take i)
  | 0, _ => by rw [List.take_zero, rk_nil]; rfl
  | i + 1, hi => by
    have ih := newL_len h64 h i (by omega)
    rw [take_snocV L i (by omega), rk_snoc h64 (h.take i) (getD_bits h i (by omega)).2, ← ih]
    have e : newL k L (i + 1) = if raises k (L.take i) (L.getD i (0, [])) = true then newL k L i ++ [i] else newL k L i := rfl
    rw [e]
    by_cases hr : raises k (L.take i) (L.getD i (0, [])) = true
    · rw [if_pos hr, if_pos hr, List.length_append, List.length_singleton]
    · rw [if_neg hr, if_neg hr]; omega
theorem rk_take_mono {k : Nat} (h64 : k ≤ 64) {L : List Vec} (h : Bare k L) {i j : Nat} (hij : i ≤ j) : rk k (L.take i) ≤ rk k (L.take j) := by
  have e : L.take j = L.take i ++ (L.drop i).take (j - i) := by
    rw [← List.take_add, show i + (j - i) = j by omega]
  have hb := h.take j
  rw [e] at hb ⊢
  exact (rk_append h64 _ _ rfl hb).1
def fstA (k : Nat) (L : List Vec) : Nat → Nat → Nat
  | 0, _ => 0
  | f + 1, i => if rk k (L.take (i + 1)) = k then i + 1 else fstA k L f (i + 1)
theorem fstA_ne {k : Nat} {L : List Vec} : ∀ f i, fstA k L f i ≠ 0 → rk k (L.take (fstA k L f i)) = k ∧ i < fstA k L f i ∧ fstA k L f i ≤ i + f ∧ ∀ j, i ≤ j → j + 1 < fstA k L f i → rk k (L.take (j + 1)) ≠ k
  | 0, i, h => absurd rfl h
  | f + 1, i, h => by
    unfold fstA at h ⊢
    by_cases e : rk k (L.take (i + 1)) = k
    · rw [if_pos e] at h ⊢
      exact ⟨e, by omega, by omega, fun j h1 h2 => by omega⟩
    · rw [if_neg e] at h ⊢
      obtain ⟨h1, h2, h3, h4⟩ := fstA_ne f (i + 1) h
      refine ⟨h1, by omega, by omega, fun j hj hj2 => ?_⟩
      by_cases ej : j = i
      · subst ej; exact e
      · exact h4 j (by omega) hj2
theorem fstA_zero {k : Nat} {L : List Vec} : ∀ f i, fstA k L f i = 0 → ∀ j, i ≤ j → j < i + f → rk k (L.take (j + 1)) ≠ k
  | 0, i, _, j, h1, h2 => by omega
  | f + 1, i, h, j, h1, h2 => by
    unfold fstA at h
    by_cases e : rk k (L.take (i + 1)) = k
    · rw [if_pos e] at h; omega
    · rw [if_neg e] at h
      by_cases ej : j = i
      · subst ej; exact e
      · exact fstA_zero f (i + 1) h j (by omega) (by omega)
def fstN (k : Nat) (L : List Vec) : Nat := fstA k L L.length 0
theorem fst_iff {k : Nat} (h64 : k ≤ 64) (hk : 1 ≤ k) {L : List Vec} (h : Bare k L) : fstN k L ≠ 0 ↔ rk k L = k := by
  constructor
  · intro hn
    obtain ⟨h1, _, h3, _⟩ := fstA_ne _ _ hn
    have h2 := rk_take_mono h64 h (i := fstN k L) (j := L.length) (by unfold fstN; omega)
    rw [List.take_length] at h2
    have h4 : rk k (L.take (fstN k L)) = k := h1
    have := rk_le k L
    omega
  · intro hr hn
    have hl : L.length ≠ 0 := fun e => by
      rw [List.length_eq_zero_iff.1 e, rk_nil] at hr; omega
    have := fstA_zero _ _ hn (L.length - 1) (by omega) (by omega)
    rw [show L.length - 1 + 1 = L.length by omega, List.take_length] at this
    exact this hr
end Go.Proofs.YtheimfdbadjpoaaGreatDoor

namespace Go.Proofs.YtheimfdbadjpoaaGreatDoor
open Go.ChangeShapes Go.WideShapes Go.ChangeAt Go.RowKit

def rowOf (k : Nat) (z : Int) : Vec := (bitsN (setZ k z.toNat), [])
def rowsOf (k : Nat) (zs : List Int) : List Vec := zs.map (rowOf k)
theorem rowOf_lt (k : Nat) (z : Int) (hk : 1 ≤ k) (hz : 1 ≤ z) : (rowOf k z).1 < 2 ^ k := bitsTo_lt _ k (setZ_lt k _ hk (by omega)) _ (Nat.le_refl _)
theorem rowsOf_bare {k : Nat} {zs : List Int} (hk : 1 ≤ k) (hz : ∀ z ∈ zs, 1 ≤ z ∧ z ≤ 10000) : Bare k (rowsOf k zs) := fun v hv => by
  obtain ⟨z, hm, rfl⟩ := List.mem_map.1 hv
  exact ⟨rfl, rowOf_lt k z hk (hz z hm).1⟩
theorem rowsOf_getD (k : Nat) (zs : List Int) (j : Nat) (h : j < zs.length) : (rowsOf k zs).getD j (0, []) = rowOf k (zs.getD j 0) := by
  unfold rowsOf
  rw [List.getD_eq_getElem?_getD, List.getElem?_map, List.getD_eq_getElem?_getD, List.getElem?_eq_getElem h]; rfl
theorem rowsOf_len (k : Nat) (zs : List Int) : (rowsOf k zs).length = zs.length := List.length_map _

theorem Fr.grown {b : Nat} {w w' : World} (h : Fr (fun j => j = b) w w') : w.grownBy w' (some b) := ⟨h.os, h.tape, h.output, h.size, fun k hk hne => h.block k hk (fun e => hne (by rw [e]))⟩
theorem Own.frB {w w' : World} {B b : Nat} {e : TypeId} {v : Value} {xs : List Value} (h : Own w B e v xs) (hf : Fr (fun j => j = b) w w') (hb : b < B) : Own w' B e v xs :=
  Own.grown h hf.grown fun g hg e => by
    injection e with e
    have := (Own.lt h g hg).1
    omega
theorem app_intF (wr : World) (B : Nat) {ops : Array Oper} {rest : List Oper} {o : Oper} {a : Act} {Q : Exit → Act → World → Prop}
    (hg : o.guard = none) (s x : Operand) (ho : o.op = .call { callee := .builtin .append, args := #[s, x], argTypes := #[23, 23] })
    (v : Value) (zs : List Int) (z : Int) (hs : a.eval s = v) (hown : OwnInts wr B v zs) (hx : a.eval x = .slice (some ⟨wr.heap.size, 0, none⟩) 1 1)
    (hn : zs.length < 1000000) (hB : B ≤ wr.heap.size)
    (K : ∀ v' w', OwnInts w' B v' (zs ++ [z]) → Fr (fun j => v.ownBlock = some j) wr w' → wpList Tryz.prog ops Q rest (a.put o.dst v') w') :
    wpList Tryz.prog ops Q (o :: rest) a (wr.alloc (.cells #[.int .i64 z] 3)) := by
  have hal : OwnInts (wr.alloc (.cells #[.int .i64 z] 3)) B v zs := Own.alloc hown _
  have hrow1 : RowAt (wr.alloc (.cells #[.int .i64 z] 3)) (some ⟨wr.heap.size, 0, none⟩) 1 1 (fun j => [Value.int .i64 z].getD j undef) := by
    refine ⟨Nat.le_refl _, by unfold maxLen; omega, fun _ => ⟨wr.heap.size, 0, rfl, fun j hj => ?_⟩⟩
    obtain rfl : j = 0 := by omega
    simp
  obtain ⟨v', w', hrun, h2, h3, _⟩ := run_app_many (P := Tryz.prog) (wr.alloc (.cells #[.int .i64 z] 3)) B 23 o.type 3 (.int .i64 0) 8 Tryz.underlying23 info_int rfl (by decide) v _ hal (some ⟨wr.heap.size, 0, none⟩) 1 1 [.int .i64 z] rfl
    hrow1 (fun u hu => by rw [List.mem_singleton.1 hu]; rfl) (by rw [List.length_map]; omega) (by simp; omega)
  refine wpList_plain hg fun K' hK => ?_
  unfold Oper.wp execOp
  simp only [ho, resolve, invoke, builtin, Sem.run_bind, Sem.run_pure, Result.andThen_ok, List.map_toArray, List.map_cons, List.map_nil, hs, hx, hrun]
  refine hK _ _ (K v' w' (by simpa [OwnInts] using h2) ⟨h3.os, h3.tape, h3.output, ?_, fun k hk hne => ?_⟩)
  · have := h3.size; simp at this; omega
  · rw [h3.block k (by simp; omega) (fun e => hne e.symm)]; exact heap_alloc_old wr _ hk

set_option maxRecDepth 100000 in
theorem nadd_any (p b k : Nat) (T : Nat → Option Vec) (a : Option Addr) (n cap : Nat) (zs : List Int) (w : World) (h : TabAt w p b k T) (hz : IntsAt w a n cap zs) (hk : k ≤ 16) (hT : TI 0 k T) (hv : bitsN zs < 2 ^ k) (hz2 : ∀ z ∈ zs, 0 ≤ z ∧ z < 16) :
    Calls Tryz.prog 75 #[.pointer (some ⟨p, 0, none⟩), .slice a n cap] w fun e w' => e = .returned (.bool (rsT k T (bitsN zs, []))) ∧ TabAt w' p b k (addT k T (bitsN zs, [])) ∧ Fr (fun j => j = b) w w' := by
  have h1 := bits_any a n cap zs w hz hz2
  have h2 := tadd_any p b k 0 T (bitsN zs, []) w h hk hT hv rfl (by omega)
  obtain ⟨B, hB⟩ : ∃ B, B = bitsN zs := ⟨_, rfl⟩
  rw [← hB] at h1 h2 ⊢
  have h3 : Calls Tryz.prog 105 #[.pointer (some ⟨p, 0, none⟩), .agg #[.int .u64 B, .string { data := #[] }]] w fun e w' => e = .returned (.tuple #[.bool (rsT k T (B, [])), .bool (mayT k T (B, []))]) ∧ TabAt w' p b k (addT k T (B, [])) ∧ Fr (fun j => j = b) w w' := h2
  obtain ⟨r1, hr1⟩ : ∃ r, r = rsT k T (B, []) := ⟨_, rfl⟩
  obtain ⟨r2, hr2⟩ : ∃ r, r = mayT k T (B, []) := ⟨_, rfl⟩
  rw [← hr1, ← hr2] at h3
  rw [← hr1]
  have H1 := Lib.hid h1; have H3 := Lib.hid h3
  clear h hz hT hv hz2 h1 h2 h3 hB hr1 hr2
  go_enter Tryz.func75, Tryz.ntmps75
  go_wp2_with (first
    | (go_at_call 106; refine H1.out.mono ?_; rintro e w' ⟨rfl, rfl⟩)
    | (go_at_call 105; refine H3.out.mono ?_; rintro e w' ⟨rfl, ht, hf⟩))
  go_ret
  exact ⟨rfl, ht, hf⟩

theorem tab_next {k : Nat} {zs : List Int} (j : Nat) (hj : j < zs.length) : addT k (tabT k ((rowsOf k zs).take j)) (rowOf k (zs.getD j 0)) = tabT k ((rowsOf k zs).take (j + 1)) := by
  rw [take_snocV _ j (by rw [rowsOf_len]; exact hj), tabT_snoc, rowsOf_getD k zs j hj]

def rankR (k : Int) (zs : List Int) : Nat := if rdyE k zs = 0 then rk k.toNat (rowsOf k.toNat zs) else 0
set_option maxHeartbeats 2000000 in
set_option maxRecDepth 100000 in
theorem srank_any (k : Int) (a : Option Addr) (n cap : Nat) (zs : List Int) (w : World) (h : IntsAt w a n cap zs) :
    Calls Tryz.prog 79 #[.int .i64 k, .slice a n cap] w fun e w' => e = .returned (.tuple #[.int .i64 (rankR k zs), errv (rdyE k zs)]) ∧ Lat w w' := by
  have hr := ready_any k a n cap zs w h
  by_cases h0 : rdyE k zs = 0
  · obtain ⟨h1, h2, h3, h4⟩ := rdyE_zero h0
    obtain ⟨f, rfl⟩ : ∃ f : Nat, k = f := ⟨k.toNat, by omega⟩
    have hR : rankR f zs = rk f (rowsOf f zs) := by unfold rankR; rw [if_pos h0, Int.toNat_natCast]
    rw [h0, errv_zero rfl] at hr ⊢
    rw [hR]
    have hl := h.len
    have hn60 : n ≤ 60 := by omega
    have hba := rowsOf_bare (k := f) (zs := zs) (by omega) h4
    have hti := fun j => (tab_st (k := f) (by omega) (hba.take j)).ti
    have hfin : rk f (rowsOf f zs) = rnkT (tabT f ((rowsOf f zs).take n)) f := by
      rw [List.take_of_length_le (by rw [rowsOf_len]; omega)]; rfl
    rw [hfin]
    have H := Lib.hid h; have HR := Lib.hid hr; have HZ := Lib.hid h4; have HTI := Lib.hid hti; have HL := Lib.hid hl; have HBA := Lib.hid hba
    have hf1 : 1 ≤ f := by omega
    have hf16 : f ≤ 16 := by omega
    clear h hr h0 h1 h2 h3 h4 hR hl hti hfin hba
    go_enter Tryz.func79, Tryz.ntmps79
    go_wp2_with (first
      | (go_at_call 73; refine HR.out.mono ?_; rintro e w' ⟨rfl, rfl⟩)
      | (go_at_call 74; refine (newTable_any f _).mono ?_; rintro e w1 ⟨⟨p, b, rfl, hp, hb, ht⟩, hb1⟩))
    have HP := Lib.hid hp; have HB := Lib.hid hb
    have hTab0 : TabAt w1 p b f (tabT f ((rowsOf f zs).take 0)) := ht
    have HT0 := Lib.hid hTab0; have HB1 := Lib.hid hb1
    clear hp hb ht hTab0 hb1
    go_loopw [9, 19] (fun _ i wr => ∃ j : Nat, j ≤ n ∧ i = .int .i64 j ∧ Hid (TabAt wr p b f (tabT f ((rowsOf f zs).take j)) ∧ Lat w wr)) (fun _ i _ => n - (intOf i).toNat)
    case atStart => exact ⟨0, Nat.zero_le _, rfl, HT0.out, HB1.out⟩
    case round =>
      obtain ⟨j, hj, rfl, hrel⟩ := hrel
      by_cases hlt : j < n
      · obtain ⟨htab, hlat⟩ := hrel.out
        obtain ⟨ab, ao, rfl, hc⟩ := (H.out.keep hlat).row.at_ (by omega)
        have c1 := hc j hlt
        have hm := HZ.out _ (getD_mem zs j (by rw [HL.out]; exact hlt))
        have hnx := tab_next (k := f) (zs := zs) j (by rw [HL.out]; exact hlt)
        obtain ⟨s, hs⟩ : ∃ s : Nat, zs.getD j 0 = (s : Int) := ⟨(zs.getD j 0).toNat, by omega⟩
        rw [hs] at c1 hm hnx
        have hrow : rowOf f (s : Int) = (bitsN (setZ f s), []) := by unfold rowOf; rw [Int.toNat_natCast]
        rw [hrow] at hnx
        have hs1 : 1 ≤ s := by omega
        have hs2 : s ≤ 10000 := by omega
        have hbl : bitsN (setZ f s) < 2 ^ f := by have := rowOf_lt f (s : Int) hf1 (by omega); rw [hrow] at this; exact this
        have hsz : ∀ z ∈ setZ f s, 0 ≤ z ∧ z < 16 := fun z hz => by have := setZ_lt f s hf1 hs1 z hz; omega
        have HTB := Lib.hid htab; have HLT := Lib.hid hlat; have HNX := Lib.hid hnx; have HBL := Lib.hid hbl; have HSZ := Lib.hid hsz
        clear hrel htab hlat hc hm hs hrow hnx hbl hsz
        go_wp2_with (first
          | (go_at_call 51; refine (dropOf_any f s _ hf1 hf16 hs1 hs2).mono ?_; rintro e w2 ⟨oa, oc, rfl, hoi, hb2⟩)
          | (go_at_call 106; refine (bits_any _ _ _ _ _ hoi HSZ.out).mono ?_; rintro e w' ⟨rfl, rfl⟩)
          | (go_at_call 105; refine (tadd_any p b f 0 _ (bitsN (setZ f s), []) _ (HTB.out.keep hb2) hf16 (HTI.out j) HBL.out rfl (by omega)).mono ?_; rintro e w3 ⟨rfl, ht3, hf3⟩))
        have hl3 : Lat w w3 := hf3.lat_of (Lat.trans HLT.out hb2) (fun i e => by rw [e]; exact HB.out)
        rw [HNX.out] at ht3
        have HT3 := Lib.hid ht3; have HL3 := Lib.hid hl3
        clear ht3 hf3 hl3 hoi hb2
        go_roundw
        case rel => exact ⟨j + 1, by omega, by go_num, HT3.out, HL3.out⟩
        case measure => simp [intOf]; omega
      · obtain rfl : j = n := by omega
        obtain ⟨htab, hlat⟩ := hrel.out
        have HTB := Lib.hid htab; have HLT := Lib.hid hlat
        clear hrel htab hlat
        go_wp2_with (go_at_call 107; refine (rank_tab p b f _ _ HTB.out).mono ?_; rintro e w' ⟨rfl, rfl⟩)
        go_ret2
        exact ⟨rfl, HLT.out⟩
  · have hR : rankR k zs = 0 := by unfold rankR; rw [if_neg h0]
    rw [hR]
    rw [errv_pos h0] at hr ⊢
    have HR := Lib.hid hr
    clear h hr h0 hR
    go_enter Tryz.func79, Tryz.ntmps79
    go_wp2_with (go_at_call 73; refine HR.out.mono ?_; rintro e w' ⟨rfl, rfl⟩)
    go_ret2
    exact ⟨rfl, Lat.refl _⟩
end Go.Proofs.YtheimfdbadjpoaaGreatDoor

namespace Go.Proofs.YtheimfdbadjpoaaGreatDoor
open Go.ChangeShapes Go.WideShapes Go.ChangeAt Go.RowKit

def ofNats (l : List Nat) : List Int := l.map Int.ofNat
theorem ofNats_snoc (l : List Nat) (i : Nat) : ofNats (l ++ [i]) = ofNats l ++ [(i : Int)] := by unfold ofNats; rw [List.map_append]; rfl
def firstR (k : Int) (zs : List Int) : Nat := if rdyE k zs = 0 then fstN k.toNat (rowsOf k.toNat zs) else 0
def firstE (k : Int) (zs : List Int) : Nat := if rdyE k zs ≠ 0 then rdyE k zs else if fstN k.toNat (rowsOf k.toNat zs) = 0 then 8 else 0

def newR (k : Int) (zs : List Int) : List Int := if rdyE k zs = 0 then ofNats (newL k.toNat (rowsOf k.toNat zs) zs.length) else []
theorem newL_lt (k : Nat) (L : List Vec) : ∀ i, ∀ j ∈ newL k L i, j < i
  | 0, j, h => by cases h
  | i + 1, j, h => by
    unfold newL at h
    split at h
    · rcases List.mem_append.1 h with h | h
      · have := newL_lt k L i j h; omega
      · have := List.mem_singleton.1 h; omega
    · have := newL_lt k L i j h; omega
theorem newL_le (k : Nat) (L : List Vec) : ∀ i, (newL k L i).length ≤ i
  | 0 => Nat.le_refl _
  | i + 1 => by
    have ih := newL_le k L i
    unfold newL
    split
    · rw [List.length_append, List.length_singleton]; omega
    · omega
theorem lackL_le (k : Nat) (L : List Vec) : ∀ i, (lackL k L i).length ≤ i
  | 0 => Nat.le_refl _
  | i + 1 => by
    have ih := lackL_le k L i
    unfold lackL
    split
    · rw [List.length_append, List.length_singleton]; omega
    · omega
theorem own_ints_at {w : World} {B : Nat} {v : Value} {l : List Nat} (h : OwnInts w B v (ofNats l)) (hl : ∀ i ∈ l, i < 1000) : ∃ a c, v = .slice a l.length c ∧ IntsAt w a l.length c (ofNats l) :=
  OwnInts.sliceN h (fun z hz => by
    obtain ⟨i, hi, rfl⟩ := List.mem_map.1 hz
    have := hl i hi
    show -9223372036854775808 ≤ (i : Int) ∧ (i : Int) ≤ 9223372036854775807
    omega) (by unfold ofNats; rw [List.length_map])

end Go.Proofs.YtheimfdbadjpoaaGreatDoor

namespace Go.Proofs.YtheimfdbadjpoaaGreatDoor
open Go.ChangeShapes Go.WideShapes Go.ChangeAt Go.RowKit

def lackR (k : Int) (zs : List Int) : List Int := if rdyE k zs = 0 then ofNats (lackL k.toNat (rowsOf k.toNat zs) k.toNat) else []
theorem bits_one (i : Nat) : (bitsN [(i : Int)], ([] : List UInt8)) = unit i := by
  unfold unit bitsN
  show (0 ||| bitP i, []) = _
  rw [Nat.zero_or]; rfl

set_option maxHeartbeats 2000000 in
set_option maxRecDepth 100000 in
theorem lacks_own (k : Int) (a : Option Addr) (n cap : Nat) (zs : List Int) (w : World) (h : IntsAt w a n cap zs) :
    Calls Tryz.prog 27 #[.int .i64 k, .slice a n cap] w fun e w' => (∃ b c, e = .returned (.tuple #[.slice b (lackR k zs).length c, errv (rdyE k zs)]) ∧ OwnInts w' w.heap.size (.slice b (lackR k zs).length c) (lackR k zs)) ∧ Lat w w' := by
  have hr := ready_any k a n cap zs w h
  by_cases h0 : rdyE k zs = 0
  · obtain ⟨h1, h2, h3, h4⟩ := rdyE_zero h0
    obtain ⟨f, rfl⟩ : ∃ f : Nat, k = f := ⟨k.toNat, by omega⟩
    have hR : lackR f zs = ofNats (lackL f (rowsOf f zs) f) := by unfold lackR; rw [if_pos h0, Int.toNat_natCast]
    rw [h0, errv_zero rfl] at hr ⊢
    rw [hR]
    have hl := h.len
    have hn60 : n ≤ 60 := by omega
    have hba := rowsOf_bare (k := f) (zs := zs) (by omega) h4
    have hti := fun j => (tab_st (k := f) (by omega) (hba.take j)).ti
    have hti2 := fun i (hi : i ≤ f) => (tab_st (k := f) (by omega) (hba.append (bare_range hi))).ti
    have H := Lib.hid h; have HR := Lib.hid hr; have HZ := Lib.hid h4; have HTI := Lib.hid hti; have HL := Lib.hid hl; have HTI2 := Lib.hid hti2
    have hf1 : 1 ≤ f := by omega
    have hf16 : f ≤ 16 := by omega
    clear h hr h0 h1 h2 h3 h4 hR hl hti hti2 hba
    go_enter Tryz.func27, Tryz.ntmps27
    go_wp2_with (first
      | (go_at_call 73; refine HR.out.mono ?_; rintro e w' ⟨rfl, rfl⟩)
      | (go_at_call 74; refine (newTable_any f _).mono ?_; rintro e w1 ⟨⟨p, b, rfl, hp, hb, ht⟩, hb1⟩))
    have HB := Lib.hid hb
    have hTab0 : TabAt w1 p b f (tabT f ((rowsOf f zs).take 0)) := ht
    have HT0 := Lib.hid hTab0; have HB1 := Lib.hid hb1; have HLTB := Lib.hid ht.lt
    clear hp hb ht hTab0 hb1
    go_loopw [9, 21] (fun _ i wr => ∃ j : Nat, j ≤ n ∧ i = .int .i64 j ∧ Hid (w1.heap.size ≤ wr.heap.size ∧ TabAt wr p b f (tabT f ((rowsOf f zs).take j)) ∧ Lat w wr)) (fun _ i _ => n - (intOf i).toNat)
    case atStart => exact ⟨0, Nat.zero_le _, rfl, Nat.le_refl _, HT0.out, HB1.out⟩
    case round =>
      obtain ⟨j, hj, rfl, hrel⟩ := hrel
      by_cases hlt : j < n
      · obtain ⟨hsz1, htab, hlat⟩ := hrel.out
        obtain ⟨ab, ao, rfl, hc⟩ := (H.out.keep hlat).row.at_ (by omega)
        have c1 := hc j hlt
        have hm := HZ.out _ (getD_mem zs j (by rw [HL.out]; exact hlt))
        have hnx := tab_next (k := f) (zs := zs) j (by rw [HL.out]; exact hlt)
        obtain ⟨s, hs⟩ : ∃ s : Nat, zs.getD j 0 = (s : Int) := ⟨(zs.getD j 0).toNat, by omega⟩
        rw [hs] at c1 hm hnx
        have hrow : rowOf f (s : Int) = (bitsN (setZ f s), []) := by unfold rowOf; rw [Int.toNat_natCast]
        rw [hrow] at hnx
        have hs1 : 1 ≤ s := by omega
        have hs2 : s ≤ 10000 := by omega
        have hbl : bitsN (setZ f s) < 2 ^ f := by have := rowOf_lt f (s : Int) hf1 (by omega); rw [hrow] at this; exact this
        have hsz : ∀ z ∈ setZ f s, 0 ≤ z ∧ z < 16 := fun z hz => by have := setZ_lt f s hf1 hs1 z hz; omega
        have HTB := Lib.hid htab; have HLT := Lib.hid hlat; have HNX := Lib.hid hnx; have HBL := Lib.hid hbl; have HSZ := Lib.hid hsz; have HS1 := Lib.hid hsz1
        clear hrel hsz1 htab hlat hc hm hs hrow hnx hbl hsz
        go_wp2_with (first
          | (go_at_call 51; refine (dropOf_any f s _ hf1 hf16 hs1 hs2).mono ?_; rintro e w2 ⟨oa, oc, rfl, hoi, hb2⟩)
          | (go_at_call 75; refine (nadd_any p b f _ _ _ _ _ _ (HTB.out.keep hb2) hoi hf16 (HTI.out j) HBL.out HSZ.out).mono ?_; rintro e w3 ⟨rfl, ht3, hf3⟩; rw [HNX.out] at ht3))
        have hl3 : Lat w w3 := hf3.lat_of (Lat.trans HLT.out hb2) (fun i e => by rw [e]; exact HB.out)
        have HT3 := Lib.hid ht3; have HL3 := Lib.hid hl3; have HS3 := Lib.hid (Nat.le_trans HS1.out (Nat.le_trans hb2.size hf3.size))
        clear ht3 hf3 hl3 hoi hb2
        go_roundw
        case rel => exact ⟨j + 1, by omega, by go_num, HS3.out, HT3.out, HL3.out⟩
        case measure => simp [intOf]; omega
      · obtain rfl : j = n := by omega
        obtain ⟨hsz1, htab, hlat⟩ := hrel.out
        have hall : (rowsOf f zs).take j = rowsOf f zs := List.take_of_length_le (by rw [rowsOf_len, HL.out]; exact Nat.le_refl _)
        rw [hall] at htab
        have htab2 : TabAt wr p b f (tabT f (rowsOf f zs ++ (List.range 0).map unit)) := by simpa using htab
        have HTB := Lib.hid htab2; have HLT := Lib.hid hlat; have HS1 := Lib.hid hsz1
        clear hrel hsz1 htab hlat hall htab2
        obtain ⟨wo, hwo⟩ : ∃ wo : World, wo = wr := ⟨_, rfl⟩
        subst hwo
        go_wp2
        go_loopw [10, 11, 32] (fun out _ i wr => ∃ j : Nat, j ≤ f ∧ i = .int .i64 j ∧ Hid (OwnInts wr w1.heap.size out (ofNats (lackL f (rowsOf f zs) j)) ∧ w1.heap.size ≤ wr.heap.size ∧ TabAt wr p b f (tabT f (rowsOf f zs ++ (List.range j).map unit)) ∧ Lat w wr)) (fun _ _ i _ => f - (intOf i).toNat)
        case atStart => exact ⟨0, Nat.zero_le _, rfl, Own.nil _ _ _, HS1.out, HTB.out, HLT.out⟩
        case round =>
          obtain ⟨q, hq, rfl, hrel⟩ := hrel
          by_cases hqf : q < f
          · obtain ⟨hout, hsz1, htab, hlat⟩ := hrel.out
            have hone : IntsAt (wr.alloc (.cells #[.int .i64 q] 3)) (some ⟨wr.heap.size, 0, none⟩) 1 1 [(q : Int)] := by
              have := ints_new wr [(q : Int)] 3 (by simp) (by intro z hz; rw [List.mem_singleton] at hz; subst hz; omega)
              simpa using this
            have hbl : bitsN [(q : Int)] < 2 ^ f := by
              have h2 := unit_lt (k := f) hqf
              rw [← bits_one] at h2; exact h2
            have hcall := nadd_any p b f _ _ 1 1 [(q : Int)] _ (htab.keep (Lat.alloc wr (.cells #[.int .i64 q] 3))) hone hf16 (HTI2.out q hq) hbl (fun z hz => by rw [List.mem_singleton.1 hz]; omega)
            rw [bits_one] at hcall
            have hnx : addT f (tabT f (rowsOf f zs ++ (List.range q).map unit)) (unit q) = tabT f (rowsOf f zs ++ (List.range (q + 1)).map unit) := by rw [← tabT_snoc, units_snoc, List.append_assoc]
            have hst : lackL f (rowsOf f zs) (q + 1) = if rsT f (tabT f (rowsOf f zs ++ (List.range q).map unit)) (unit q) = true then lackL f (rowsOf f zs) q ++ [q] else lackL f (rowsOf f zs) q := rfl
            obtain ⟨rs, hrs⟩ : ∃ r, r = rsT f (tabT f (rowsOf f zs ++ (List.range q).map unit)) (unit q) := ⟨_, rfl⟩
            rw [hnx, ← hrs] at hcall
            rw [← hrs] at hst
            have hnl : (ofNats (lackL f (rowsOf f zs) q)).length < 1000000 := by unfold ofNats; rw [List.length_map]; have := lackL_le f (rowsOf f zs) q; omega
            have HOUT := Lib.hid hout; have HS1 := Lib.hid hsz1; have HLT := Lib.hid hlat; have HST := Lib.hid hst; have HCALL := Lib.hid hcall; have HNL := Lib.hid hnl
            clear hrel hout hsz1 htab hlat hone hbl hcall hnx hst hrs hnl
            cases rs with
            | true =>
              go_wp2_with (first
                | (go_at_call 75; refine HCALL.out.mono ?_; rintro e w3 ⟨rfl, ht3, hf3⟩)
                | (at_builtin; refine app_intF w3 w1.heap.size rfl (.tmp 39) (.tmp 41) rfl u10 _ (q : Int) rfl ((HOUT.out.keep (Lat.alloc _ _)).frB hf3 HLTB.out.2) rfl HNL.out (Nat.le_trans HS1.out (Nat.le_trans (Lat.alloc _ _).size hf3.size)) ?_; intro v' w4 hown' hf4))
              have hl3 : Lat w w3 := hf3.lat_of (Lat.trans HLT.out (Lat.alloc _ _)) (fun i e => by rw [e]; exact HB.out)
              have hob : ∀ i, u10.ownBlock = some i → w1.heap.size ≤ i := fun i e => (Own.lt HOUT.out i e).1
              have hl4 : Lat w w4 := hf4.lat_of hl3 (fun i e => Nat.le_trans HB1.out.size (hob i e))
              have ht4 := ht3.fr hf4 (fun e => by have := hob p e; have := HLTB.out.1; omega) (fun e => by have := hob b e; have := HLTB.out.2; omega)
              have ho4 : OwnInts w4 w1.heap.size v' (ofNats (lackL f (rowsOf f zs) (q + 1))) := by rw [HST.out, if_pos (by simp), ofNats_snoc]; exact hown'
              have hs4 : w1.heap.size ≤ w4.heap.size := Nat.le_trans HS1.out (Nat.le_trans (Lat.alloc wr (.cells #[.int .i64 q] 3)).size (Nat.le_trans hf3.size hf4.size))
              have HO4 := Lib.hid ho4; have HT4 := Lib.hid ht4; have HL4 := Lib.hid hl4; have HS4 := Lib.hid hs4
              clear ht3 hf3 hl3 hob hl4 ht4 ho4 hs4 hown' hf4
              go_wp2
              go_roundw
              case rel => exact ⟨q + 1, by omega, by go_num, HO4.out, HS4.out, HT4.out, HL4.out⟩
              case measure => simp [intOf]; omega
            | false =>
              go_wp2_with (go_at_call 75; refine HCALL.out.mono ?_; rintro e w3 ⟨rfl, ht3, hf3⟩)
              have hl3 : Lat w w3 := hf3.lat_of (Lat.trans HLT.out (Lat.alloc _ _)) (fun i e => by rw [e]; exact HB.out)
              have ho4 : OwnInts w3 w1.heap.size u10 (ofNats (lackL f (rowsOf f zs) (q + 1))) := by rw [HST.out, if_neg (by simp)]; exact (HOUT.out.keep (Lat.alloc _ _)).frB hf3 HLTB.out.2
              have hs4 : w1.heap.size ≤ w3.heap.size := Nat.le_trans HS1.out (Nat.le_trans (Lat.alloc wr (.cells #[.int .i64 q] 3)).size hf3.size)
              have HO4 := Lib.hid ho4; have HT4 := Lib.hid ht3; have HL4 := Lib.hid hl3; have HS4 := Lib.hid hs4
              clear ht3 hf3 hl3 ho4 hs4
              go_wp2
              go_roundw
              case rel => exact ⟨q + 1, by omega, by go_num, HO4.out, HS4.out, HT4.out, HL4.out⟩
              case measure => simp [intOf]; omega
          · obtain rfl : q = f := by omega
            obtain ⟨hout, hsz1, htab, hlat⟩ := hrel.out
            obtain ⟨oa, oc, hv, hat⟩ := own_ints_at hout (fun i hi => by have := lackL_lt _ _ _ i hi; omega)
            subst hv
            have hln : (ofNats (lackL q (rowsOf q zs) q)).length = (lackL q (rowsOf q zs) q).length := List.length_map _
            have HAT := Lib.hid (hout.mono HB1.out.size); have HLT := Lib.hid hlat; have HLN := Lib.hid hln
            clear hrel hout hsz1 htab hlat hat hln
            go_wp2
            go_ret2
            rw [HLN.out]
            exact ⟨⟨_, _, rfl, HAT.out⟩, HLT.out⟩
  · have hR : lackR k zs = [] := by unfold lackR; rw [if_neg h0]
    rw [hR]
    rw [errv_pos h0] at hr ⊢
    have HR := Lib.hid hr
    clear h hr h0 hR
    go_enter Tryz.func27, Tryz.ntmps27
    go_wp2_with (go_at_call 73; refine HR.out.mono ?_; rintro e w' ⟨rfl, rfl⟩)
    go_ret2
    exact ⟨⟨none, 0, rfl, Own.nil _ _ _⟩, Lat.refl _⟩
theorem lackR_wf (k : Int) (zs : List Int) : ∀ z ∈ lackR k zs, -9223372036854775808 ≤ z ∧ z ≤ 9223372036854775807 := by
  intro z hz
  unfold lackR at hz
  split at hz
  · rename_i h0
    obtain ⟨-, h1, h2, -⟩ := rdyE_zero h0
    obtain ⟨i, hi, rfl⟩ := List.mem_map.1 hz
    have := lackL_lt _ _ _ i hi
    show -9223372036854775808 ≤ (i : Int) ∧ (i : Int) ≤ 9223372036854775807
    omega
  · cases hz
theorem own_lacks {w : World} {B : Nat} {a : Option Addr} {c : Nat} {k : Int} {zs : List Int} (h : OwnInts w B (.slice a (lackR k zs).length c) (lackR k zs)) : IntsAt w a (lackR k zs).length c (lackR k zs) := by
  obtain ⟨a', c', e, hi⟩ := OwnInts.sliceN h (lackR_wf k zs) rfl
  injection e with e1 _ e3
  subst e1; subst e3
  exact hi
theorem lacks_any (k : Int) (a : Option Addr) (n cap : Nat) (zs : List Int) (w : World) (h : IntsAt w a n cap zs) :
    Calls Tryz.prog 27 #[.int .i64 k, .slice a n cap] w fun e w' => (∃ b m c, e = .returned (.tuple #[.slice b m c, errv (rdyE k zs)]) ∧ IntsAt w' b m c (lackR k zs)) ∧ Lat w w' :=
  (lacks_own k a n cap zs w h).mono fun _ _ ⟨⟨b, c, he, ho⟩, hl⟩ => ⟨⟨b, _, c, he, own_lacks ho⟩, hl⟩
end Go.Proofs.YtheimfdbadjpoaaGreatDoor

namespace Go.Proofs.YtheimfdbadjpoaaGreatDoor
open Go.ChangeShapes Go.WideShapes Go.ChangeAt Go.RowKit

def rowD (k : Nat) (d : Dr) : Vec := (bitsN (setZ k d.s.toNat), d.t.data.toList)
def rowsD (k : Nat) (ds : List Dr) : List Vec := ds.map (rowD k)
def slvC (k : Nat) (L : List Vec) : Nat → Nat → Bool
  | 0, _ => false
  | f + 1, j => if mayT k (tabT k (L.take j)) (L.getD j (0, [])) = true then slvC k L f (j + 1) else true
def SolveEnd (w w' : World) (e : Ending) (C : Bool) (R k : Nat) (o : Nat → List UInt8) : Prop :=
  Lat w w' ∧ ((C = true ∧ e = .returned (.tuple #[.slice none 0 0, eno 7])) ∨ (C = false ∧ R < k ∧ e = .returned (.tuple #[.slice none 0 0, eno 8])) ∨
    (C = false ∧ R = k ∧ ∃ g, e = .returned (.tuple #[.slice (some ⟨g, 0, none⟩) k k, .nilIface]) ∧ Blk w' g k (fun j => .string (S (o j)))))
theorem rowsD_getD (k : Nat) (ds : List Dr) (j : Nat) (d : Dr) (h : ds[j]? = some d) : (rowsD k ds).getD j (0, []) = rowD k d := by
  unfold rowsD
  rw [List.getD_eq_getElem?_getD, List.getElem?_map, h]; rfl
theorem take_snocD (L : List Vec) (i : Nat) (h : i < L.length) : L.take (i + 1) = L.take i ++ [L.getD i (0, [])] := by
  rw [List.take_succ_eq_append_getElem h, List.getD_eq_getElem?_getD, List.getElem?_eq_getElem h]; rfl

set_option maxHeartbeats 4000000 in
set_option maxRecDepth 100000 in
theorem solve_valid (k m : Nat) (a : Option Addr) (n cap : Nat) (ds : List Dr) (w : World) (h : DropsAt w a n cap ds) (hn : n ≤ 60) (hk1 : 1 ≤ k) (hk : k ≤ 16) (hm1 : 1 ≤ m) (hm8 : m ≤ 8) (hd : ∀ d ∈ ds, drpE k m d.s d.t = 0) :
    Calls Tryz.prog 57 #[.int .i64 k, .int .i64 m, .slice a n cap] w fun e w' => SolveEnd w w' e (slvC k (rowsD k ds) n 0) (rnkT (tabT k (rowsD k ds)) k) k (outF (tabT k (rowsD k ds)) k k) := by
  have hl := h.len
  have hcm := h.rows.cap
  have hle := h.rows.le
  unfold maxLen at hcm
  obtain ⟨C, hC⟩ : ∃ C, C = slvC k (rowsD k ds) n 0 := ⟨_, rfl⟩
  obtain ⟨R, hR⟩ : ∃ R, R = rnkT (tabT k (rowsD k ds)) k := ⟨_, rfl⟩
  obtain ⟨O, hO⟩ : ∃ O, O = outF (tabT k (rowsD k ds)) k k := ⟨_, rfl⟩
  rw [← hC, ← hR, ← hO]
  have d60 : decide ((60 : Int) < (n : Int)) = false := decide_eq_false (by omega)
  have hget : ∀ j, j < n → ∃ d, ds[j]? = some d ∧ d ∈ ds := fun j hj => ⟨ds[j], List.getElem?_eq_getElem (by omega), List.getElem_mem (by omega)⟩
  have H := Lib.hid h; have HD := Lib.hid hd; have HL := Lib.hid hl; have HC := Lib.hid hC; have HR := Lib.hid hR; have HO := Lib.hid hO; have HGET := Lib.hid hget
  clear h hd hl hC hR hO hget
  go_enter Tryz.func57, Tryz.ntmps57
  go_wp2_with (first
    | (go_at_call 64; refine (dblocks_yes k _ (by omega) (by omega)).mono ?_; rintro e w' ⟨rfl, rfl⟩)
    | (go_at_call 44; refine (size_yes m _ (by omega) (by omega)).mono ?_; rintro e w' ⟨rfl, rfl⟩))
  go_loopw [9, 10, 33] (fun _ _ i wr => ∃ j : Nat, j ≤ n ∧ i = .int .i64 j ∧ Hid (Lat w wr)) (fun _ _ i _ => n - (intOf i).toNat)
  case atStart => exact ⟨0, Nat.zero_le _, rfl, Lat.refl _⟩
  case round =>
    obtain ⟨j, hj, rfl, hrel⟩ := hrel
    by_cases hlt : j < n
    · obtain ⟨d, hdj, hdm⟩ := HGET.out j hlt
      obtain ⟨ab, ao, rfl, hc⟩ := (H.out.keep hrel.out).at_ (by omega)
      obtain ⟨c0, c1⟩ := hc j d hdj
      have he := HD.out d hdm
      obtain ⟨s, t⟩ := d
      have kc := fun W => dchk_tells k m s t W
      rw [he, errv_zero rfl] at kc
      have KC := Lib.hid kc; have HLA := Lib.hid hrel.out
      clear hc hdj hdm he kc hrel
      go_wp2_with (go_at_call 52; refine (KC.out _).mono ?_; rintro e w5 ⟨rfl, hb5⟩)
      have HL5 := Lib.hid (Lat.trans (Lat.trans HLA.out (Lat.alloc _ _)) hb5)
      clear hb5
      go_roundw
      case rel => exact ⟨j + 1, by omega, by go_num, HL5.out⟩
      case measure => simp [intOf]; omega
    · have HLA := Lib.hid hrel.out
      clear hrel
      obtain ⟨wo, hwo⟩ : ∃ wo : World, wo = wr := ⟨_, rfl⟩
      subst hwo
      go_wp2_with (go_at_call 74; refine (newTable_any k _).mono ?_; rintro e w1 ⟨⟨p, b, rfl, hp, hb, ht⟩, hb1⟩)
      have HB : Hid (w.heap.size ≤ b) := Nat.le_trans HLA.out.size hb
      have hst0 : St m k (tabT k ((rowsD k ds).take 0)) ((rowsD k ds).take 0) := by rw [List.take_zero]; exact St.nil m k
      have HT0 : Hid (TabAt w1 p b k (tabT k ((rowsD k ds).take 0))) := ht
      have HB1 := Lib.hid (Lat.trans HLA.out hb1); have HS0 := Lib.hid hst0
      clear hp hb ht hb1 hst0
      go_loopw [13, 14, 15, 48] (fun _ _ _ i wr => ∃ j : Nat, j ≤ n ∧ i = .int .i64 j ∧ Hid (slvC k (rowsD k ds) (n - j) j = C ∧ St m k (tabT k ((rowsD k ds).take j)) ((rowsD k ds).take j) ∧ TabAt wr p b k (tabT k ((rowsD k ds).take j)) ∧ Lat w wr)) (fun _ _ _ i _ => n - (intOf i).toNat)
      case atStart => exact ⟨0, Nat.zero_le _, rfl, HC.out.symm, HS0.out, HT0.out, HB1.out⟩
      case round =>
        obtain ⟨j, hj, rfl, hrel⟩ := hrel
        obtain ⟨hsc, hst, htab, hlat⟩ := hrel.out
        by_cases hlt : j < n
        · obtain ⟨d, hdj, hdm⟩ := HGET.out j hlt
          obtain ⟨ab, ao, rfl, hc⟩ := (H.out.keep hlat).at_ (by omega)
          obtain ⟨c0, c1⟩ := hc j d hdj
          have he := drpE_zero (HD.out d hdm)
          have hrow := rowsD_getD k ds j d hdj
          have hnx := take_snocD (rowsD k ds) j (by unfold rowsD; rw [List.length_map, HL.out]; exact hlt)
          have hsc2 : (if mayT k (tabT k ((rowsD k ds).take j)) ((rowsD k ds).getD j (0, [])) = true then slvC k (rowsD k ds) (n - (j + 1)) (j + 1) else true) = C := by
            rw [← hsc, show n - j = (n - (j + 1)) + 1 by omega]; rfl
          obtain ⟨s, t⟩ := d
          obtain ⟨sn, rfl⟩ : ∃ sn : Nat, s = sn := ⟨s.toNat, by have h5 : (1 : Int) ≤ s := he.2.2.2.2.1; omega⟩
          have hs1 : 1 ≤ sn := by have h5 : (1 : Int) ≤ (sn : Int) := he.2.2.2.2.1; omega
          have hs2 : sn ≤ 10000 := by have h5 : (sn : Int) ≤ 10000 := he.2.2.2.2.2.1; omega
          have htm : t.size = m := by have h5 : (t.size : Int) = (m : Int) := he.2.2.2.2.2.2; omega
          obtain ⟨tl, rfl⟩ := S_of t
          have hrd : rowD k ⟨(sn : Int), S tl⟩ = (bitsN (setZ k sn), tl) := by unfold rowD; simp only [Int.toNat_natCast]
          rw [hrd] at hrow
          rw [hrow] at hnx hsc2
          have hsz : ∀ z ∈ setZ k sn, 0 ≤ z ∧ z < 16 := fun z hz => by have := setZ_lt k sn hk1 hs1 z hz; omega
          have hbl : bitsN (setZ k sn) < 2 ^ k := bitsTo_lt _ k (setZ_lt k sn hk1 hs1) _ (Nat.le_refl _)
          have htl : tl.length = m := htm
          have hadd := fun W (hW : TabAt W p b k (tabT k ((rowsD k ds).take j))) => tadd_any p b k m _ (bitsN (setZ k sn), tl) W hW hk hst.ti hbl htl hm8
          have hmy : mayT k (tabT k ((rowsD k ds).take j)) (bitsN (setZ k sn), tl) = true → St m k (tabT k ((rowsD k ds).take (j + 1))) ((rowsD k ds).take (j + 1)) := fun hmt => by
            rw [hnx, tabT_snoc]
            refine hst.addT (by omega) htl hbl (fun h0 => ?_)
            unfold mayT at hmt
            by_cases h2 : (leftTo (tabT k ((rowsD k ds).take j)) (bitsN (setZ k sn), tl) k).2 = noughts m
            · exact h2
            · exfalso
              rw [decide_eq_true ⟨h0, by show _ ≠ noughts tl.length; rw [htl]; exact h2⟩] at hmt
              cases hmt
          have htn : addT k (tabT k ((rowsD k ds).take j)) (bitsN (setZ k sn), tl) = tabT k ((rowsD k ds).take (j + 1)) := by rw [hnx, tabT_snoc]
          obtain ⟨my, hmyd⟩ : ∃ my, my = mayT k (tabT k ((rowsD k ds).take j)) (bitsN (setZ k sn), tl) := ⟨_, rfl⟩
          obtain ⟨rs, hrs⟩ : ∃ rs, rs = rsT k (tabT k ((rowsD k ds).take j)) (bitsN (setZ k sn), tl) := ⟨_, rfl⟩
          simp only [← hmyd, ← hrs, htn] at hadd
          rw [← hmyd] at hsc2 hmy
          have HTB := Lib.hid htab; have HLT := Lib.hid hlat; have HSZ := Lib.hid hsz; have HADD := Lib.hid hadd; have HMY := Lib.hid hmy; have HSC := Lib.hid hsc2
          clear hrel hsc hst htab hlat hc hdj hdm he hrow hnx hsc2 hrd hsz hbl htl htm hadd hmy htn hmyd hrs
          go_upto_region 16 with fail
          obtain ⟨X, hX⟩ : ∃ X, X = wr.heap.size := ⟨_, rfl⟩
          obtain ⟨W0, hW0⟩ : ∃ W, W = wr.alloc (.cells #[.int .i64 sn, .string (S tl)] 43) := ⟨_, rfl⟩
          have hl0 : Lat wr W0 := by rw [hW0]; exact Lat.alloc _ _
          have e0 : W0.cell? ⟨X, 0, none⟩ = some (.int .i64 sn) := by rw [hW0, hX, World.cell?_alloc_at _ _ _ _ rfl]; rfl
          have e1 : W0.cell? ⟨X, 1, none⟩ = some (.string (S tl)) := by rw [hW0, hX, World.cell?_alloc_at _ _ _ _ rfl]; rfl
          have hbX : b ≠ X := by have := HTB.out.lt.2; omega
          rw [← hW0, ← hX]
          clear hW0 hX c0 c1
          have hF : W0.drew.cell? ⟨X, 0, none⟩ = some (.int .i64 sn) ∧ W0.drew.cell? ⟨X, 1, none⟩ = some (.string (S tl)) := ⟨e0, e1⟩
          have hL0 : Lat wr W0.drew := Lat.trans hl0 (Lat.drew W0)
          refine wp_region_gate (fun w' => w'.cell? ⟨X, 0, none⟩ = some (.int .i64 sn) ∧ w'.cell? ⟨X, 1, none⟩ = some (.string (S tl))) (fun _ => True) 1000 (by kernel_rfl) ?_
          obtain ⟨w0, hw0⟩ : ∃ x, x = W0.drew := ⟨_, rfl⟩
          rw [← hw0] at hF hL0 ⊢
          clear hw0 e0 e1 hl0
          refine gate_takeF (i := 0) (v := ?_) rfl (by kernel_rfl) (by kernel_rfl) (by kernel_rfl) (fun _ _ _ h => h) (by decide) ⟨hF, fun _ => trivial⟩ (Or.inl ⟨by rfl, ?_⟩) ?_
          rotate_left
          · intro wq hSw; obtain ⟨s0, s1⟩ := hSw; go_simp; rfl
          simp only [Act.put]
          refine gate_takeF (i := 1) (v := ?_) rfl (by kernel_rfl) (by kernel_rfl) (by kernel_rfl) (fun _ _ _ h => h) (by decide) ⟨hF, fun _ => trivial⟩ (Or.inl ⟨by rfl, ?_⟩) ?_
          rotate_left
          · intro wq hSw; obtain ⟨s0, s1⟩ := hSw; go_simp; rfl
          simp only [Act.put]
          refine gate_takeF (i := 2) (v := ?_) rfl (by kernel_rfl) (by kernel_rfl) (by kernel_rfl) (fun _ _ _ h => h) (by decide) ⟨hF, fun _ => trivial⟩ (Or.inl ⟨by rfl, ?_⟩) ?_
          rotate_left
          · intro wq hSw; obtain ⟨s0, s1⟩ := hSw; go_simp; rfl
          simp only [Act.put]
          refine gate_takeF (i := 3) (v := ?_) rfl (by kernel_rfl) (by kernel_rfl) (by kernel_rfl) (fun _ _ _ h => h) (by decide) ⟨hF, fun _ => trivial⟩ (Or.inl ⟨by rfl, ?_⟩) ?_
          rotate_left
          · intro wq hSw; obtain ⟨s0, s1⟩ := hSw; go_simp; rfl
          simp only [Act.put]
          refine gate_takeF (i := 6) (v := ?_) rfl (by kernel_rfl) (by kernel_rfl) (by kernel_rfl) (fun _ _ _ h => h) (by decide) ⟨hF, fun _ => trivial⟩ (Or.inl ⟨by rfl, ?_⟩) ?_
          rotate_left
          · intro wq hSw; obtain ⟨s0, s1⟩ := hSw; go_simp; rfl
          simp only [Act.put]
          refine gate_takeF (i := 7) (v := ?_) rfl (by kernel_rfl) (by kernel_rfl) (by kernel_rfl) (fun _ _ _ h => h) (by decide) ⟨hF, fun _ => trivial⟩ (Or.inl ⟨by rfl, ?_⟩) ?_
          rotate_left
          · intro wq hSw; obtain ⟨s0, s1⟩ := hSw; go_simp; rfl
          simp only [Act.put]
          refine gate_one (i := 4) (by kernel_rfl) rfl (fun K hK => ?_)
          go_simp
          refine (dropOf_any k sn _ hk1 hk hs1 hs2).mono ?_
          rintro e w2 ⟨oa, oc, rfl, hoi, hb2⟩
          have hF2 : w2.cell? ⟨X, 0, none⟩ = some (.int .i64 sn) ∧ w2.cell? ⟨X, 1, none⟩ = some (.string (S tl)) := ⟨hb2.cell_at hF.1, hb2.cell_at hF.2⟩
          have hL2 : Lat wr w2 := Lat.trans hL0 hb2
          refine hK _ _ ⟨hF2, fun _ => trivial⟩ ?_
          clear hK K hF hb2 hL0
          have hF := hF2
          clear hF2
          refine gate_one (i := 5) (by kernel_rfl) rfl (fun K hK => ?_)
          go_simp
          refine (bits_any _ _ _ _ _ hoi HSZ.out).mono ?_
          rintro e w' ⟨rfl, rfl⟩
          refine hK _ _ ⟨hF, fun _ => trivial⟩ ?_
          clear hK K
          refine gate_takeF (i := 8) (v := ?_) rfl (by kernel_rfl) (by kernel_rfl) (by kernel_rfl) (fun _ _ _ h => h) (by decide) ⟨hF, fun _ => trivial⟩ (Or.inl ⟨by rfl, ?_⟩) ?_
          rotate_left
          · intro wq hSw; obtain ⟨s0, s1⟩ := hSw; go_simp; rfl
          simp only [Act.put]
          refine gate_one (i := 9) (by kernel_rfl) rfl (fun K hK => ?_)
          go_simp
          refine (HADD.out _ (HTB.out.keep hL2)).mono ?_
          rintro e w3 ⟨rfl, ht3, hf3⟩
          have hF3 : w3.cell? ⟨X, 0, none⟩ = some (.int .i64 sn) ∧ w3.cell? ⟨X, 1, none⟩ = some (.string (S tl)) := ⟨hf3.cell_at hF.1 (fun e => hbX e.symm), hf3.cell_at hF.2 (fun e => hbX e.symm)⟩
          have hl3 : Lat w w3 := hf3.lat_of (Lat.trans HLT.out hL2) (fun i e => by rw [e]; exact HB.out)
          have HT3 := Lib.hid ht3; have HL3 := Lib.hid hl3
          refine hK _ _ ⟨hF3, fun _ => trivial⟩ ?_
          clear hK K hF ht3 hf3 hl3 hL2 hoi
          have hF := hF3
          clear hF3
          refine gate_takeF (i := 10) (v := ?_) rfl (by kernel_rfl) (by kernel_rfl) (by kernel_rfl) (fun _ _ _ h => h) (by decide) ⟨hF, fun _ => trivial⟩ (Or.inl ⟨by rfl, ?_⟩) ?_
          rotate_left
          · intro wq hSw; obtain ⟨s0, s1⟩ := hSw; go_simp; rfl
          simp only [Act.put]
          refine gate_takeF (i := 11) (v := ?_) rfl (by kernel_rfl) (by kernel_rfl) (by kernel_rfl) (fun _ _ _ h => h) (by decide) ⟨hF, fun _ => trivial⟩ (Or.inl ⟨by rfl, ?_⟩) ?_
          rotate_left
          · intro wq hSw; obtain ⟨s0, s1⟩ := hSw; go_simp; rfl
          simp only [Act.put]
          refine gate_takeF (i := 12) (v := ?_) rfl (by kernel_rfl) (by kernel_rfl) (by kernel_rfl) (fun _ _ _ h => h) (by decide) ⟨hF, fun _ => trivial⟩ (Or.inl ⟨by rfl, ?_⟩) ?_
          rotate_left
          · intro wq hSw; obtain ⟨s0, s1⟩ := hSw; go_simp; rfl
          simp only [Act.put]
          refine gate_takeF (i := 13) (v := ?_) rfl (by kernel_rfl) (by kernel_rfl) (by kernel_rfl) (fun _ _ _ h => h) (by decide) ⟨hF, fun _ => trivial⟩ (Or.inl ⟨by rfl, ?_⟩) ?_
          rotate_left
          · intro wq hSw; obtain ⟨s0, s1⟩ := hSw; go_simp; rfl
          simp only [Act.put]
          refine gate_takeF (i := 14) (v := ?_) rfl (by kernel_rfl) (by kernel_rfl) (by kernel_rfl) (fun _ _ _ h => h) (by decide) ⟨hF, fun _ => trivial⟩ (Or.inl ⟨by rfl, ?_⟩) ?_
          rotate_left
          · intro wq hSw; obtain ⟨s0, s1⟩ := hSw; go_simp; rfl
          simp only [Act.put]
          refine gate_done (by kernel_rfl) ?_ _
          clear hF
          cases my with
          | true =>
            have HC2 : Hid (slvC k (rowsD k ds) (n - (j + 1)) (j + 1) = C) := by show _ = _; rw [← HSC.out, if_pos (by simp)]
            have HS2 := Lib.hid (HMY.out rfl)
            go_wp2
            go_roundw
            case rel => exact ⟨j + 1, by omega, by go_num, HC2.out, HS2.out, HT3.out, HL3.out⟩
            case measure => simp [intOf]; omega
          | false =>
            have HC2 : Hid (C = true) := by show _ = _; rw [← HSC.out, if_neg (by simp)]
            go_wp2
            go_ret2
            exact ⟨HL3.out, .inl ⟨HC2.out, rfl⟩⟩
        · obtain rfl : j = n := by omega
          have hall : (rowsD k ds).take j = rowsD k ds := List.take_of_length_le (by unfold rowsD; rw [List.length_map, HL.out]; exact Nat.le_refl _)
          have hC0 : C = false := by rw [← hsc, Nat.sub_self]; rfl
          rw [hall] at hst htab
          have hrk := rnkT_le (tabT k (rowsD k ds)) k
          have hfull := fun hr => rnkT_full (T := tabT k (rowsD k ds)) (k := k) hr
          rw [← HR.out] at hrk hfull
          have HTB := Lib.hid htab; have HLT := Lib.hid hlat; have HC0 := Lib.hid hC0; have HTI := Lib.hid hst.ti; have HFU := Lib.hid hfull
          clear hrel hsc hst htab hlat hall hC0 hfull
          by_cases hr : R < k
          · have dr : decide (R < k) = true := decide_eq_true hr
            go_wp2_with (go_at_call 107; refine (rank_tab p b k _ _ HTB.out).mono ?_; rw [← HR.out]; rintro e w' ⟨rfl, rfl⟩)
            go_ret2
            exact ⟨HLT.out, .inr (.inl ⟨HC0.out, hr, rfl⟩)⟩
          · have dr : decide (R < k) = false := decide_eq_false hr
            have hRk : R = k := by omega
            have hfl : ∀ b, b < k → tabT k (rowsD k ds) b ≠ none := fun b hb e => by have := HFU.out hRk b hb; rw [e] at this; cases this
            have kb := back_any p b k m _ wr HTB.out hk1 hk HTI.out hm8 hfl
            rw [← HO.out] at kb
            have KB := Lib.hid kb; have HRK := Lib.hid hRk
            clear kb hfl hRk
            go_wp2_with (first
              | (go_at_call 107; refine (rank_tab p b k _ _ HTB.out).mono ?_; rw [← HR.out]; rintro e w' ⟨rfl, rfl⟩)
              | (go_at_call 108; refine KB.out.mono ?_; rintro e w5 ⟨g, rfl, -, hbk, hb5⟩))
            go_ret2
            exact ⟨Lat.trans HLT.out hb5, .inr (.inr ⟨HC0.out, HRK.out, g, rfl, hbk⟩)⟩
end Go.Proofs.YtheimfdbadjpoaaGreatDoor

namespace Go.Proofs.YtheimfdbadjpoaaGreatDoor
open Go.ChangeShapes Go.WideShapes Go.ChangeAt Go.RowKit

theorem errv_eql (n : Nat) (w : World) : (binOp .eql 27 (errv n) .nilIface).run Tryz.prog w = .ok (.bool (decide (n = 0))) w := by
  by_cases h : n = 0
  · rw [errv_zero h, h]; kernel_rfl
  · rw [errv_pos h, decide_eq_false h]; kernel_rfl
theorem errv_neq (n : Nat) (w : World) : (binOp .neq 27 (errv n) .nilIface).run Tryz.prog w = .ok (.bool (decide (n ≠ 0))) w := by
  by_cases h : n = 0
  · rw [errv_zero h, h]; kernel_rfl
  · rw [errv_pos h, decide_eq_true h]; kernel_rfl
theorem errv_guard (op : BinOp) (a : Operand) (n : Nat) (w : World) : (eqGuard op 27 a (.const .nilIface) (errv n) .nilIface).run Tryz.prog w = .ok () w := by
  by_cases h : n = 0
  · rw [errv_zero h]; cases op <;> cases a <;> kernel_rfl
  · rw [errv_pos h]; cases op <;> kernel_rfl
end Go.Proofs.YtheimfdbadjpoaaGreatDoor

namespace Go.Proofs.YtheimfdbadjpoaaGreatDoor
open Go.ChangeShapes Go.WideShapes Go.ChangeAt Go.RowKit

theorem many_any (n m : Nat) (w : World) (h1 : 1 ≤ m) (hm : m ≤ 8) (hn : n ≤ 1000) :
    Calls Tryz.prog 45 #[.int .i64 n, .int .i64 m] w fun e w' => e = .returned (.int .i64 (many n m)) ∧ w = w' := by
  have hz : ((m : Int) == 0) = false := beq_eq_false_iff_ne.2 (by omega)
  have hz2 : (m : Int) ≠ 0 := by omega
  have hle : (n + m - 1) / m ≤ n + m - 1 := Nat.div_le_self _ _
  have hv : max 1 (((n : Int) + m - 1) / (m : Int)) = (many n m : Nat) := by
    rw [show (n : Int) + m - 1 = ((n + m - 1 : Nat) : Int) by omega, ← Int.natCast_ediv]; unfold many; omega
  have HV := Lib.hid hv
  clear hv hle
  go_enter Tryz.func45, Tryz.ntmps45
  go_wp2_with fail
  go_ret
  exact ⟨by rw [HV.out]; rfl, rfl⟩

def lenV : Value → Nat
  | .string s => s.size
  | _ => 0
theorem repeatL_zero (n : Nat) : Lib.repeatL [0] n = noughts n := by
  induction n with
  | zero => rfl
  | succ n ih => rw [Lib.repeatL, ih]; rfl
theorem S_nil : S [] = ByteArray.empty := rfl
theorem spl_drop {E : List UInt8} {m k : Nat} (hE : E.length = k * m) {j : Nat} : (E.drop (j * m)).length = (k - j) * m := by
  rw [List.length_drop, hE, Nat.sub_mul]
set_option maxHeartbeats 400000 in
set_option maxRecDepth 100000 in
theorem split_ok (D : ByteArray) (s : Int) (w : World) (he : spE D.size s = 0) :
    Calls Tryz.prog 11 #[.string D, .int .i64 s] w fun e w' => ∃ v, e = .returned (.tuple #[v, .nilIface]) ∧ OwnStrs w' w.heap.size v (spl D s) ∧ Lat w w' := by
  have h := spE_ok he
  have hse := h.es
  obtain ⟨m, hm⟩ : ∃ m, m = s.toNat := ⟨_, rfl⟩
  obtain ⟨k, hk⟩ : ∃ k, k = many D.size s.toNat := ⟨_, rfl⟩
  rw [← hk, ← hm] at h
  have hspl := spl_ok h he
  obtain ⟨E, hE⟩ : ∃ E, E = padL D.data.toList m := ⟨_, rfl⟩
  have hEl := pad_len h
  rw [← hE] at hspl hEl
  rw [hspl]
  obtain rfl : s = m := by omega
  have h1 := h.lo
  have h2 := h.hi
  have h3 := h.len
  have h4 := h.most
  have h5 := h.ek
  have hp1 : k * m ≤ 16 * 8 := Nat.mul_le_mul h4 h2
  have hp2 := many_le D.size m h1
  rw [← h5] at hp2
  obtain ⟨R, hRd⟩ : ∃ R, R = S (noughts (k * m - D.size)) := ⟨_, rfl⟩
  have hRs : R.size = k * m - D.size := by rw [hRd, S_size]; simp [noughts]
  have hpad : D ++ R = S E := by
    rw [hE, hRd]
    unfold padL
    rw [size_toList, ← h5, ← S_append]
  have q1 : (0 : Int) ≤ (k : Int) * m := by rw [← Int.natCast_mul]; omega
  have q2 : (k : Int) * m ≤ 128 := by rw [← Int.natCast_mul]; omega
  have d1 : decide (120 < (D.size : Int)) = false := decide_eq_false (by omega)
  have d2 : decide (16 < (k : Int)) = false := decide_eq_false (by omega)
  have hc := many_any D.size m
  rw [← h5] at hc
  have HC := Lib.hid hc
  have hR := fun W => Tryz.strings_Repeat (S [0]) (k * m - D.size) W (by omega) (by show 1 * _ ≤ _; omega)
  rw [show (((k * m - D.size : Nat)) : Int) = (k : Int) * m - D.size by rw [Int.ofNat_sub hp2, Int.natCast_mul]] at hR
  rw [show (S [0]).data.toList = [0] from rfl, repeatL_zero] at hR
  change ∀ W, Calls Tryz.prog _ _ W fun e w' => e = .returned (.string (S (noughts (k * m - D.size)))) ∧ _ at hR
  rw [← hRd] at hR
  have HR := Lib.hid hR
  have HEl := Lib.hid hEl
  have HPD := Lib.hid hpad
  clear hc hR hRd hEl hpad hspl h hk hm he hse h5 hE
  go_enter Tryz.func11, Tryz.ntmps11
  go_wp2_with (first | (go_at_call 44; refine (size_yes _ _ (by omega) (by omega)).mono ?_; rintro e w' ⟨rfl, rfl⟩) | (go_at_call 45; refine (HC.out _ h1 h2 (by omega)).mono ?_; rintro e w' ⟨rfl, rfl⟩))
  refine (HR.out _).mono ?_
  rintro e w1 ⟨rfl, hb1⟩
  have HB1 := Lib.hid hb1
  clear hb1
  go_wp2_with fail
  rw [HPD.out]
  go_loopw [0, 7] (fun d v wr => ∃ j : Nat, j ≤ k ∧ d = .string (S (E.drop (j * m))) ∧ Hid (OwnStrs wr w.heap.size v (cuts E m j) ∧ Lat w wr)) (fun d _ _ => lenV d)
  case atStart => exact ⟨0, Nat.zero_le _, by rw [Nat.zero_mul]; rfl, Own.nil _ _ _, HB1.out⟩
  case round =>
    obtain ⟨j, hj, rfl, hrel⟩ := hrel
    have hown := Lib.hid hrel.out.1
    have hlat := Lib.hid hrel.out.2
    have hsz : (S (E.drop (j * m))).size = (k - j) * m := by rw [S_size]; exact spl_drop HEl.out
    obtain ⟨X, hX⟩ : ∃ X, X = S (E.drop (j * m)) := ⟨_, rfl⟩
    rw [← hX] at hsz ⊢
    by_cases hlt : j < k
    · have hle : m ≤ X.size := by
        rw [hsz]; exact Nat.le_mul_of_pos_left _ (by omega)
      have HX := Lib.hid hX
      have t1 : X.toList.isEmpty = false := by
        rw [ByteArray.toList_eq, List.isEmpty_eq_false_iff, ← List.length_pos_iff, Array.length_toList]
        show 0 < X.size
        exact Nat.lt_of_lt_of_le h1 hle
      have hx1 : X.extract 0 m = S (cutAt E m j) := by
        rw [hX]; unfold cutAt S; rw [ByteArray.extract_mk]; rfl
      have hx2 : X.extract m X.size = S (E.drop ((j + 1) * m)) := by
        rw [hX]; unfold S; rw [ByteArray.extract_mk, List.drop_drop, Nat.succ_mul]
        congr 2
        rw [List.take_of_length_le]
        have : (ByteArray.mk (List.drop (j * m) E).toArray).size = (List.drop (j * m) E).length := rfl
        rw [this, List.length_drop, List.length_drop]
        omega
      have HSZ := Lib.hid hsz
      have HX := Lib.hid hX
      have HX1 := Lib.hid hx1
      have HX2 := Lib.hid hx2
      clear hX hrel hsz hx1 hx2
      go_wp2_with (at_builtin; refine app_str wr w w.heap.size rfl _ _ rfl _ _ _ (by rfl) hown.out (by rfl) (by rw [cuts_length]; omega) rfl hlat.out ?_)
      intro v' w2 hown2 hb2 hstep2
      rw [HX1.out, ← cuts_succ] at hown2
      have HO2 := Lib.hid hown2
      have HB2 := Lib.hid hb2
      clear hown2 hb2 hstep2
      go_wp2_with fail
      go_roundw
      case rel => exact ⟨j + 1, hlt, by rw [HX2.out], HO2.out, HB2.out⟩
      case measure =>
        have e1 : (X.extract m X.size).size = (k - (j + 1)) * m := by rw [HX2.out, S_size]; exact spl_drop HEl.out
        have e2 : (k - j) * m = (k - (j + 1)) * m + m := by rw [← Nat.succ_mul]; congr 1; omega
        have e3 := HSZ.out
        show (X.extract m X.size).size < X.size
        omega
    · obtain rfl : j = k := by omega
      have t1 : X.toList.isEmpty = true := by
        rw [ByteArray.toList_eq, List.isEmpty_iff, ← List.length_eq_zero_iff, Array.length_toList]
        show X.size = 0
        rw [hsz, Nat.sub_self, Nat.zero_mul]
      have HSZ := Lib.hid hsz
      clear hrel hsz hX
      go_wp2_with fail
      go_ret2
      exact ⟨_, rfl, hown.out, hlat.out⟩

theorem split_bad (D : ByteArray) (s : Int) (w : World) (hD : D.size ≤ maxLen) (he : spE D.size s ≠ 0) :
    Calls Tryz.prog 11 #[.string D, .int .i64 s] w fun e w' => e = .returned (.tuple #[.slice none 0 0, errv (spE D.size s)]) ∧ w = w' := by
  unfold maxLen at hD
  rw [errv_pos he]
  unfold spE at he ⊢
  by_cases h1 : 120 < D.size
  · rw [if_pos h1]
    clear he
    have d1 : decide (120 < (D.size : Int)) = true := decide_eq_true (by omega)
    go_enter Tryz.func11, Tryz.ntmps11
    go_wp2_with fail
    go_ret2
    exact ⟨rfl, rfl⟩
  rw [if_neg h1] at he ⊢
  have d1 : decide (120 < (D.size : Int)) = false := decide_eq_false (by omega)
  by_cases h2 : s < 1 ∨ 8 < s
  · rw [if_pos h2]
    have H2 := Lib.hid h2
    clear he h2
    go_enter Tryz.func11, Tryz.ntmps11
    go_wp2_with (go_at_call 44; refine (size_no _ _ H2.out).mono ?_; rintro e w' ⟨rfl, rfl⟩)
    go_ret2
    exact ⟨rfl, rfl⟩
  rw [if_neg h2] at he ⊢
  by_cases h3 : 16 < many D.size s.toNat
  · rw [if_pos h3]
    obtain ⟨m, rfl⟩ := Int.eq_ofNat_of_zero_le (show 0 ≤ s by omega)
    rw [Int.toNat_natCast] at h3
    obtain ⟨k, hk⟩ : ∃ k, k = many D.size m := ⟨_, rfl⟩
    have hc := many_any D.size m
    have hm1 : 1 ≤ m := by omega
    have hm8 : m ≤ 8 := by omega
    have hle : (D.size + m - 1) / m ≤ D.size + m - 1 := Nat.div_le_self _ _
    have hk2 : k ≤ 1000 := by rw [hk]; unfold many; omega
    rw [← hk] at hc h3
    have HC := Lib.hid hc
    have d2 : decide (16 < (k : Int)) = true := decide_eq_true (by omega)
    clear he hc hk h2 h3 hle
    go_enter Tryz.func11, Tryz.ntmps11
    go_wp2_with (first | (go_at_call 44; refine (size_yes _ _ (by omega) (by omega)).mono ?_; rintro e w' ⟨rfl, rfl⟩) | (go_at_call 45; refine (HC.out _ hm1 hm8 (by omega)).mono ?_; rintro e w' ⟨rfl, rfl⟩))
    go_ret2
    exact ⟨rfl, rfl⟩
  · rw [if_neg h3] at he; exact absurd rfl he
theorem split_any (D : ByteArray) (s : Int) (w : World) (hD : D.size ≤ maxLen) :
    Calls Tryz.prog 11 #[.string D, .int .i64 s] w fun e w' => ∃ a c, e = .returned (.tuple #[.slice a (spl D s).length c, errv (spE D.size s)]) ∧ StrsAt w' a (spl D s).length c (spl D s) ∧ Lat w w' := by
  by_cases he : spE D.size s = 0
  · refine (split_ok D s w he).mono ?_
    rintro e w' ⟨v, rfl, hown, hb⟩
    obtain ⟨a, c, rfl, hat⟩ := OwnStrs.slice hown (spl_wf D s)
    exact ⟨a, c, by rw [errv_zero he], hat, hb⟩
  · refine (split_bad D s w hD he).mono ?_
    rintro e w' ⟨rfl, rfl⟩
    have e0 : spl D s = [] := by unfold spl; rw [if_neg he]
    rw [e0]
    exact ⟨none, 0, rfl, StrsAt.nil _, Lat.refl _⟩
end Go.Proofs.YtheimfdbadjpoaaGreatDoor

namespace Go.Proofs.YtheimfdbadjpoaaGreatDoor
open Go.ChangeShapes Go.WideShapes Go.ChangeAt Go.RowKit

theorem join_bad (a : Option Addr) (n cap : Nat) (ss : List ByteArray) (x : Int) (w : World) (h : StrsAt w a n cap ss) (hb : chk ss ≠ 0) :
    Calls Tryz.prog 58 #[.slice a n cap, .int .i64 x] w fun e w' => e = .returned (.tuple #[.string .empty, errv (chk ss)]) ∧ Lat w w' := by
  have hc := check_bad a n cap ss w h hb
  rw [errv_pos hb]
  obtain ⟨E, hE⟩ : ∃ E, E = chk ss := ⟨_, rfl⟩
  rw [← hE] at hc ⊢
  have HC := Lib.hid hc
  clear hc hb hE
  go_enter Tryz.func58, Tryz.ntmps58
  go_wp2_with fail
  refine HC.out.mono ?_
  rintro e w1 ⟨rfl, hb1⟩
  go_wp2_with fail
  go_ret2
  exact ⟨rfl, hb1⟩

set_option maxHeartbeats 400000 in
theorem join_good (a : Option Addr) (n cap : Nat) (ss : List ByteArray) (x : Int) (w : World) (h : StrsAt w a n cap ss) (hok : chk ss = 0) :
    Calls Tryz.prog 58 #[.slice a n cap, .int .i64 x] w fun e w' => e = .returned (.tuple #[.string (jnS ss x), errv (jnE ss x)]) ∧ Lat w w' := by
  have hc := check_ok a n cap ss w h hok
  have hk := chk_ok hok
  have hl := h.len
  have hfl := chk_flat hok
  obtain ⟨bb, o, rfl, hcs⟩ := h.row.at_ (by have := hk.pos; omega)
  have c0 : w.cell? ⟨bb, o, none⟩ = some (.string (ss.getD 0 ByteArray.empty)) := hcs 0 (by have := hk.pos; omega)
  have hbk := World.block_lt_of_cell? _ _ c0
  have hcells : ∀ (j : Nat) y, ss[j]? = some y → w.cell? ⟨bb, o + j, none⟩ = some (.string y) := fun j y hj => by
    obtain ⟨hj1, hj2⟩ := List.getElem?_eq_some_iff.1 hj
    rw [hcs j (by omega), List.getD_eq_getElem?_getD, hj]; rfl
  have hj := fun W (hW : Lat w W) => Tryz.strings_Join bb o cap ss .empty W (fun j y q => hW.cell_at (hcells j y q)) (Nat.lt_of_lt_of_le hbk hW.size) (by have := hk.most; omega) (by have := h.row.le; omega)
    (by rw [show ByteArray.empty.data.toList = [] from rfl, join_flat]; omega)
  rw [show ByteArray.empty.data.toList = [] from rfl, join_flat, hl] at hj
  obtain ⟨A, hA⟩ : ∃ A, A = S (flatB ss) := ⟨_, rfl⟩
  change ∀ W, Lat w W → Calls Tryz.prog _ _ W fun e w' => e = .returned (.string (S (flatB ss))) ∧ _ at hj
  rw [← hA] at hj
  have hAs : A.size = (flatB ss).length := by rw [hA, S_size]
  obtain ⟨s0, hs0⟩ : ∃ s, s = ss.getD 0 ByteArray.empty := ⟨_, rfl⟩
  rw [← hs0] at c0
  have hz : szAt ss 0 = s0.size := by unfold szAt; rw [hs0]
  have m1 : 1 ≤ s0.size := by rw [← hz]; exact hk.one
  have m8 : s0.size ≤ 8 := by rw [← hz]; exact hk.eight
  have hA8 : A.size ≤ 128 := by rw [hAs]; exact hfl.2
  have hn1 : 1 ≤ n := by have := hk.pos; omega
  have hn2 : n ≤ 16 := by have := hk.most; omega
  have hd : (decide (x < 0) = true ∧ jnE ss x = 1) ∨ (decide (x < 0) = false ∧ decide ((A.size : Int) < x) = true ∧ jnE ss x = 1) ∨
      (∃ y : Nat, x = y ∧ y ≤ A.size ∧ many y s0.size ≠ n ∧ jnE ss x = 1) ∨ (∃ y : Nat, x = y ∧ y ≤ A.size ∧ many y s0.size = n ∧ jnE ss x = 0 ∧ jnS ss x = A.extract 0 y) := by
    have e : jnE ss x = if x < 0 ∨ ((flatB ss).length : Int) < x ∨ many x.toNat (szAt ss 0) ≠ ss.length then 1 else 0 := by unfold jnE; rw [if_neg (by rw [hok]; simp)]
    by_cases q1 : x < 0
    · exact .inl ⟨decide_eq_true q1, by rw [e, if_pos (.inl q1)]⟩
    by_cases q2 : (A.size : Int) < x
    · exact .inr (.inl ⟨decide_eq_false q1, decide_eq_true q2, by rw [e, if_pos (.inr (.inl (by omega)))]⟩)
    obtain ⟨y, rfl⟩ := Int.eq_ofNat_of_zero_le (show 0 ≤ x by omega)
    rw [Int.toNat_natCast, hz, hl] at e
    by_cases q3 : many y s0.size = n
    · have e0 : jnE ss (y : Nat) = 0 := by rw [e, if_neg (by omega)]
      refine .inr (.inr (.inr ⟨y, rfl, by omega, q3, e0, ?_⟩))
      unfold jnS
      rw [if_pos e0, hA, Int.toNat_natCast]
      unfold S
      rw [ByteArray.extract_mk]
      rfl
    · exact .inr (.inr (.inl ⟨y, rfl, by omega, q3, by rw [e, if_pos (.inr (.inr q3))]⟩))
  have hjs : jnE ss x = 1 → jnS ss x = .empty := fun e => by unfold jnS; rw [if_neg (by omega)]
  have HC := Lib.hid hc
  have HJ := Lib.hid hj
  have HJS := Lib.hid hjs
  have HD := Lib.hid hd
  obtain ⟨E, hE⟩ : ∃ E, E = jnE ss x := ⟨_, rfl⟩
  obtain ⟨R, hR⟩ : ∃ E, E = jnS ss x := ⟨_, rfl⟩
  rw [← hE, ← hR]
  have HE := Lib.hid hE
  have HR := Lib.hid hR
  have dp : (0 : Int) < (n : Int) := by omega
  clear hc hk hfl hcs hbk hcells hj hA hAs hs0 hz hd hjs hok h hE hR
  go_enter Tryz.func58, Tryz.ntmps58
  go_wp2_with fail
  refine HC.out.mono ?_
  rintro e w1 ⟨rfl, hb1⟩
  go_wp2_with fail
  refine (HJ.out _ hb1).mono ?_
  rintro e w2 ⟨rfl, hb2⟩
  have hb := Lat.trans hb1 hb2
  have c2 := hb.cell_at c0
  have HB := Lib.hid hb
  clear hb1 hb2 hb c0
  rcases HD.out with ⟨d1, e1⟩ | ⟨d1, d2, e1⟩ | ⟨y, rfl, hy, hm, e1⟩ | ⟨y, rfl, hy, hm, e1, e2⟩
  · have H1 := Lib.hid e1
    clear e1
    go_wp2_with fail
    go_ret2
    exact ⟨by rw [HR.out, HE.out, HJS.out H1.out, H1.out]; rfl, HB.out⟩
  · have H1 := Lib.hid e1
    clear e1
    go_wp2_with fail
    go_ret2
    exact ⟨by rw [HR.out, HE.out, HJS.out H1.out, H1.out]; rfl, HB.out⟩
  · have H1 := Lib.hid e1
    have d1 : decide ((y : Int) < 0) = false := decide_eq_false (by omega)
    have d2 : decide ((A.size : Int) < (y : Int)) = false := decide_eq_false (by omega)
    have d3 : (((many y s0.size : Nat) : Int) != (n : Int)) = true := by rw [bne_iff_ne]; omega
    clear e1 hm
    go_wp2_with fail
    refine (many_any y s0.size _ m1 m8 (by omega)).mono ?_
    rintro e w3 ⟨rfl, rfl⟩
    go_wp2_with fail
    go_ret2
    exact ⟨by rw [HR.out, HE.out, HJS.out H1.out, H1.out]; rfl, HB.out⟩
  · have H1 := Lib.hid e1
    have H2 := Lib.hid e2
    have d1 : decide ((y : Int) < 0) = false := decide_eq_false (by omega)
    have d2 : decide ((A.size : Int) < (y : Int)) = false := decide_eq_false (by omega)
    have d3 : (((many y s0.size : Nat) : Int) != (n : Int)) = false := by rw [bne_eq_false_iff_eq]; omega
    clear e1 hm e2
    go_wp2_with fail
    refine (many_any y s0.size _ m1 m8 (by omega)).mono ?_
    rintro e w3 ⟨rfl, rfl⟩
    go_wp2_with fail
    go_ret2
    exact ⟨by rw [HR.out, HE.out, H2.out, H1.out]; rfl, HB.out⟩
theorem join_any (a : Option Addr) (n cap : Nat) (ss : List ByteArray) (x : Int) (w : World) (h : StrsAt w a n cap ss) :
    Calls Tryz.prog 58 #[.slice a n cap, .int .i64 x] w fun e w' => e = .returned (.tuple #[.string (jnS ss x), errv (jnE ss x)]) ∧ Lat w w' := by
  by_cases hok : chk ss = 0
  · exact join_good a n cap ss x w h hok
  · have e1 : jnE ss x = chk ss := by unfold jnE; rw [if_pos hok]
    have e2 : jnS ss x = .empty := by unfold jnS; rw [if_neg (by omega)]
    rw [e1, e2]
    exact join_bad a n cap ss x w h hok
theorem check_any (a : Option Addr) (n cap : Nat) (ss : List ByteArray) (w : World) (h : StrsAt w a n cap ss) :
    Calls Tryz.prog 48 #[.slice a n cap] w fun e w' => e = .returned (errv (chk ss)) ∧ Lat w w' := by
  by_cases hok : chk ss = 0
  · rw [errv_zero hok]; exact check_ok a n cap ss w h hok
  · rw [errv_pos hok]; exact check_bad a n cap ss w h hok
end Go.Proofs.YtheimfdbadjpoaaGreatDoor

namespace Go.Proofs.YtheimfdbadjpoaaGreatDoor
open Go.ChangeShapes Go.WideShapes Go.ChangeAt Go.RowKit

theorem ear_made (k m n : Nat) (w w1 : World) (G : Nat → Prop) (p : Nat) (hp : PeelO G p k m (fun _ => none) [] [] w1) (hG : ∀ i, G i → w.heap.size ≤ i) (hl : Lat w w1) :
    EarO (fun i => w.heap.size ≤ i ∧ i < w1.heap.size + 1) w1.heap.size k m n 0 (fun _ => none) [] [] (w1.alloc (.cells #[.pointer (some ⟨p, 0, none⟩), .int .i64 k, .int .i64 m, .int .i64 n, .int .i64 0, .slice none 0 0] 100)) := by
  have hb := Lat.alloc w1 (.cells #[.pointer (some ⟨p, 0, none⟩), .int .i64 k, .int .i64 m, .int .i64 n, .int .i64 0, .slice none 0 0] 100)
  have hs := hl.size
  have hpl := hp.lt
  refine ⟨G, p, none, 0, ⟨fun i hi => by simp; omega, by omega, fun i hi => ⟨hG i hi, by have := hpl i hi; omega⟩, fun e => by have := hpl _ e; omega, ?_, ?_, ?_, ?_, ?_, ?_, ?_, ?_, hp.keep hb, OwnR.nil _ _ _ _, fun i hi => (by cases hi), by simp⟩⟩
  all_goals simp
set_option maxHeartbeats 1000000 in
theorem ear_new_ok (k m n : Nat) (w : World) (h1 : 1 ≤ k) (h2 : k ≤ 16) (h3 : 1 ≤ m) (h4 : m ≤ 8) (h5 : n ≤ 120) (h6 : many n m = k) :
    Calls Tryz.prog 12 #[.int .i64 k, .int .i64 m, .int .i64 n] w fun e w' => ∃ x G, e = .returned (.tuple #[.pointer (some ⟨x, 0, none⟩), .nilIface]) ∧ EarO G x k m n 0 (fun _ => none) [] [] w' ∧ (∀ i, G i → w.heap.size ≤ i) ∧ Lat w w' := by
  have hmn := fun W => many_any n m W h3 h4 (by omega)
  rw [h6] at hmn
  have HMN := Lib.hid hmn
  have d0 : decide ((n : Int) < 0) = false := decide_eq_false (by omega)
  have d1 : decide ((120 : Int) < (n : Int)) = false := decide_eq_false (by omega)
  clear hmn h6
  go_enter Tryz.func12, Tryz.ntmps12
  go_wp2_with (first
    | (go_at_call 47; refine (peel_new_ok k m _ h1 h2 h3 h4).mono ?_; rintro e w1 ⟨p, G, rfl, hp, hG, hl⟩; have HP := Lib.hid hp; have HG := Lib.hid hG; have HL := Lib.hid hl; clear hp hG hl)
    | (go_at_call 45; refine (HMN.out _).mono ?_; rintro e w2 ⟨rfl, rfl⟩))
  go_ret2
  exact ⟨_, _, rfl, ear_made k m n w w1 G p HP.out HG.out HL.out, fun i hi => hi.1, HL.out.trans (Lat.alloc _ _)⟩

theorem EarIn.ready {G Gp : Nat → Prop} {x p k m n : Nat} {q : Int} {K : Kn} {L : List Wt} {ds : List Dr} {a : Option Addr} {cap : Nat} {w : World} (h : EarIn G Gp x p k m n q K L ds a cap w) (h1 : 1 ≤ k) (h2 : k ≤ 16) : rdyE k (ds.map Dr.s) = 0 := by
  have hm := h.most
  unfold rdyE
  rw [if_neg (by rw [List.length_map]; omega), if_neg (by omega), if_neg]
  intro he
  obtain ⟨z, hz, hno⟩ := List.any_eq_true.1 he
  obtain ⟨d, hd, rfl⟩ := List.mem_map.1 hz
  have h5 := drpE_zero (h.ok d hd)
  unfold noSeed at hno
  simp at hno
  omega
def dneB (k : Nat) (ds : List Dr) : Bool := decide (rankR k (ds.map Dr.s) = k)
set_option maxHeartbeats 2000000 in
set_option maxRecDepth 100000 in
theorem ear_done (G : Nat → Prop) (x k m n : Nat) (q : Int) (K0 : Kn) (L : List Wt) (ds : List Dr) (w : World) (h : EarO G x k m n q K0 L ds w) (h1 : 1 ≤ k) (h2 : k ≤ 16) :
    Calls Tryz.prog 35 #[.pointer (some ⟨x, 0, none⟩)] w fun e w' => e = .returned (.bool (dneB k ds)) ∧ Lat w w' := by
  obtain ⟨Gp, p, a, cap, h⟩ := h
  have hrd := h.ready h1 h2
  obtain ⟨ln, hln⟩ : ∃ ln, ln = ds.length := ⟨_, rfl⟩
  obtain ⟨r, hr⟩ : ∃ r, r = rankR k (ds.map Dr.s) := ⟨_, rfl⟩
  obtain ⟨D, hD⟩ : ∃ D, D = dneB k ds := ⟨_, rfl⟩
  have hrk : ((r : Int) == (k : Int)) = D := by
    rw [hD]; unfold dneB
    rw [← hr]
    by_cases e : r = k
    · subst e; rw [decide_eq_true rfl]; simp
    · rw [decide_eq_false e]; exact beq_eq_false_iff_ne.2 (by omega)
  have HH := Lib.hid h; have HRD := Lib.hid hrd; have HLN := Lib.hid hln; have HR := Lib.hid hr
  rw [← hD]
  clear h hrd hln hr hD
  go_enter Tryz.func35, Tryz.ntmps35
  go_upto_region 1 with fail
  have hF : w.drew.cell? ⟨x, 1, none⟩ = some (.int .i64 k) := HH.out.c1
  refine wp_region_gate (fun w' => w'.cell? ⟨x, 1, none⟩ = some (.int .i64 k)) (fun _ => True) 1000 (by kernel_rfl) ?_
  refine gate_takeF (i := 0) (v := ?_) rfl (by kernel_rfl) (by kernel_rfl) (by kernel_rfl) (fun _ _ _ h => h) (by decide) ⟨hF, fun _ => trivial⟩ (Or.inl ⟨by rfl, ?_⟩) ?_
  rotate_left
  · intro wq hSw; obtain s0 := hSw; go_simp; rfl
  simp only [Act.put]
  refine gate_takeF (i := 1) (v := ?_) rfl (by kernel_rfl) (by kernel_rfl) (by kernel_rfl) (fun _ _ _ h => h) (by decide) ⟨hF, fun _ => trivial⟩ (Or.inl ⟨by rfl, ?_⟩) ?_
  rotate_left
  · intro wq hSw; obtain s0 := hSw; go_simp; rfl
  simp only [Act.put]
  refine gate_takeF (i := 2) (v := ?_) rfl (by kernel_rfl) (by kernel_rfl) (by kernel_rfl) (fun _ _ _ h => h) (by decide) ⟨hF, fun _ => trivial⟩ (Or.inl ⟨by rfl, ?_⟩) ?_
  rotate_left
  · intro wq hSw; obtain s0 := hSw; go_simp; rfl
  simp only [Act.put]
  refine gate_takeF (i := 3) (v := ?_) rfl (by kernel_rfl) (by kernel_rfl) (by kernel_rfl) (fun _ _ _ h => h) (by decide) ⟨hF, fun _ => trivial⟩ (Or.inl ⟨by rfl, ?_⟩) ?_
  rotate_left
  · intro wq hSw; obtain s0 := hSw; go_simp; rfl
  simp only [Act.put]
  refine gate_takeF (i := 4) (v := ?_) rfl (by kernel_rfl) (by kernel_rfl) (by kernel_rfl) (fun _ _ _ h => h) (by decide) ⟨hF, fun _ => trivial⟩ (Or.inl ⟨by rfl, ?_⟩) ?_
  rotate_left
  · intro wq hSw; obtain s0 := hSw; go_simp; rfl
  simp only [Act.put]
  refine gate_one (i := 5) (by kernel_rfl) rfl (fun K hK => ?_)
  have hsd := ear_seeds G x k m n q K0 L ds w.drew ⟨Gp, p, a, cap, HH.out.keep (Lat.drew w)⟩
  rw [← HLN.out] at hsd
  go_simp
  refine (hsd).mono ?_
  rintro e w6 ⟨ya, yc, rfl, hyi, hb6⟩
  have hF' : w6.cell? ⟨x, 1, none⟩ = some (.int .i64 k) := hb6.cell_at hF
  refine hK _ _ ⟨hF', fun _ => trivial⟩ ?_
  clear hK K hF
  have hF := hF'
  clear hF'
  refine gate_one (i := 6) (by kernel_rfl) rfl (fun K hK => ?_)
  have hrk2 := srank_any k ya ln yc (ds.map Dr.s) w6 hyi
  rw [HRD.out, errv_zero rfl, ← HR.out] at hrk2
  go_simp
  refine (hrk2).mono ?_
  rintro e w7 ⟨rfl, hb7⟩
  have hF' : w7.cell? ⟨x, 1, none⟩ = some (.int .i64 k) := hb7.cell_at hF
  refine hK _ _ ⟨hF', fun _ => trivial⟩ ?_
  clear hK K hF
  have hF := hF'
  clear hF'
  refine gate_takeF (i := 7) (v := ?_) rfl (by kernel_rfl) (by kernel_rfl) (by kernel_rfl) (fun _ _ _ h => h) (by decide) ⟨hF, fun _ => trivial⟩ (Or.inl ⟨by rfl, ?_⟩) ?_
  rotate_left
  · intro wq hSw; obtain s0 := hSw; go_simp; rfl
  simp only [Act.put]
  refine gate_takeF (i := 8) (v := ?_) rfl (by kernel_rfl) (by kernel_rfl) (by kernel_rfl) (fun _ _ _ h => h) (by decide) ⟨hF, fun _ => trivial⟩ (Or.inl ⟨by rfl, ?_⟩) ?_
  rotate_left
  · intro wq hSw; obtain s0 := hSw; go_simp; rfl
  simp only [Act.put]
  refine gate_takeF (i := 9) (v := ?_) rfl (by kernel_rfl) (by kernel_rfl) (by kernel_rfl) (fun _ _ _ h => h) (by decide) ⟨hF, fun _ => trivial⟩ (Or.inl ⟨by rfl, ?_⟩) ?_
  rotate_left
  · intro wq hSw; obtain s0 := hSw; go_simp; rfl
  simp only [Act.put]
  refine gate_takeF (i := 10) (v := ?_) rfl (by kernel_rfl) (by kernel_rfl) (by kernel_rfl) (fun _ _ _ h => h) (by decide) ⟨hF, fun _ => trivial⟩ (Or.inl ⟨by rfl, ?_⟩) ?_
  rotate_left
  · intro wq hSw; obtain s0 := hSw; go_simp; rfl
  simp only [Act.put]
  refine gate_takeF (i := 11) (v := ?_) rfl (by kernel_rfl) (by kernel_rfl) (by kernel_rfl) (fun _ _ _ h => h) (by decide) ⟨hF, fun _ => trivial⟩ (Or.inl ⟨by rfl, ?_⟩) ?_
  rotate_left
  · intro wq hSw; obtain s0 := hSw; go_simp; rfl
  simp only [Act.put]
  refine gate_done (by kernel_rfl) ?_ _
  have HL := Lib.hid ((Lat.drew w).trans (hb6.trans hb7))
  clear hb6 hb7 hyi hsd hrk2
  simp only [List.getElem_toArray, List.getElem_cons_succ, List.getElem_cons_zero]
  go_simp
  go_wp2
  go_ret
  exact ⟨rfl, HL.out⟩

set_option maxHeartbeats 2000000 in
set_option maxRecDepth 100000 in
theorem ear_lacks_own (G : Nat → Prop) (x k m n : Nat) (q : Int) (K0 : Kn) (L : List Wt) (ds : List Dr) (w : World) (h : EarO G x k m n q K0 L ds w) (h1 : 1 ≤ k) (h2 : k ≤ 16) :
    Calls Tryz.prog 16 #[.pointer (some ⟨x, 0, none⟩)] w fun e w' => ∃ b c, e = .returned (.slice b (lackR k (ds.map Dr.s)).length c) ∧ OwnInts w' w.heap.size (.slice b (lackR k (ds.map Dr.s)).length c) (lackR k (ds.map Dr.s)) ∧ Lat w w' := by
  obtain ⟨Gp, p, a, cap, h⟩ := h
  have hrd := h.ready h1 h2
  obtain ⟨ln, hln⟩ : ∃ ln, ln = ds.length := ⟨_, rfl⟩
  obtain ⟨LL, hLL⟩ : ∃ LL, LL = (lackR k (ds.map Dr.s)).length := ⟨_, rfl⟩
  have HH := Lib.hid h; have HRD := Lib.hid hrd; have HLN := Lib.hid hln; have HLL := Lib.hid hLL
  rw [← hLL]
  clear h hrd hln hLL
  go_enter Tryz.func16, Tryz.ntmps16
  go_upto_region 1 with fail
  have hF : w.drew.cell? ⟨x, 1, none⟩ = some (.int .i64 k) := HH.out.c1
  refine wp_region_gate (fun w' => w'.cell? ⟨x, 1, none⟩ = some (.int .i64 k)) (fun _ => True) 1000 (by kernel_rfl) ?_
  refine gate_takeF (i := 0) (v := ?_) rfl (by kernel_rfl) (by kernel_rfl) (by kernel_rfl) (fun _ _ _ h => h) (by decide) ⟨hF, fun _ => trivial⟩ (Or.inl ⟨by rfl, ?_⟩) ?_
  rotate_left
  · intro wq hSw; obtain s0 := hSw; go_simp; rfl
  simp only [Act.put]
  refine gate_takeF (i := 1) (v := ?_) rfl (by kernel_rfl) (by kernel_rfl) (by kernel_rfl) (fun _ _ _ h => h) (by decide) ⟨hF, fun _ => trivial⟩ (Or.inl ⟨by rfl, ?_⟩) ?_
  rotate_left
  · intro wq hSw; obtain s0 := hSw; go_simp; rfl
  simp only [Act.put]
  refine gate_takeF (i := 2) (v := ?_) rfl (by kernel_rfl) (by kernel_rfl) (by kernel_rfl) (fun _ _ _ h => h) (by decide) ⟨hF, fun _ => trivial⟩ (Or.inl ⟨by rfl, ?_⟩) ?_
  rotate_left
  · intro wq hSw; obtain s0 := hSw; go_simp; rfl
  simp only [Act.put]
  refine gate_takeF (i := 3) (v := ?_) rfl (by kernel_rfl) (by kernel_rfl) (by kernel_rfl) (fun _ _ _ h => h) (by decide) ⟨hF, fun _ => trivial⟩ (Or.inl ⟨by rfl, ?_⟩) ?_
  rotate_left
  · intro wq hSw; obtain s0 := hSw; go_simp; rfl
  simp only [Act.put]
  refine gate_takeF (i := 4) (v := ?_) rfl (by kernel_rfl) (by kernel_rfl) (by kernel_rfl) (fun _ _ _ h => h) (by decide) ⟨hF, fun _ => trivial⟩ (Or.inl ⟨by rfl, ?_⟩) ?_
  rotate_left
  · intro wq hSw; obtain s0 := hSw; go_simp; rfl
  simp only [Act.put]
  refine gate_one (i := 5) (by kernel_rfl) rfl (fun K hK => ?_)
  have hsd := ear_seeds G x k m n q K0 L ds w.drew ⟨Gp, p, a, cap, HH.out.keep (Lat.drew w)⟩
  rw [← HLN.out] at hsd
  go_simp
  refine (hsd).mono ?_
  rintro e w6 ⟨ya, yc, rfl, hyi, hb6⟩
  have hF' : w6.cell? ⟨x, 1, none⟩ = some (.int .i64 k) := hb6.cell_at hF
  refine hK _ _ ⟨hF', fun _ => trivial⟩ ?_
  clear hK K hF
  have hF := hF'
  clear hF'
  refine gate_one (i := 6) (by kernel_rfl) rfl (fun K hK => ?_)
  have hlk := lacks_own k ya ln yc (ds.map Dr.s) w6 hyi
  rw [HRD.out, errv_zero rfl, ← HLL.out] at hlk
  go_simp
  refine (hlk).mono ?_
  rintro e w7 ⟨⟨lb, lc, rfl, hlb⟩, hb7⟩
  have hF' : w7.cell? ⟨x, 1, none⟩ = some (.int .i64 k) := hb7.cell_at hF
  refine hK _ _ ⟨hF', fun _ => trivial⟩ ?_
  clear hK K hF
  have hF := hF'
  clear hF'
  refine gate_takeF (i := 7) (v := ?_) rfl (by kernel_rfl) (by kernel_rfl) (by kernel_rfl) (fun _ _ _ h => h) (by decide) ⟨hF, fun _ => trivial⟩ (Or.inl ⟨by rfl, ?_⟩) ?_
  rotate_left
  · intro wq hSw; obtain s0 := hSw; go_simp; rfl
  simp only [Act.put]
  refine gate_takeF (i := 8) (v := ?_) rfl (by kernel_rfl) (by kernel_rfl) (by kernel_rfl) (fun _ _ _ h => h) (by decide) ⟨hF, fun _ => trivial⟩ (Or.inl ⟨by rfl, ?_⟩) ?_
  rotate_left
  · intro wq hSw; obtain s0 := hSw; go_simp; rfl
  simp only [Act.put]
  refine gate_takeF (i := 9) (v := ?_) rfl (by kernel_rfl) (by kernel_rfl) (by kernel_rfl) (fun _ _ _ h => h) (by decide) ⟨hF, fun _ => trivial⟩ (Or.inl ⟨by rfl, ?_⟩) ?_
  rotate_left
  · intro wq hSw; obtain s0 := hSw; go_simp; rfl
  simp only [Act.put]
  refine gate_takeF (i := 10) (v := ?_) rfl (by kernel_rfl) (by kernel_rfl) (by kernel_rfl) (fun _ _ _ h => h) (by decide) ⟨hF, fun _ => trivial⟩ (Or.inl ⟨by rfl, ?_⟩) ?_
  rotate_left
  · intro wq hSw; obtain s0 := hSw; go_simp; rfl
  simp only [Act.put]
  refine gate_takeF (i := 11) (v := ?_) rfl (by kernel_rfl) (by kernel_rfl) (by kernel_rfl) (fun _ _ _ h => h) (by decide) ⟨hF, fun _ => trivial⟩ (Or.inl ⟨by rfl, ?_⟩) ?_
  rotate_left
  · intro wq hSw; obtain s0 := hSw; go_simp; rfl
  simp only [Act.put]
  refine gate_done (by kernel_rfl) ?_ _
  have HL := Lib.hid ((Lat.drew w).trans (hb6.trans hb7))
  have HLB := Lib.hid (hlb.mono ((Lat.drew w).trans hb6).size)
  clear hb6 hb7 hyi hsd hlk hlb
  simp only [List.getElem_toArray, List.getElem_cons_succ, List.getElem_cons_zero]
  go_simp
  go_wp2
  go_ret
  exact ⟨lb, lc, rfl, HLB.out, HL.out⟩
theorem ear_lacks (G : Nat → Prop) (x k m n : Nat) (q : Int) (K0 : Kn) (L : List Wt) (ds : List Dr) (w : World) (h : EarO G x k m n q K0 L ds w) (h1 : 1 ≤ k) (h2 : k ≤ 16) :
    Calls Tryz.prog 16 #[.pointer (some ⟨x, 0, none⟩)] w fun e w' => ∃ b c, e = .returned (.slice b (lackR k (ds.map Dr.s)).length c) ∧ IntsAt w' b (lackR k (ds.map Dr.s)).length c (lackR k (ds.map Dr.s)) ∧ Lat w w' :=
  (ear_lacks_own G x k m n q K0 L ds w h h1 h2).mono fun _ _ ⟨b, c, he, ho, hl⟩ => ⟨b, c, he, own_lacks ho, hl⟩

def slvO (k : Nat) (ds : List Dr) : List ByteArray := (List.range k).map fun j => S (outF (tabT k (rowsD k ds)) k k j)
def dtE (k n : Nat) (ds : List Dr) : Nat := if slvC k (rowsD k ds) ds.length 0 = true then 7 else if rnkT (tabT k (rowsD k ds)) k < k then 8 else jnE (slvO k ds) n
def dtS (k n : Nat) (ds : List Dr) : ByteArray := if slvC k (rowsD k ds) ds.length 0 = true then .empty else if rnkT (tabT k (rowsD k ds)) k < k then .empty else jnS (slvO k ds) n
theorem blk_slv {w : World} {g k : Nat} {o : Nat → List UInt8} (h : Blk w g k (fun j => .string (S (o j)))) (hk : k ≤ 16) (ho : ∀ j, j < k → (o j).length ≤ maxLen) : StrsAt w (some ⟨g, 0, none⟩) k k ((List.range k).map fun j => S (o j)) :=
  ⟨by simp, ⟨Nat.le_refl _, by unfold maxLen; omega, fun _ => ⟨g, 0, rfl, fun j hj => by
    rw [Nat.zero_add, h.cell j hj, List.getD_eq_getElem?_getD, List.getElem?_map, List.getElem?_range hj]; rfl⟩⟩, fun s hs => by
    obtain ⟨j, hj, rfl⟩ := List.mem_map.1 hs
    exact ho j (List.mem_range.1 hj)⟩
set_option maxHeartbeats 2000000 in
set_option maxRecDepth 100000 in
theorem ear_data (G : Nat → Prop) (x k m n : Nat) (q : Int) (K : Kn) (L : List Wt) (ds : List Dr) (w : World) (h : EarO G x k m n q K L ds w) (h1 : 1 ≤ k) (h2 : k ≤ 16) (h3 : 1 ≤ m) (h4 : m ≤ 8) (hlen : slvC k (rowsD k ds) ds.length 0 = false → rnkT (tabT k (rowsD k ds)) k = k → ∀ j, j < k → (outF (tabT k (rowsD k ds)) k k j).length ≤ maxLen) :
    Calls Tryz.prog 17 #[.pointer (some ⟨x, 0, none⟩)] w fun e w' => e = .returned (.tuple #[.string (dtS k n ds), errv (dtE k n ds)]) ∧ Lat w w' := by
  obtain ⟨Gp, p, a, cap, h⟩ := h
  have hm60 := h.most
  have hok := h.ok
  obtain ⟨a', cap', he, hat⟩ := OwnR.slice h.row (show (ds.map Dr.row).length = ds.length by rw [List.length_map])
  injection he with e1 _ e3
  subst e1
  subst e3
  have hda : DropsAt w a ds.length cap ds := ⟨hat, fun d hd => by
    have := drpE_zero (hok d hd)
    exact ⟨by unfold I64; omega, by unfold maxLen; omega⟩⟩
  have hsv := fun W (hW : Lat w W) => solve_valid k m a ds.length cap ds W (hda.keep hW) hm60 h1 h2 h3 h4 hok
  obtain ⟨ln, hln⟩ : ∃ ln, ln = ds.length := ⟨_, rfl⟩
  obtain ⟨C, hC⟩ : ∃ C, C = slvC k (rowsD k ds) ds.length 0 := ⟨_, rfl⟩
  obtain ⟨R, hR⟩ : ∃ R, R = rnkT (tabT k (rowsD k ds)) k := ⟨_, rfl⟩
  obtain ⟨o, ho⟩ : ∃ o, o = outF (tabT k (rowsD k ds)) k k := ⟨_, rfl⟩
  have hE : dtE k n ds = if C = true then 7 else if R < k then 8 else jnE ((List.range k).map fun j => S (o j)) n := by unfold dtE slvO; rw [hC, hR, ho]
  have hS : dtS k n ds = if C = true then .empty else if R < k then .empty else jnS ((List.range k).map fun j => S (o j)) n := by unfold dtS slvO; rw [hC, hR, ho]
  rw [← hC, ← hR, ← ho] at hsv
  rw [← hC, ← hR, ← ho] at hlen
  rw [← hln] at hsv
  obtain ⟨E, hEd⟩ : ∃ E, E = dtE k n ds := ⟨_, rfl⟩
  obtain ⟨SS, hSd⟩ : ∃ SS, SS = dtS k n ds := ⟨_, rfl⟩
  rw [← hEd, ← hSd]
  rw [← hEd] at hE
  rw [← hSd] at hS
  have HH := Lib.hid h; have HLN := Lib.hid hln; have HSV := Lib.hid hsv; have HO := Lib.hid hlen; have HE := Lib.hid hE; have HS := Lib.hid hS
  clear h hm60 hok hat hda hsv hln hC hR ho hE hS hlen hEd hSd
  go_enter Tryz.func17, Tryz.ntmps17
  go_upto_region 1 with fail
  have hF : w.drew.cell? ⟨x, 1, none⟩ = some (.int .i64 k) ∧ w.drew.cell? ⟨x, 2, none⟩ = some (.int .i64 m) ∧ w.drew.cell? ⟨x, 5, none⟩ = some (.slice a ln cap) := ⟨HH.out.c1, HH.out.c2, by have := HH.out.c5; rw [← HLN.out] at this; exact this⟩
  refine wp_region_gate (fun w' => w'.cell? ⟨x, 1, none⟩ = some (.int .i64 k) ∧ w'.cell? ⟨x, 2, none⟩ = some (.int .i64 m) ∧ w'.cell? ⟨x, 5, none⟩ = some (.slice a ln cap)) (fun _ => True) 1000 (by kernel_rfl) ?_
  refine gate_takeF (i := 0) (v := ?_) rfl (by kernel_rfl) (by kernel_rfl) (by kernel_rfl) (fun _ _ _ h => h) (by decide) ⟨hF, fun _ => trivial⟩ (Or.inl ⟨by rfl, ?_⟩) ?_
  rotate_left
  · intro wq hSw; obtain ⟨s0, s1, s2⟩ := hSw; go_simp; rfl
  simp only [Act.put]
  refine gate_takeF (i := 1) (v := ?_) rfl (by kernel_rfl) (by kernel_rfl) (by kernel_rfl) (fun _ _ _ h => h) (by decide) ⟨hF, fun _ => trivial⟩ (Or.inl ⟨by rfl, ?_⟩) ?_
  rotate_left
  · intro wq hSw; obtain ⟨s0, s1, s2⟩ := hSw; go_simp; rfl
  simp only [Act.put]
  refine gate_takeF (i := 2) (v := ?_) rfl (by kernel_rfl) (by kernel_rfl) (by kernel_rfl) (fun _ _ _ h => h) (by decide) ⟨hF, fun _ => trivial⟩ (Or.inl ⟨by rfl, ?_⟩) ?_
  rotate_left
  · intro wq hSw; obtain ⟨s0, s1, s2⟩ := hSw; go_simp; rfl
  simp only [Act.put]
  refine gate_takeF (i := 3) (v := ?_) rfl (by kernel_rfl) (by kernel_rfl) (by kernel_rfl) (fun _ _ _ h => h) (by decide) ⟨hF, fun _ => trivial⟩ (Or.inl ⟨by rfl, ?_⟩) ?_
  rotate_left
  · intro wq hSw; obtain ⟨s0, s1, s2⟩ := hSw; go_simp; rfl
  simp only [Act.put]
  refine gate_takeF (i := 4) (v := ?_) rfl (by kernel_rfl) (by kernel_rfl) (by kernel_rfl) (fun _ _ _ h => h) (by decide) ⟨hF, fun _ => trivial⟩ (Or.inl ⟨by rfl, ?_⟩) ?_
  rotate_left
  · intro wq hSw; obtain ⟨s0, s1, s2⟩ := hSw; go_simp; rfl
  simp only [Act.put]
  refine gate_takeF (i := 5) (v := ?_) rfl (by kernel_rfl) (by kernel_rfl) (by kernel_rfl) (fun _ _ _ h => h) (by decide) ⟨hF, fun _ => trivial⟩ (Or.inl ⟨by rfl, ?_⟩) ?_
  rotate_left
  · intro wq hSw; obtain ⟨s0, s1, s2⟩ := hSw; go_simp; rfl
  simp only [Act.put]
  refine gate_takeF (i := 6) (v := ?_) rfl (by kernel_rfl) (by kernel_rfl) (by kernel_rfl) (fun _ _ _ h => h) (by decide) ⟨hF, fun _ => trivial⟩ (Or.inl ⟨by rfl, ?_⟩) ?_
  rotate_left
  · intro wq hSw; obtain ⟨s0, s1, s2⟩ := hSw; go_simp; rfl
  simp only [Act.put]
  refine gate_takeF (i := 7) (v := ?_) rfl (by kernel_rfl) (by kernel_rfl) (by kernel_rfl) (fun _ _ _ h => h) (by decide) ⟨hF, fun _ => trivial⟩ (Or.inl ⟨by rfl, ?_⟩) ?_
  rotate_left
  · intro wq hSw; obtain ⟨s0, s1, s2⟩ := hSw; go_simp; rfl
  simp only [Act.put]
  refine gate_takeF (i := 8) (v := ?_) rfl (by kernel_rfl) (by kernel_rfl) (by kernel_rfl) (fun _ _ _ h => h) (by decide) ⟨hF, fun _ => trivial⟩ (Or.inl ⟨by rfl, ?_⟩) ?_
  rotate_left
  · intro wq hSw; obtain ⟨s0, s1, s2⟩ := hSw; go_simp; rfl
  simp only [Act.put]
  refine gate_takeF (i := 9) (v := ?_) rfl (by kernel_rfl) (by kernel_rfl) (by kernel_rfl) (fun _ _ _ h => h) (by decide) ⟨hF, fun _ => trivial⟩ (Or.inl ⟨by rfl, ?_⟩) ?_
  rotate_left
  · intro wq hSw; obtain ⟨s0, s1, s2⟩ := hSw; go_simp; rfl
  simp only [Act.put]
  refine gate_takeF (i := 10) (v := ?_) rfl (by kernel_rfl) (by kernel_rfl) (by kernel_rfl) (fun _ _ _ h => h) (by decide) ⟨hF, fun _ => trivial⟩ (Or.inl ⟨by rfl, ?_⟩) ?_
  rotate_left
  · intro wq hSw; obtain ⟨s0, s1, s2⟩ := hSw; go_simp; rfl
  simp only [Act.put]
  refine gate_takeF (i := 11) (v := ?_) rfl (by kernel_rfl) (by kernel_rfl) (by kernel_rfl) (fun _ _ _ h => h) (by decide) ⟨hF, fun _ => trivial⟩ (Or.inl ⟨by rfl, ?_⟩) ?_
  rotate_left
  · intro wq hSw; obtain ⟨s0, s1, s2⟩ := hSw; go_simp; rfl
  simp only [Act.put]
  refine gate_one (i := 12) (by kernel_rfl) rfl (fun K hK => ?_)
  go_simp
  refine (HSV.out w.drew (Lat.drew w)).mono ?_
  rintro e w6 ⟨hb6, hend⟩
  have hF' : w6.cell? ⟨x, 1, none⟩ = some (.int .i64 k) ∧ w6.cell? ⟨x, 2, none⟩ = some (.int .i64 m) ∧ w6.cell? ⟨x, 5, none⟩ = some (.slice a ln cap) := ⟨hb6.cell_at hF.1, hb6.cell_at hF.2.1, hb6.cell_at hF.2.2⟩
  have hK2 := fun v => hK v w6
  rcases hend with ⟨hc, rfl⟩ | ⟨hc, hr, rfl⟩ | ⟨hc, hr, g, rfl, hblk⟩
  · refine hK _ _ ⟨hF', fun _ => trivial⟩ ?_
    clear hK K hF hK2
    have hF := hF'
    clear hF'
    refine gate_takeF (i := 13) (v := ?_) rfl (by kernel_rfl) (by kernel_rfl) (by kernel_rfl) (fun _ _ _ h => h) (by decide) ⟨hF, fun _ => trivial⟩ (Or.inl ⟨by rfl, ?_⟩) ?_
    rotate_left
    · intro wq hSw; obtain ⟨s0, s1, s2⟩ := hSw; go_simp; rfl
    simp only [Act.put]
    refine gate_takeF (i := 14) (v := ?_) rfl (by kernel_rfl) (by kernel_rfl) (by kernel_rfl) (fun _ _ _ h => h) (by decide) ⟨hF, fun _ => trivial⟩ (Or.inl ⟨by rfl, ?_⟩) ?_
    rotate_left
    · intro wq hSw; obtain ⟨s0, s1, s2⟩ := hSw; go_simp; rfl
    simp only [Act.put]
    refine gate_takeF (i := 15) (v := ?_) rfl (by kernel_rfl) (by kernel_rfl) (by kernel_rfl) (fun _ _ _ h => h) (by decide) ⟨hF, fun _ => trivial⟩ (Or.inl ⟨by rfl, ?_⟩) ?_
    rotate_left
    · intro wq hSw; obtain ⟨s0, s1, s2⟩ := hSw; go_simp; rfl
    simp only [Act.put]
    refine gate_takeF (i := 16) (v := ?_) rfl (by kernel_rfl) (by kernel_rfl) (by kernel_rfl) (fun _ _ _ h => h) (by decide) ⟨hF, fun _ => trivial⟩ (Or.inl ⟨by rfl, ?_⟩) ?_
    rotate_left
    · intro wq hSw; obtain ⟨s0, s1, s2⟩ := hSw; go_simp; rfl
    simp only [Act.put]
    refine gate_takeF (i := 17) (v := ?_) rfl (by kernel_rfl) (by kernel_rfl) (by kernel_rfl) (fun _ _ _ h => h) (by decide) ⟨hF, fun _ => trivial⟩ (Or.inl ⟨by rfl, ?_⟩) ?_
    rotate_left
    · intro wq hSw; obtain ⟨s0, s1, s2⟩ := hSw; go_simp; rfl
    simp only [Act.put]
    refine gate_done (by kernel_rfl) ?_ _
    have HL := Lib.hid ((Lat.drew w).trans hb6)
    clear hb6 hF
    simp only [List.getElem_toArray, List.getElem_cons_succ, List.getElem_cons_zero]
    go_simp
    go_wp2
    go_ret2
    have x1 : E = 7 := by rw [HE.out, if_pos hc]
    have x2 : SS = .empty := by rw [HS.out, if_pos hc]
    exact ⟨by rw [x1, x2]; rfl, HL.out⟩
  · refine hK _ _ ⟨hF', fun _ => trivial⟩ ?_
    clear hK K hF hK2
    have hF := hF'
    clear hF'
    refine gate_takeF (i := 13) (v := ?_) rfl (by kernel_rfl) (by kernel_rfl) (by kernel_rfl) (fun _ _ _ h => h) (by decide) ⟨hF, fun _ => trivial⟩ (Or.inl ⟨by rfl, ?_⟩) ?_
    rotate_left
    · intro wq hSw; obtain ⟨s0, s1, s2⟩ := hSw; go_simp; rfl
    simp only [Act.put]
    refine gate_takeF (i := 14) (v := ?_) rfl (by kernel_rfl) (by kernel_rfl) (by kernel_rfl) (fun _ _ _ h => h) (by decide) ⟨hF, fun _ => trivial⟩ (Or.inl ⟨by rfl, ?_⟩) ?_
    rotate_left
    · intro wq hSw; obtain ⟨s0, s1, s2⟩ := hSw; go_simp; rfl
    simp only [Act.put]
    refine gate_takeF (i := 15) (v := ?_) rfl (by kernel_rfl) (by kernel_rfl) (by kernel_rfl) (fun _ _ _ h => h) (by decide) ⟨hF, fun _ => trivial⟩ (Or.inl ⟨by rfl, ?_⟩) ?_
    rotate_left
    · intro wq hSw; obtain ⟨s0, s1, s2⟩ := hSw; go_simp; rfl
    simp only [Act.put]
    refine gate_takeF (i := 16) (v := ?_) rfl (by kernel_rfl) (by kernel_rfl) (by kernel_rfl) (fun _ _ _ h => h) (by decide) ⟨hF, fun _ => trivial⟩ (Or.inl ⟨by rfl, ?_⟩) ?_
    rotate_left
    · intro wq hSw; obtain ⟨s0, s1, s2⟩ := hSw; go_simp; rfl
    simp only [Act.put]
    refine gate_takeF (i := 17) (v := ?_) rfl (by kernel_rfl) (by kernel_rfl) (by kernel_rfl) (fun _ _ _ h => h) (by decide) ⟨hF, fun _ => trivial⟩ (Or.inl ⟨by rfl, ?_⟩) ?_
    rotate_left
    · intro wq hSw; obtain ⟨s0, s1, s2⟩ := hSw; go_simp; rfl
    simp only [Act.put]
    refine gate_done (by kernel_rfl) ?_ _
    have HL := Lib.hid ((Lat.drew w).trans hb6)
    clear hb6 hF
    simp only [List.getElem_toArray, List.getElem_cons_succ, List.getElem_cons_zero]
    go_simp
    go_wp2
    go_ret2
    have x1 : E = 8 := by rw [HE.out, if_neg (by rw [hc]; decide), if_pos hr]
    have x2 : SS = .empty := by rw [HS.out, if_neg (by rw [hc]; decide), if_pos hr]
    exact ⟨by rw [x1, x2]; rfl, HL.out⟩
  · have hst := blk_slv hblk h2 (HO.out hc hr)
    refine hK _ _ ⟨hF', fun _ => trivial⟩ ?_
    clear hK K hF hK2
    have hF := hF'
    clear hF'
    refine gate_takeF (i := 13) (v := ?_) rfl (by kernel_rfl) (by kernel_rfl) (by kernel_rfl) (fun _ _ _ h => h) (by decide) ⟨hF, fun _ => trivial⟩ (Or.inl ⟨by rfl, ?_⟩) ?_
    rotate_left
    · intro wq hSw; obtain ⟨s0, s1, s2⟩ := hSw; go_simp; rfl
    simp only [Act.put]
    refine gate_takeF (i := 14) (v := ?_) rfl (by kernel_rfl) (by kernel_rfl) (by kernel_rfl) (fun _ _ _ h => h) (by decide) ⟨hF, fun _ => trivial⟩ (Or.inl ⟨by rfl, ?_⟩) ?_
    rotate_left
    · intro wq hSw; obtain ⟨s0, s1, s2⟩ := hSw; go_simp; rfl
    simp only [Act.put]
    refine gate_takeF (i := 15) (v := ?_) rfl (by kernel_rfl) (by kernel_rfl) (by kernel_rfl) (fun _ _ _ h => h) (by decide) ⟨hF, fun _ => trivial⟩ (Or.inl ⟨by rfl, ?_⟩) ?_
    rotate_left
    · intro wq hSw; obtain ⟨s0, s1, s2⟩ := hSw; go_simp; rfl
    simp only [Act.put]
    refine gate_takeF (i := 16) (v := ?_) rfl (by kernel_rfl) (by kernel_rfl) (by kernel_rfl) (fun _ _ _ h => h) (by decide) ⟨hF, fun _ => trivial⟩ (Or.inl ⟨by rfl, ?_⟩) ?_
    rotate_left
    · intro wq hSw; obtain ⟨s0, s1, s2⟩ := hSw; go_simp; rfl
    simp only [Act.put]
    refine gate_takeF (i := 17) (v := ?_) rfl (by kernel_rfl) (by kernel_rfl) (by kernel_rfl) (fun _ _ _ h => h) (by decide) ⟨hF, fun _ => trivial⟩ (Or.inl ⟨by rfl, ?_⟩) ?_
    rotate_left
    · intro wq hSw; obtain ⟨s0, s1, s2⟩ := hSw; go_simp; rfl
    simp only [Act.put]
    refine gate_done (by kernel_rfl) ?_ _
    have HL := Lib.hid ((Lat.drew w).trans hb6)
    clear hb6 hF
    simp only [List.getElem_toArray, List.getElem_cons_succ, List.getElem_cons_zero]
    go_simp
    have c3 := HL.out.cell_at HH.out.c3
    have HST := Lib.hid hst
    clear hst hblk
    go_wp2_with (go_at_call 58; refine (join_any _ k k _ (n : Int) _ HST.out).mono ?_; rintro e w7 ⟨rfl, hb7⟩)
    go_ret2
    have x1 : E = jnE ((List.range k).map fun j => S (o j)) n := by rw [HE.out, if_neg (by rw [hc]; decide), if_neg (by omega)]
    have x2 : SS = jnS ((List.range k).map fun j => S (o j)) n := by rw [HS.out, if_neg (by rw [hc]; decide), if_neg (by omega)]
    exact ⟨by rw [x1, x2]; rfl, HL.out.trans hb7⟩
end Go.Proofs.YtheimfdbadjpoaaGreatDoor

namespace Go.Proofs.YtheimfdbadjpoaaGreatDoor
open Go.ChangeShapes Go.WideShapes Go.ChangeAt Go.RowKit

structure HB (w : World) (X : Nat) (s : Int) (t : Bts) (W : World) : Prop where
  lo : w.heap.size ≤ X
  lt : X + 1 < W.heap.size
  c0 : W.cell? ⟨X, 0, none⟩ = some (.int .i64 s)
  c1 : W.cell? ⟨X, 1, none⟩ = some (.string (S t))
  r0 : W.cell? ⟨X + 1, 0, none⟩ = some (.int .i64 0)
  r1 : W.cell? ⟨X + 1, 1, none⟩ = some (.int .i64 0)
  r2 : W.cell? ⟨X + 1, 2, none⟩ = some (.int .i64 0)
  g0 : W.frozen? ⟨X + 1, 0, none⟩ = false
  g1 : W.frozen? ⟨X + 1, 1, none⟩ = false
  g2 : W.frozen? ⟨X + 1, 2, none⟩ = false
theorem HB.fr {w : World} {X : Nat} {s : Int} {t : Bts} {W W' : World} {H : Nat → Prop} (h : HB w X s t W) (hf : Fr H W W') (hH : ∀ i, H i → i < w.heap.size) : HB w X s t W' := by
  have lo := h.lo
  have lt := h.lt
  have n0 : ¬ H X := fun e => by have := hH X e; omega
  have n1 : ¬ H (X + 1) := fun e => by have := hH (X + 1) e; omega
  exact ⟨lo, Nat.lt_of_lt_of_le lt hf.size, hf.cell_at h.c0 n0, hf.cell_at h.c1 n0, hf.cell_at h.r0 n1, hf.cell_at h.r1 n1, hf.cell_at h.r2 n1, hf.free_at lt h.g0 n1, hf.free_at lt h.g1 n1, hf.free_at lt h.g2 n1⟩
theorem HB.keep {w : World} {X : Nat} {s : Int} {t : Bts} {W W' : World} (h : HB w X s t W) (hb : Lat W W') : HB w X s t W' := h.fr (H := fun _ => False) (Fr.lat hb) (fun _ e => e.elim)
structure HL (w : World) (X : Nat) (s : Int) (t : Bts) (W : World) : Prop extends HB w X s t W where
  lat : Lat w W
theorem HL.keep {w : World} {X : Nat} {s : Int} {t : Bts} {W W' : World} (h : HL w X s t W) (hb : Lat W W') : HL w X s t W' := ⟨h.toHB.keep hb, h.lat.trans hb⟩
theorem HL.new (w : World) (s : Int) (t : Bts) : HL w w.heap.size s t ((w.alloc (.cells #[.int .i64 s, .string (S t)] 43)).alloc (.cells #[.int .i64 0, .int .i64 0, .int .i64 0] 47)) := by
  obtain ⟨W1, hW⟩ : ∃ W1, W1 = w.alloc (.cells #[.int .i64 s, .string (S t)] 43) := ⟨_, rfl⟩
  have hz : W1.heap.size = w.heap.size + 1 := by rw [hW]; simp
  have c0 : W1.cell? ⟨w.heap.size, 0, none⟩ = some (.int .i64 s) := by rw [hW]; simp
  have c1 : W1.cell? ⟨w.heap.size, 1, none⟩ = some (.string (S t)) := by rw [hW]; simp
  have hl : Lat w W1 := by rw [hW]; exact Lat.alloc _ _
  rw [← hW]
  refine ⟨⟨Nat.le_refl _, by simp [hz], (Lat.alloc _ _).cell_at c0, (Lat.alloc _ _).cell_at c1, ?_, ?_, ?_, ?_, ?_, ?_⟩, hl.trans (Lat.alloc _ _)⟩
  all_goals (rw [← hz]; simp)
theorem three_put {w : World} {g : Nat} {a b c : Value} (c0 : w.cell? ⟨g, 0, none⟩ = some a) (c1 : w.cell? ⟨g, 1, none⟩ = some b) (c2 : w.cell? ⟨g, 2, none⟩ = some c) (x y z : Value) :
    (((w.setCell ⟨g, 0, none⟩ x).setCell ⟨g, 1, none⟩ y).setCell ⟨g, 2, none⟩ z).cell? ⟨g, 0, none⟩ = some x ∧ (((w.setCell ⟨g, 0, none⟩ x).setCell ⟨g, 1, none⟩ y).setCell ⟨g, 2, none⟩ z).cell? ⟨g, 1, none⟩ = some y ∧ (((w.setCell ⟨g, 0, none⟩ x).setCell ⟨g, 1, none⟩ y).setCell ⟨g, 2, none⟩ z).cell? ⟨g, 2, none⟩ = some z := by
  have q := two_put c0 c1 x y
  refine ⟨?_, ?_, ?_⟩
  · rw [World.cell?_setCell_other _ _ _ _ (by simp)]; exact q.1
  · rw [World.cell?_setCell_other _ _ _ _ (by simp)]; exact q.2
  · exact World.cell?_setCell_same _ _ _ ((World.cell?_setCell_other _ _ _ _ (by simp)).trans ((World.cell?_setCell_other _ _ _ _ (by simp)).trans c2))

def hrE (k m : Nat) (ds : List Dr) (s : Int) (t : Bts) : Nat := if drpE k m s (S t) ≠ 0 then drpE k m s (S t) else if 60 ≤ ds.length then 4 else 0
theorem hrE_zero {k m : Nat} {ds : List Dr} {s : Int} {t : Bts} (h : hrE k m ds s t = 0) : drpE k m s (S t) = 0 ∧ ds.length < 60 := by
  unfold hrE at h
  by_cases h1 : drpE k m s (S t) = 0
  · rw [if_neg (fun e => e h1)] at h
    split at h
    · cases h
    · exact ⟨h1, by omega⟩
  · rw [if_pos h1] at h; exact absurd h h1

set_option maxHeartbeats 4000000 in
set_option maxRecDepth 100000 in
theorem ear_hear_bad (G : Nat → Prop) (x k m n : Nat) (q : Int) (K0 : Kn) (L : List Wt) (ds : List Dr) (s : Int) (t : Bts) (w : World) (h : EarO G x k m n q K0 L ds w) (hE : hrE k m ds s t ≠ 0) :
    Calls Tryz.prog 15 #[.pointer (some ⟨x, 0, none⟩), .agg #[.int .i64 s, .string (S t)]] w fun e w' => e = .returned (.tuple #[.agg #[.int .i64 0, .int .i64 0, .int .i64 0], eno (hrE k m ds s t)]) ∧ Lat w w' := by
  obtain ⟨Gp, p, a, cap, h⟩ := h
  have hck := fun W => dchk_tells k m s (S t) W
  have HH := Lib.hid h
  by_cases h1 : drpE k m s (S t) = 0
  · have hfull : 60 ≤ ds.length := by
      rcases Nat.lt_or_ge ds.length 60 with h3 | h3
      · exact absurd (by unfold hrE; rw [if_neg (fun e => e h1), if_neg (by omega)]) hE
      · exact h3
    have e1 : hrE k m ds s t = 4 := by unfold hrE; rw [if_neg (fun e => e h1), if_pos hfull]
    rw [e1]
    rw [h1, errv_zero rfl] at hck
    have HCK : Hid (∀ W, Calls Tryz.prog 52 #[.int .i64 k, .int .i64 m, .agg #[.int .i64 s, .string (S t)]] W fun e w' => e = .returned .nilIface ∧ Lat W w') := hck
    obtain ⟨ln, hln⟩ : ∃ ln, ln = ds.length := ⟨_, rfl⟩
    have d60 : decide ((60 : Int) ≤ (ln : Int)) = true := decide_eq_true (by omega)
    have HLN := Lib.hid hln
    clear h hck h1 hE e1 hfull hln
    go_enter Tryz.func15, Tryz.ntmps15
    go_upto_region 1 with fail
    obtain ⟨X, hX⟩ : ∃ X, X = w.heap.size := ⟨_, rfl⟩
    obtain ⟨W0, hW0⟩ : ∃ W0, W0 = (w.alloc (.cells #[.int .i64 s, .string (S t)] 43)).alloc (.cells #[.int .i64 0, .int .i64 0, .int .i64 0] 47) := ⟨_, rfl⟩
    have hb0 := HL.new w s t
    rw [← hW0] at hb0
    rw [← hW0]
    rw [← hX] at hb0
    rw [← hX]
    have HX : Hid (X = w.heap.size) := hX
    clear hW0 hX
    have hF : W0.drew.cell? ⟨x, 1, none⟩ = some (.int .i64 k) ∧ W0.drew.cell? ⟨x, 2, none⟩ = some (.int .i64 m) ∧ W0.drew.cell? ⟨X, 0, none⟩ = some (.int .i64 s) ∧ W0.drew.cell? ⟨X, 1, none⟩ = some (.string (S t)) := ⟨hb0.lat.cell_at HH.out.c1, hb0.lat.cell_at HH.out.c2, hb0.c0, hb0.c1⟩
    have HB0 := Lib.hid (hb0.keep (Lat.drew W0))
    clear hb0
    refine wp_region_gate (fun w' => w'.cell? ⟨x, 1, none⟩ = some (.int .i64 k) ∧ w'.cell? ⟨x, 2, none⟩ = some (.int .i64 m) ∧ w'.cell? ⟨X, 0, none⟩ = some (.int .i64 s) ∧ w'.cell? ⟨X, 1, none⟩ = some (.string (S t))) (fun _ => True) 1000 (by kernel_rfl) ?_
    refine gate_takeF (i := 0) (v := ?_) rfl (by kernel_rfl) (by kernel_rfl) (by kernel_rfl) (fun _ _ _ h => h) (by decide) ⟨hF, fun _ => trivial⟩ (Or.inl ⟨by rfl, ?_⟩) ?_
    rotate_left
    · intro wq hSw; obtain ⟨s0, s1, s2, s3⟩ := hSw; go_simp; rfl
    simp only [Act.put]
    refine gate_takeF (i := 1) (v := ?_) rfl (by kernel_rfl) (by kernel_rfl) (by kernel_rfl) (fun _ _ _ h => h) (by decide) ⟨hF, fun _ => trivial⟩ (Or.inl ⟨by rfl, ?_⟩) ?_
    rotate_left
    · intro wq hSw; obtain ⟨s0, s1, s2, s3⟩ := hSw; go_simp; rfl
    simp only [Act.put]
    refine gate_takeF (i := 2) (v := ?_) rfl (by kernel_rfl) (by kernel_rfl) (by kernel_rfl) (fun _ _ _ h => h) (by decide) ⟨hF, fun _ => trivial⟩ (Or.inl ⟨by rfl, ?_⟩) ?_
    rotate_left
    · intro wq hSw; obtain ⟨s0, s1, s2, s3⟩ := hSw; go_simp; rfl
    simp only [Act.put]
    refine gate_takeF (i := 3) (v := ?_) rfl (by kernel_rfl) (by kernel_rfl) (by kernel_rfl) (fun _ _ _ h => h) (by decide) ⟨hF, fun _ => trivial⟩ (Or.inl ⟨by rfl, ?_⟩) ?_
    rotate_left
    · intro wq hSw; obtain ⟨s0, s1, s2, s3⟩ := hSw; go_simp; rfl
    simp only [Act.put]
    refine gate_takeF (i := 4) (v := ?_) rfl (by kernel_rfl) (by kernel_rfl) (by kernel_rfl) (fun _ _ _ h => h) (by decide) ⟨hF, fun _ => trivial⟩ (Or.inl ⟨by rfl, ?_⟩) ?_
    rotate_left
    · intro wq hSw; obtain ⟨s0, s1, s2, s3⟩ := hSw; go_simp; rfl
    simp only [Act.put]
    refine gate_takeF (i := 5) (v := ?_) rfl (by kernel_rfl) (by kernel_rfl) (by kernel_rfl) (fun _ _ _ h => h) (by decide) ⟨hF, fun _ => trivial⟩ (Or.inl ⟨by rfl, ?_⟩) ?_
    rotate_left
    · intro wq hSw; obtain ⟨s0, s1, s2, s3⟩ := hSw; go_simp; rfl
    simp only [Act.put]
    refine gate_takeF (i := 6) (v := ?_) rfl (by kernel_rfl) (by kernel_rfl) (by kernel_rfl) (fun _ _ _ h => h) (by decide) ⟨hF, fun _ => trivial⟩ (Or.inl ⟨by rfl, ?_⟩) ?_
    rotate_left
    · intro wq hSw; obtain ⟨s0, s1, s2, s3⟩ := hSw; go_simp; rfl
    simp only [Act.put]
    refine gate_takeF (i := 7) (v := ?_) rfl (by kernel_rfl) (by kernel_rfl) (by kernel_rfl) (fun _ _ _ h => h) (by decide) ⟨hF, fun _ => trivial⟩ (Or.inl ⟨by rfl, ?_⟩) ?_
    rotate_left
    · intro wq hSw; obtain ⟨s0, s1, s2, s3⟩ := hSw; go_simp; rfl
    simp only [Act.put]
    refine gate_takeF (i := 8) (v := ?_) rfl (by kernel_rfl) (by kernel_rfl) (by kernel_rfl) (fun _ _ _ h => h) (by decide) ⟨hF, fun _ => trivial⟩ (Or.inl ⟨by rfl, ?_⟩) ?_
    rotate_left
    · intro wq hSw; obtain ⟨s0, s1, s2, s3⟩ := hSw; go_simp; rfl
    simp only [Act.put]
    refine gate_one (i := 9) (by kernel_rfl) rfl (fun K hK => ?_)
    go_simp
    refine (HCK.out _).mono ?_
    rintro e w5 ⟨rfl, hb5⟩
    have hF' : w5.cell? ⟨x, 1, none⟩ = some (.int .i64 k) ∧ w5.cell? ⟨x, 2, none⟩ = some (.int .i64 m) ∧ w5.cell? ⟨X, 0, none⟩ = some (.int .i64 s) ∧ w5.cell? ⟨X, 1, none⟩ = some (.string (S t)) := ⟨hb5.cell_at hF.1, hb5.cell_at hF.2.1, hb5.cell_at hF.2.2.1, hb5.cell_at hF.2.2.2⟩
    refine hK _ _ ⟨hF', fun _ => trivial⟩ ?_
    clear hK K hF
    have hF := hF'
    clear hF'
    refine gate_takeF (i := 10) (v := ?_) rfl (by kernel_rfl) (by kernel_rfl) (by kernel_rfl) (fun _ _ _ h => h) (by decide) ⟨hF, fun _ => trivial⟩ (Or.inl ⟨by rfl, ?_⟩) ?_
    rotate_left
    · intro wq hSw; obtain ⟨s0, s1, s2, s3⟩ := hSw; go_simp; rfl
    simp only [Act.put]
    refine gate_done (by kernel_rfl) ?_ _
    have HB5 := Lib.hid (HB0.out.keep hb5)
    clear hb5 HB0 hF
    have c5 := HB5.out.lat.cell_at HH.out.c5
    rw [← HLN.out] at c5
    have e0 := HB5.out.r0
    have e1 := HB5.out.r1
    have e2 := HB5.out.r2
    have g0 := HB5.out.g0
    have g1 := HB5.out.g1
    have g2 := HB5.out.g2
    have QQ := three_put e0 e1 e2 (.int .i64 0) (.int .i64 0) (.int .i64 0)
    have hl : Lat w (((w5.setCell ⟨X + 1, 0, none⟩ (.int .i64 0)).setCell ⟨X + 1, 1, none⟩ (.int .i64 0)).setCell ⟨X + 1, 2, none⟩ (.int .i64 0)) := by
      have hw1 : w.heap.size ≤ X + 1 := by have := HX.out; omega
      exact ((HB5.out.lat.setCell (p := ⟨X + 1, 0, none⟩) hw1 _).setCell (p := ⟨X + 1, 1, none⟩) hw1 _).setCell (p := ⟨X + 1, 2, none⟩) hw1 _
    have HQ := Lib.hid QQ; have HLL := Lib.hid hl
    clear QQ hl
    go_wp2
    have Q0 := HQ.out
    exact bodyPost_ret (v := .tuple #[.agg #[.int .i64 0, .int .i64 0, .int .i64 0], eno 4]) (by simp [results, Tryz.results15, go_sem, Q0.1, Q0.2.1, Q0.2.2]) rfl ⟨rfl, HLL.out⟩
  · have e1 : hrE k m ds s t = drpE k m s (S t) := by unfold hrE; rw [if_pos h1]
    rw [e1]
    rw [errv_pos h1] at hck
    obtain ⟨E, hEE⟩ : ∃ E, E = drpE k m s (S t) := ⟨_, rfl⟩
    rw [← hEE] at hck ⊢
    have HCK : Hid (∀ W, Calls Tryz.prog 52 #[.int .i64 k, .int .i64 m, .agg #[.int .i64 s, .string (S t)]] W fun e w' => e = .returned (eno E) ∧ Lat W w') := hck
    clear h hck h1 hE hEE e1
    go_enter Tryz.func15, Tryz.ntmps15
    go_upto_region 1 with fail
    obtain ⟨X, hX⟩ : ∃ X, X = w.heap.size := ⟨_, rfl⟩
    obtain ⟨W0, hW0⟩ : ∃ W0, W0 = (w.alloc (.cells #[.int .i64 s, .string (S t)] 43)).alloc (.cells #[.int .i64 0, .int .i64 0, .int .i64 0] 47) := ⟨_, rfl⟩
    have hb0 := HL.new w s t
    rw [← hW0] at hb0
    rw [← hW0]
    rw [← hX] at hb0
    rw [← hX]
    have HX : Hid (X = w.heap.size) := hX
    clear hW0 hX
    have hF : W0.drew.cell? ⟨x, 1, none⟩ = some (.int .i64 k) ∧ W0.drew.cell? ⟨x, 2, none⟩ = some (.int .i64 m) ∧ W0.drew.cell? ⟨X, 0, none⟩ = some (.int .i64 s) ∧ W0.drew.cell? ⟨X, 1, none⟩ = some (.string (S t)) := ⟨hb0.lat.cell_at HH.out.c1, hb0.lat.cell_at HH.out.c2, hb0.c0, hb0.c1⟩
    have HB0 := Lib.hid (hb0.keep (Lat.drew W0))
    clear hb0
    refine wp_region_gate (fun w' => w'.cell? ⟨x, 1, none⟩ = some (.int .i64 k) ∧ w'.cell? ⟨x, 2, none⟩ = some (.int .i64 m) ∧ w'.cell? ⟨X, 0, none⟩ = some (.int .i64 s) ∧ w'.cell? ⟨X, 1, none⟩ = some (.string (S t))) (fun _ => True) 1000 (by kernel_rfl) ?_
    refine gate_takeF (i := 0) (v := ?_) rfl (by kernel_rfl) (by kernel_rfl) (by kernel_rfl) (fun _ _ _ h => h) (by decide) ⟨hF, fun _ => trivial⟩ (Or.inl ⟨by rfl, ?_⟩) ?_
    rotate_left
    · intro wq hSw; obtain ⟨s0, s1, s2, s3⟩ := hSw; go_simp; rfl
    simp only [Act.put]
    refine gate_takeF (i := 1) (v := ?_) rfl (by kernel_rfl) (by kernel_rfl) (by kernel_rfl) (fun _ _ _ h => h) (by decide) ⟨hF, fun _ => trivial⟩ (Or.inl ⟨by rfl, ?_⟩) ?_
    rotate_left
    · intro wq hSw; obtain ⟨s0, s1, s2, s3⟩ := hSw; go_simp; rfl
    simp only [Act.put]
    refine gate_takeF (i := 2) (v := ?_) rfl (by kernel_rfl) (by kernel_rfl) (by kernel_rfl) (fun _ _ _ h => h) (by decide) ⟨hF, fun _ => trivial⟩ (Or.inl ⟨by rfl, ?_⟩) ?_
    rotate_left
    · intro wq hSw; obtain ⟨s0, s1, s2, s3⟩ := hSw; go_simp; rfl
    simp only [Act.put]
    refine gate_takeF (i := 3) (v := ?_) rfl (by kernel_rfl) (by kernel_rfl) (by kernel_rfl) (fun _ _ _ h => h) (by decide) ⟨hF, fun _ => trivial⟩ (Or.inl ⟨by rfl, ?_⟩) ?_
    rotate_left
    · intro wq hSw; obtain ⟨s0, s1, s2, s3⟩ := hSw; go_simp; rfl
    simp only [Act.put]
    refine gate_takeF (i := 4) (v := ?_) rfl (by kernel_rfl) (by kernel_rfl) (by kernel_rfl) (fun _ _ _ h => h) (by decide) ⟨hF, fun _ => trivial⟩ (Or.inl ⟨by rfl, ?_⟩) ?_
    rotate_left
    · intro wq hSw; obtain ⟨s0, s1, s2, s3⟩ := hSw; go_simp; rfl
    simp only [Act.put]
    refine gate_takeF (i := 5) (v := ?_) rfl (by kernel_rfl) (by kernel_rfl) (by kernel_rfl) (fun _ _ _ h => h) (by decide) ⟨hF, fun _ => trivial⟩ (Or.inl ⟨by rfl, ?_⟩) ?_
    rotate_left
    · intro wq hSw; obtain ⟨s0, s1, s2, s3⟩ := hSw; go_simp; rfl
    simp only [Act.put]
    refine gate_takeF (i := 6) (v := ?_) rfl (by kernel_rfl) (by kernel_rfl) (by kernel_rfl) (fun _ _ _ h => h) (by decide) ⟨hF, fun _ => trivial⟩ (Or.inl ⟨by rfl, ?_⟩) ?_
    rotate_left
    · intro wq hSw; obtain ⟨s0, s1, s2, s3⟩ := hSw; go_simp; rfl
    simp only [Act.put]
    refine gate_takeF (i := 7) (v := ?_) rfl (by kernel_rfl) (by kernel_rfl) (by kernel_rfl) (fun _ _ _ h => h) (by decide) ⟨hF, fun _ => trivial⟩ (Or.inl ⟨by rfl, ?_⟩) ?_
    rotate_left
    · intro wq hSw; obtain ⟨s0, s1, s2, s3⟩ := hSw; go_simp; rfl
    simp only [Act.put]
    refine gate_takeF (i := 8) (v := ?_) rfl (by kernel_rfl) (by kernel_rfl) (by kernel_rfl) (fun _ _ _ h => h) (by decide) ⟨hF, fun _ => trivial⟩ (Or.inl ⟨by rfl, ?_⟩) ?_
    rotate_left
    · intro wq hSw; obtain ⟨s0, s1, s2, s3⟩ := hSw; go_simp; rfl
    simp only [Act.put]
    refine gate_one (i := 9) (by kernel_rfl) rfl (fun K hK => ?_)
    go_simp
    refine (HCK.out _).mono ?_
    rintro e w5 ⟨rfl, hb5⟩
    have hF' : w5.cell? ⟨x, 1, none⟩ = some (.int .i64 k) ∧ w5.cell? ⟨x, 2, none⟩ = some (.int .i64 m) ∧ w5.cell? ⟨X, 0, none⟩ = some (.int .i64 s) ∧ w5.cell? ⟨X, 1, none⟩ = some (.string (S t)) := ⟨hb5.cell_at hF.1, hb5.cell_at hF.2.1, hb5.cell_at hF.2.2.1, hb5.cell_at hF.2.2.2⟩
    refine hK _ _ ⟨hF', fun _ => trivial⟩ ?_
    clear hK K hF
    have hF := hF'
    clear hF'
    refine gate_takeF (i := 10) (v := ?_) rfl (by kernel_rfl) (by kernel_rfl) (by kernel_rfl) (fun _ _ _ h => h) (by decide) ⟨hF, fun _ => trivial⟩ (Or.inl ⟨by rfl, ?_⟩) ?_
    rotate_left
    · intro wq hSw; obtain ⟨s0, s1, s2, s3⟩ := hSw; go_simp; rfl
    simp only [Act.put]
    refine gate_done (by kernel_rfl) ?_ _
    have HB5 := Lib.hid (HB0.out.keep hb5)
    clear hb5 HB0 hF
    have e0 := HB5.out.r0
    have e1 := HB5.out.r1
    have e2 := HB5.out.r2
    have g0 := HB5.out.g0
    have g1 := HB5.out.g1
    have g2 := HB5.out.g2
    have QQ := three_put e0 e1 e2 (.int .i64 0) (.int .i64 0) (.int .i64 0)
    have hl : Lat w (((w5.setCell ⟨X + 1, 0, none⟩ (.int .i64 0)).setCell ⟨X + 1, 1, none⟩ (.int .i64 0)).setCell ⟨X + 1, 2, none⟩ (.int .i64 0)) := by
      have hw1 : w.heap.size ≤ X + 1 := by have := HX.out; omega
      exact ((HB5.out.lat.setCell (p := ⟨X + 1, 0, none⟩) hw1 _).setCell (p := ⟨X + 1, 1, none⟩) hw1 _).setCell (p := ⟨X + 1, 2, none⟩) hw1 _
    have HQ := Lib.hid QQ; have HLL := Lib.hid hl
    clear QQ hl
    go_wp2
    have Q0 := HQ.out
    exact bodyPost_ret (v := .tuple #[.agg #[.int .i64 0, .int .i64 0, .int .i64 0], eno E]) (by simp [results, Tryz.results15, go_sem, Q0.1, Q0.2.1, Q0.2.2]) rfl ⟨rfl, HLL.out⟩

set_option maxHeartbeats 4000000 in
set_option maxRecDepth 100000 in
theorem ear_hear_old (G : Nat → Prop) (x k m n : Nat) (q : Int) (K0 : Kn) (L : List Wt) (ds : List Dr) (s : Int) (t : Bts) (w : World) (h : EarO G x k m n q K0 L ds w) (hE : hrE k m ds s t = 0) (hmem : s ∈ ds.map Dr.s) (qn : Int) (hqn : wrap64 (q + 1) = qn) :
    Calls Tryz.prog 15 #[.pointer (some ⟨x, 0, none⟩), .agg #[.int .i64 s, .string (S t)]] w fun e w' => e = .returned (.tuple #[.agg #[.int .i64 qn, .int .i64 (ds.length : Nat), .int .i64 ((knwL K0 k).length : Nat)], .nilIface]) ∧ EarStep G x k m n qn K0 L ds w w' := by
  obtain ⟨Gp, p, a, cap, h⟩ := h
  obtain ⟨hde, hl60⟩ := hrE_zero hE
  have hck := fun W => dchk_tells k m s (S t) W
  rw [hde, errv_zero rfl] at hck
  have hd2 := drpE_zero hde
  have hk16 : k ≤ 16 := by omega
  have HCK : Hid (∀ W, Calls Tryz.prog 52 #[.int .i64 k, .int .i64 m, .agg #[.int .i64 s, .string (S t)]] W fun e w' => e = .returned .nilIface ∧ Lat W w') := hck
  obtain ⟨ln, hln⟩ : ∃ ln, ln = ds.length := ⟨_, rfl⟩
  have d60 : decide ((60 : Int) ≤ (ln : Int)) = false := decide_eq_false (by omega)
  obtain ⟨kb, tb, hm2, hm3, hgp⟩ : ∃ kb tb, w.cell? ⟨p, 2, none⟩ = some (.map (some kb)) ∧ w.cell? ⟨p, 3, none⟩ = some (.map (some tb)) ∧ Gp p := by
    obtain ⟨kb, tb, _, _, hpp⟩ := h.peel
    exact ⟨kb, tb, hpp.c2, hpp.c3, hpp.gp⟩
  have HMP := Lib.hid (And.intro hm2 hm3); have HGPP := Lib.hid hgp
  have HPNX : Hid (¬ p = x) := fun e => h.npx (e ▸ hgp)
  have HPL : Hid (p < w.heap.size) := h.lt p (h.sub p hgp)
  clear hm2 hm3 hgp
  have HH := Lib.hid h; have HMEM := Lib.hid hmem; have HDE := Lib.hid hde; have HLN := Lib.hid hln; have HL60 := Lib.hid hl60
  obtain ⟨kn, hkn⟩ : ∃ kn, kn = (knwL K0 k).length := ⟨_, rfl⟩
  have HKN := Lib.hid hkn
  rw [← hln, ← hkn]
  clear h hck hE hde hd2 hln hkn hmem hl60
  go_enter Tryz.func15, Tryz.ntmps15
  go_upto_region 1 with fail
  obtain ⟨X, hX⟩ : ∃ X, X = w.heap.size := ⟨_, rfl⟩
  obtain ⟨W0, hW0⟩ : ∃ W0, W0 = (w.alloc (.cells #[.int .i64 s, .string (S t)] 43)).alloc (.cells #[.int .i64 0, .int .i64 0, .int .i64 0] 47) := ⟨_, rfl⟩
  have hb0 := HL.new w s t
  rw [← hW0] at hb0
  rw [← hW0]
  rw [← hX] at hb0
  rw [← hX]
  have HX : Hid (X = w.heap.size) := hX
  clear hW0 hX
  have hF : W0.drew.cell? ⟨x, 1, none⟩ = some (.int .i64 k) ∧ W0.drew.cell? ⟨x, 2, none⟩ = some (.int .i64 m) ∧ W0.drew.cell? ⟨X, 0, none⟩ = some (.int .i64 s) ∧ W0.drew.cell? ⟨X, 1, none⟩ = some (.string (S t)) := ⟨hb0.lat.cell_at HH.out.c1, hb0.lat.cell_at HH.out.c2, hb0.c0, hb0.c1⟩
  have HB0 := Lib.hid (hb0.keep (Lat.drew W0))
  clear hb0
  refine wp_region_gate (fun w' => w'.cell? ⟨x, 1, none⟩ = some (.int .i64 k) ∧ w'.cell? ⟨x, 2, none⟩ = some (.int .i64 m) ∧ w'.cell? ⟨X, 0, none⟩ = some (.int .i64 s) ∧ w'.cell? ⟨X, 1, none⟩ = some (.string (S t))) (fun _ => True) 1000 (by kernel_rfl) ?_
  refine gate_takeF (i := 0) (v := ?_) rfl (by kernel_rfl) (by kernel_rfl) (by kernel_rfl) (fun _ _ _ h => h) (by decide) ⟨hF, fun _ => trivial⟩ (Or.inl ⟨by rfl, ?_⟩) ?_
  rotate_left
  · intro wq hSw; obtain ⟨s0, s1, s2, s3⟩ := hSw; go_simp; rfl
  simp only [Act.put]
  refine gate_takeF (i := 1) (v := ?_) rfl (by kernel_rfl) (by kernel_rfl) (by kernel_rfl) (fun _ _ _ h => h) (by decide) ⟨hF, fun _ => trivial⟩ (Or.inl ⟨by rfl, ?_⟩) ?_
  rotate_left
  · intro wq hSw; obtain ⟨s0, s1, s2, s3⟩ := hSw; go_simp; rfl
  simp only [Act.put]
  refine gate_takeF (i := 2) (v := ?_) rfl (by kernel_rfl) (by kernel_rfl) (by kernel_rfl) (fun _ _ _ h => h) (by decide) ⟨hF, fun _ => trivial⟩ (Or.inl ⟨by rfl, ?_⟩) ?_
  rotate_left
  · intro wq hSw; obtain ⟨s0, s1, s2, s3⟩ := hSw; go_simp; rfl
  simp only [Act.put]
  refine gate_takeF (i := 3) (v := ?_) rfl (by kernel_rfl) (by kernel_rfl) (by kernel_rfl) (fun _ _ _ h => h) (by decide) ⟨hF, fun _ => trivial⟩ (Or.inl ⟨by rfl, ?_⟩) ?_
  rotate_left
  · intro wq hSw; obtain ⟨s0, s1, s2, s3⟩ := hSw; go_simp; rfl
  simp only [Act.put]
  refine gate_takeF (i := 4) (v := ?_) rfl (by kernel_rfl) (by kernel_rfl) (by kernel_rfl) (fun _ _ _ h => h) (by decide) ⟨hF, fun _ => trivial⟩ (Or.inl ⟨by rfl, ?_⟩) ?_
  rotate_left
  · intro wq hSw; obtain ⟨s0, s1, s2, s3⟩ := hSw; go_simp; rfl
  simp only [Act.put]
  refine gate_takeF (i := 5) (v := ?_) rfl (by kernel_rfl) (by kernel_rfl) (by kernel_rfl) (fun _ _ _ h => h) (by decide) ⟨hF, fun _ => trivial⟩ (Or.inl ⟨by rfl, ?_⟩) ?_
  rotate_left
  · intro wq hSw; obtain ⟨s0, s1, s2, s3⟩ := hSw; go_simp; rfl
  simp only [Act.put]
  refine gate_takeF (i := 6) (v := ?_) rfl (by kernel_rfl) (by kernel_rfl) (by kernel_rfl) (fun _ _ _ h => h) (by decide) ⟨hF, fun _ => trivial⟩ (Or.inl ⟨by rfl, ?_⟩) ?_
  rotate_left
  · intro wq hSw; obtain ⟨s0, s1, s2, s3⟩ := hSw; go_simp; rfl
  simp only [Act.put]
  refine gate_takeF (i := 7) (v := ?_) rfl (by kernel_rfl) (by kernel_rfl) (by kernel_rfl) (fun _ _ _ h => h) (by decide) ⟨hF, fun _ => trivial⟩ (Or.inl ⟨by rfl, ?_⟩) ?_
  rotate_left
  · intro wq hSw; obtain ⟨s0, s1, s2, s3⟩ := hSw; go_simp; rfl
  simp only [Act.put]
  refine gate_takeF (i := 8) (v := ?_) rfl (by kernel_rfl) (by kernel_rfl) (by kernel_rfl) (fun _ _ _ h => h) (by decide) ⟨hF, fun _ => trivial⟩ (Or.inl ⟨by rfl, ?_⟩) ?_
  rotate_left
  · intro wq hSw; obtain ⟨s0, s1, s2, s3⟩ := hSw; go_simp; rfl
  simp only [Act.put]
  refine gate_one (i := 9) (by kernel_rfl) rfl (fun K hK => ?_)
  go_simp
  refine (HCK.out _).mono ?_
  rintro e w5 ⟨rfl, hb5⟩
  have hF' : w5.cell? ⟨x, 1, none⟩ = some (.int .i64 k) ∧ w5.cell? ⟨x, 2, none⟩ = some (.int .i64 m) ∧ w5.cell? ⟨X, 0, none⟩ = some (.int .i64 s) ∧ w5.cell? ⟨X, 1, none⟩ = some (.string (S t)) := ⟨hb5.cell_at hF.1, hb5.cell_at hF.2.1, hb5.cell_at hF.2.2.1, hb5.cell_at hF.2.2.2⟩
  refine hK _ _ ⟨hF', fun _ => trivial⟩ ?_
  clear hK K hF
  have hF := hF'
  clear hF'
  refine gate_takeF (i := 10) (v := ?_) rfl (by kernel_rfl) (by kernel_rfl) (by kernel_rfl) (fun _ _ _ h => h) (by decide) ⟨hF, fun _ => trivial⟩ (Or.inl ⟨by rfl, ?_⟩) ?_
  rotate_left
  · intro wq hSw; obtain ⟨s0, s1, s2, s3⟩ := hSw; go_simp; rfl
  simp only [Act.put]
  refine gate_done (by kernel_rfl) ?_ _
  have HB5 := Lib.hid (HB0.out.keep hb5)
  clear hb5 HB0 hF
  have c5 := HB5.out.lat.cell_at HH.out.c5
  rw [← HLN.out] at c5
  go_upto_region 6 with fail
  clear c5
  have hF : w5.drew.cell? ⟨X, 0, none⟩ = some (.int .i64 s) ∧ w5.drew.cell? ⟨X, 1, none⟩ = some (.string (S t)) := ⟨HB5.out.c0, HB5.out.c1⟩
  have HB6 := Lib.hid (HB5.out.keep (Lat.drew w5))
  refine wp_region_gate (fun w' => w'.cell? ⟨X, 0, none⟩ = some (.int .i64 s) ∧ w'.cell? ⟨X, 1, none⟩ = some (.string (S t))) (fun _ => True) 1000 (by kernel_rfl) ?_
  refine gate_takeF (i := 0) (v := ?_) rfl (by kernel_rfl) (by kernel_rfl) (by kernel_rfl) (fun _ _ _ h => h) (by decide) ⟨hF, fun _ => trivial⟩ (Or.inl ⟨by rfl, ?_⟩) ?_
  rotate_left
  · intro wq hSw; obtain ⟨s0, s1⟩ := hSw; go_simp; rfl
  simp only [Act.put]
  refine gate_takeF (i := 2) (v := ?_) rfl (by kernel_rfl) (by kernel_rfl) (by kernel_rfl) (fun _ _ _ h => h) (by decide) ⟨hF, fun _ => trivial⟩ (Or.inl ⟨by rfl, ?_⟩) ?_
  rotate_left
  · intro wq hSw; obtain ⟨s0, s1⟩ := hSw; go_simp; rfl
  simp only [Act.put]
  refine gate_takeF (i := 3) (v := ?_) rfl (by kernel_rfl) (by kernel_rfl) (by kernel_rfl) (fun _ _ _ h => h) (by decide) ⟨hF, fun _ => trivial⟩ (Or.inl ⟨by rfl, ?_⟩) ?_
  rotate_left
  · intro wq hSw; obtain ⟨s0, s1⟩ := hSw; go_simp; rfl
  simp only [Act.put]
  refine gate_one (i := 1) (by kernel_rfl) rfl (fun K hK => ?_)
  have hsd := ear_seeds G x k m n q K0 L ds w5.drew ⟨Gp, p, a, cap, HH.out.keep HB6.out.lat⟩
  rw [← HLN.out] at hsd
  go_simp
  refine hsd.mono ?_
  rintro e w6 ⟨ya, yc, rfl, hyi, hb6⟩
  have hF' : w6.cell? ⟨X, 0, none⟩ = some (.int .i64 s) ∧ w6.cell? ⟨X, 1, none⟩ = some (.string (S t)) := ⟨hb6.cell_at hF.1, hb6.cell_at hF.2⟩
  refine hK _ _ ⟨hF', fun _ => trivial⟩ ?_
  clear hK K hF hsd
  have hF := hF'
  clear hF'
  refine gate_one (i := 4) (by kernel_rfl) rfl (fun K hK => ?_)
  go_simp
  refine (containsI_yes ya ln yc _ _ w6 hyi HMEM.out).mono ?_
  rintro e w7 ⟨rfl, rfl⟩
  refine hK _ _ ⟨hF, fun _ => trivial⟩ ?_
  clear hK K
  refine gate_takeF (i := 5) (v := ?_) rfl (by kernel_rfl) (by kernel_rfl) (by kernel_rfl) (fun _ _ _ h => h) (by decide) ⟨hF, fun _ => trivial⟩ (Or.inl ⟨by rfl, ?_⟩) ?_
  rotate_left
  · intro wq hSw; obtain ⟨s0, s1⟩ := hSw; go_simp; rfl
  simp only [Act.put]
  refine gate_done (by kernel_rfl) ?_ _
  have HB7 := Lib.hid (HB6.out.keep hb6)
  clear hb6 hyi HB6 hF HB5
  have HE := Lib.hid (HH.out.keep HB7.out.lat)
  have HBB := Lib.hid HB7.out.toHB
  have HFR : Hid (Fr G w w6) := Fr.lat HB7.out.lat
  have HLL : Hid (ds.length = ln) := HLN.out.symm
  have HNX : Hid (∀ i, G i → i ≠ X + 1) := fun i hi e => by have := HH.out.lt i hi; have := HX.out; omega
  have HGI : Hid (∀ i, G i → G i ∨ w.heap.size ≤ i) := fun i hi => .inl hi
  have HM0 := Lib.hid (And.intro (HB7.out.lat.cell_at HMP.out.1) (HB7.out.lat.cell_at HMP.out.2))
  have c4 := HE.out.c4
  have f4 := HE.out.f4
  go_upto_region 12 with fail
  clear c4 f4
  have hcnt := HE.out.count qn
  have hbb := HBB.out.fr (Fr.set (S := fun i => i = x) _ ⟨x, 4, none⟩ (.int .i64 qn) rfl) (fun i e => by rw [e]; exact HH.out.lt x HH.out.gx)
  have hfrc := HFR.out.then_set ⟨x, 4, none⟩ (.int .i64 qn) (.inl HH.out.gx)
  have hm1 := (Fr.set (S := fun i => i = x) w6 ⟨x, 4, none⟩ (.int .i64 qn) rfl).cell_at HM0.out.1 HPNX.out
  have hm2 := (Fr.set (S := fun i => i = x) w6 ⟨x, 4, none⟩ (.int .i64 qn) rfl).cell_at HM0.out.2 HPNX.out
  generalize hwe : World.setCell _ ⟨x, 4, none⟩ (.int .i64 qn) = we at hcnt hbb hfrc hm1 hm2 ⊢
  have HMC := Lib.hid (And.intro hm1 hm2)
  clear hm1 hm2
  have hc4 := hcnt.c4
  have hc5 := hcnt.c5
  rw [HLL.out] at hc5
  have hF : we.drew.cell? ⟨x, 4, none⟩ = some (.int .i64 qn) ∧ we.drew.cell? ⟨x, 5, none⟩ = some (.slice a ln cap) ∧ we.drew.cell? ⟨x, 0, none⟩ = some (.pointer (some ⟨p, 0, none⟩)) := ⟨hc4, hc5, hcnt.c0⟩
  have hG : we.drew.cell? ⟨X + 1, 0, none⟩ = some (.int .i64 0) ∧ we.drew.cell? ⟨X + 1, 1, none⟩ = some (.int .i64 0) ∧ we.drew.cell? ⟨X + 1, 2, none⟩ = some (.int .i64 0) := ⟨hbb.r0, hbb.r1, hbb.r2⟩
  have HEC := Lib.hid hcnt; have HBC := Lib.hid hbb; have HFC := Lib.hid hfrc
  clear hwe hcnt hbb hfrc hc4 hc5 HE HBB HFR
  refine wp_region_gate (fun w' => w'.cell? ⟨x, 4, none⟩ = some (.int .i64 qn) ∧ w'.cell? ⟨x, 5, none⟩ = some (.slice a ln cap) ∧ w'.cell? ⟨x, 0, none⟩ = some (.pointer (some ⟨p, 0, none⟩))) (fun w' => w'.cell? ⟨X + 1, 0, none⟩ = some (.int .i64 0) ∧ w'.cell? ⟨X + 1, 1, none⟩ = some (.int .i64 0) ∧ w'.cell? ⟨X + 1, 2, none⟩ = some (.int .i64 0)) 16 (by kernel_rfl) ?_
  refine gate_takeF (i := 0) (v := ?_) rfl (by kernel_rfl) (by kernel_rfl) (by kernel_rfl) (fun _ _ _ h => h) (by decide) ⟨hF, fun _ => hG⟩ (Or.inl ⟨by rfl, ?_⟩) ?_
  rotate_left
  · intro wq hSw; obtain ⟨s0, s1, s2⟩ := hSw; go_simp; rfl
  simp only [Act.put]
  refine gate_takeF (i := 1) (v := ?_) rfl (by kernel_rfl) (by kernel_rfl) (by kernel_rfl) (fun _ _ _ h => h) (by decide) ⟨hF, fun _ => hG⟩ (Or.inl ⟨by rfl, ?_⟩) ?_
  rotate_left
  · intro wq hSw; obtain ⟨s0, s1, s2⟩ := hSw; go_simp; rfl
  simp only [Act.put]
  refine gate_takeF (i := 2) (v := ?_) rfl (by kernel_rfl) (by kernel_rfl) (by kernel_rfl) (fun _ _ _ h => h) (by decide) ⟨hF, fun _ => hG⟩ (Or.inl ⟨by rfl, ?_⟩) ?_
  rotate_left
  · intro wq hSw; obtain ⟨s0, s1, s2⟩ := hSw; go_simp; rfl
  simp only [Act.put]
  refine gate_takeF (i := 3) (v := ?_) rfl (by kernel_rfl) (by kernel_rfl) (by kernel_rfl) (fun _ _ _ h => h) (by decide) ⟨hF, fun _ => hG⟩ (Or.inl ⟨by rfl, ?_⟩) ?_
  rotate_left
  · intro wq hSw; obtain ⟨s0, s1, s2⟩ := hSw; go_simp; rfl
  simp only [Act.put]
  refine gate_takeF (i := 4) (v := ?_) rfl (by kernel_rfl) (by kernel_rfl) (by kernel_rfl) (fun _ _ _ h => h) (by decide) ⟨hF, fun _ => hG⟩ (Or.inl ⟨by rfl, ?_⟩) ?_
  rotate_left
  · intro wq hSw; obtain ⟨s0, s1, s2⟩ := hSw; go_simp; rfl
  simp only [Act.put]
  refine gate_takeF (i := 5) (v := ?_) rfl (by kernel_rfl) (by kernel_rfl) (by kernel_rfl) (fun _ _ _ h => h) (by decide) ⟨hF, fun _ => hG⟩ (Or.inl ⟨by rfl, ?_⟩) ?_
  rotate_left
  · intro wq hSw; obtain ⟨s0, s1, s2⟩ := hSw; go_simp; rfl
  simp only [Act.put]
  refine gate_takeF (i := 6) (v := ?_) rfl (by kernel_rfl) (by kernel_rfl) (by kernel_rfl) (fun _ _ _ h => h) (by decide) ⟨hF, fun _ => hG⟩ (Or.inl ⟨by rfl, ?_⟩) ?_
  rotate_left
  · intro wq hSw; obtain ⟨s0, s1, s2⟩ := hSw; go_simp; rfl
  simp only [Act.put]
  refine gate_takeF (i := 7) (v := ?_) rfl (by kernel_rfl) (by kernel_rfl) (by kernel_rfl) (fun _ _ _ h => h) (by decide) ⟨hF, fun _ => hG⟩ (Or.inl ⟨by rfl, ?_⟩) ?_
  rotate_left
  · intro wq hSw; obtain ⟨s0, s1, s2⟩ := hSw; go_simp; rfl
  simp only [Act.put]
  refine gate_takeF (i := 8) (v := ?_) rfl (by kernel_rfl) (by kernel_rfl) (by kernel_rfl) (fun _ _ _ h => h) (by decide) ⟨hF, fun _ => hG⟩ (Or.inl ⟨by rfl, ?_⟩) ?_
  rotate_left
  · intro wq hSw; obtain ⟨s0, s1, s2⟩ := hSw; go_simp; rfl
  simp only [Act.put]
  refine gate_takeF (i := 9) (v := ?_) rfl (by kernel_rfl) (by kernel_rfl) (by kernel_rfl) (fun _ _ _ h => h) (by decide) ⟨hF, fun _ => hG⟩ (Or.inl ⟨by rfl, ?_⟩) ?_
  rotate_left
  · intro wq hSw; obtain ⟨s0, s1, s2⟩ := hSw; go_simp; rfl
  simp only [Act.put]
  refine gate_takeF (i := 10) (v := ?_) rfl (by kernel_rfl) (by kernel_rfl) (by kernel_rfl) (fun _ _ _ h => h) (by decide) ⟨hF, fun _ => hG⟩ (Or.inl ⟨by rfl, ?_⟩) ?_
  rotate_left
  · intro wq hSw; obtain ⟨s0, s1, s2⟩ := hSw; go_simp; rfl
  simp only [Act.put]
  refine gate_takeF (i := 11) (v := ?_) rfl (by kernel_rfl) (by kernel_rfl) (by kernel_rfl) (fun _ _ _ h => h) (by decide) ⟨hF, fun _ => hG⟩ (Or.inl ⟨by rfl, ?_⟩) ?_
  rotate_left
  · intro wq hSw; obtain ⟨s0, s1, s2⟩ := hSw; go_simp; rfl
  simp only [Act.put]
  refine gate_takeF (i := 12) (v := ?_) rfl (by kernel_rfl) (by kernel_rfl) (by kernel_rfl) (fun _ _ _ h => h) (by decide) ⟨hF, fun _ => hG⟩ (Or.inl ⟨by rfl, ?_⟩) ?_
  rotate_left
  · intro wq hSw; obtain ⟨s0, s1, s2⟩ := hSw; go_simp; rfl
  simp only [Act.put]
  refine gate_one (i := 13) (by kernel_rfl) rfl (fun K hK => ?_)
  have hkn := peel_knows _ p k m _ _ _ we.drew (HEC.out.keep (Lat.drew we)).peel hk16
  rw [← HKN.out] at hkn
  go_simp
  refine hkn.mono ?_
  rintro e wk ⟨oa, oc, rfl, _, hbk⟩
  have hF' : wk.cell? ⟨x, 4, none⟩ = some (.int .i64 qn) ∧ wk.cell? ⟨x, 5, none⟩ = some (.slice a ln cap) ∧ wk.cell? ⟨x, 0, none⟩ = some (.pointer (some ⟨p, 0, none⟩)) := ⟨hbk.cell_at hF.1, hbk.cell_at hF.2.1, hbk.cell_at hF.2.2⟩
  have hG' : wk.cell? ⟨X + 1, 0, none⟩ = some (.int .i64 0) ∧ wk.cell? ⟨X + 1, 1, none⟩ = some (.int .i64 0) ∧ wk.cell? ⟨X + 1, 2, none⟩ = some (.int .i64 0) := ⟨hbk.cell_at hG.1, hbk.cell_at hG.2.1, hbk.cell_at hG.2.2⟩
  have HBK := Lib.hid ((Lat.drew we).trans hbk)
  refine hK _ _ ⟨hF', fun _ => hG'⟩ ?_
  clear hK K hF hG hkn hbk
  have hF := hF'
  have hG := hG'
  clear hF' hG'
  refine gate_takeF (i := 14) (v := ?_) rfl (by kernel_rfl) (by kernel_rfl) (by kernel_rfl) (fun _ _ _ h => h) (by decide) ⟨hF, fun _ => hG⟩ (Or.inl ⟨by rfl, ?_⟩) ?_
  rotate_left
  · intro wq hSw; obtain ⟨s0, s1, s2⟩ := hSw; go_simp; rfl
  simp only [Act.put]
  refine gate_takeF (i := 15) (v := ?_) rfl (by kernel_rfl) (by kernel_rfl) (by kernel_rfl) (fun _ _ _ h => h) (by decide) ⟨hF, fun _ => hG⟩ (Or.inl ⟨by rfl, ?_⟩) ?_
  rotate_left
  · intro wq hSw; obtain ⟨s0, s1, s2⟩ := hSw; go_simp; rfl
  simp only [Act.put]
  have hbf := HBC.out.keep HBK.out
  have e0 := hG.1
  have e1 := hG.2.1
  have e2 := hG.2.2
  have g0 := hbf.g0
  have g1 := hbf.g1
  have g2 := hbf.g2
  have HBF := Lib.hid hbf
  have hqX : ∀ i, i ≠ X + 1 → ∀ j v u1 u2 u3, wk.cell? ⟨i, j, none⟩ = some v → (((wk.setCell ⟨X + 1, 0, none⟩ u1).setCell ⟨X + 1, 1, none⟩ u2).setCell ⟨X + 1, 2, none⟩ u3).cell? ⟨i, j, none⟩ = some v := fun i hi j v u1 u2 u3 hv => by
    rw [World.cell?_setCell_other _ _ _ _ (by intro e; injection e with e _ _; exact hi e.symm), World.cell?_setCell_other _ _ _ _ (by intro e; injection e with e _ _; exact hi e.symm), World.cell?_setCell_other _ _ _ _ (by intro e; injection e with e _ _; exact hi e.symm)]; exact hv
  have hxX : x ≠ X + 1 := by have := HH.out.lt x HH.out.gx; have := HX.out; omega
  have hF9 := fun u1 u2 u3 => And.intro (hqX x hxX _ _ u1 u2 u3 hF.1) (And.intro (hqX x hxX _ _ u1 u2 u3 hF.2.1) (hqX x hxX _ _ u1 u2 u3 hF.2.2))
  have HF9 := Lib.hid hF9
  have QQ := three_put hG.1 hG.2.1 hG.2.2 (.int .i64 qn) (.int .i64 (ln : Nat)) (.int .i64 (kn : Nat))
  have HQQ := Lib.hid QQ
  refine gate_one (i := 16) (by kernel_rfl) rfl (fun K hK => ?_)
  clear hF9 hqX QQ hbf
  go_simp
  refine hK _ _ (FG.past (by kernel_rfl) (HF9.out _ _ _)) ?_
  clear hK K hF hG e0 e1 e2 g0 g1 g2
  refine gate_takeF (i := 17) (v := ?_) rfl (by kernel_rfl) (by kernel_rfl) (by kernel_rfl) (fun _ _ _ h => h) (by decide) (FG.past (by kernel_rfl) (HF9.out _ _ _)) (Or.inl ⟨by rfl, ?_⟩) ?_
  rotate_left
  · intro wq hSw; go_simp; rfl
  simp only [Act.put]
  refine gate_done (by kernel_rfl) ?_ _
  simp only [List.getElem_toArray, List.getElem_cons_succ, List.getElem_cons_zero]
  go_wp2
  have hff : Fr (fun i => i = X + 1) wk (((wk.setCell ⟨X + 1, 0, none⟩ (.int .i64 qn)).setCell ⟨X + 1, 1, none⟩ (.int .i64 (ln : Nat))).setCell ⟨X + 1, 2, none⟩ (.int .i64 (kn : Nat))) := ((Fr.set (S := fun i => i = X + 1) wk ⟨X + 1, 0, none⟩ _ rfl).then_set ⟨X + 1, 1, none⟩ _ (.inl rfl)).then_set ⟨X + 1, 2, none⟩ _ (.inl rfl)
  have hfin : EarStep G x k m n qn K0 L ds w (((wk.setCell ⟨X + 1, 0, none⟩ (.int .i64 qn)).setCell ⟨X + 1, 1, none⟩ (.int .i64 (ln : Nat))).setCell ⟨X + 1, 2, none⟩ (.int .i64 (kn : Nat))) :=
    ⟨(HFC.out.next HBK.out).trans hff (fun i hi e => by have := HX.out; omega), ⟨_, ⟨_, _, _, _, (HEC.out.keep HBK.out).fr hff (fun i hi e => HNX.out i hi e)⟩, HGI.out⟩, ⟨((HEC.out.keep HBK.out).fr hff (fun i hi e => HNX.out i hi e)).c0.trans HH.out.c0.symm, fun p' hp' => by
      obtain rfl : p = p' := by have := HH.out.c0.symm.trans hp'; injection this with this; injection this with this; injection this with this; injection this
      exact ⟨(hff.cell_at (HBK.out.cell_at HMC.out.1) (fun e => by have e' : p = X + 1 := e; have := HPL.out; have := HX.out; omega)).trans HMP.out.1.symm, (hff.cell_at (HBK.out.cell_at HMC.out.2) (fun e => by have e' : p = X + 1 := e; have := HPL.out; have := HX.out; omega)).trans HMP.out.2.symm⟩⟩⟩
  have Q0 := HQQ.out
  refine bodyPost_ret (v := .tuple #[.agg #[.int .i64 qn, .int .i64 (ln : Nat), .int .i64 (kn : Nat)], .nilIface]) (by simp [results, Tryz.results15, go_sem, Q0.1, Q0.2.1, Q0.2.2]) rfl ⟨?_, hfin⟩
  rfl

set_option maxHeartbeats 4000000 in
set_option maxRecDepth 100000 in
theorem ear_hear_new (G : Nat → Prop) (x k m n : Nat) (q : Int) (K0 : Kn) (L : List Wt) (ds : List Dr) (s : Int) (t : Bts) (w : World) (h : EarO G x k m n q K0 L ds w) (hE : hrE k m ds s t = 0) (hmem : s ∉ ds.map Dr.s) (qn : Int) (hqn : wrap64 (q + 1) = qn) :
    Calls Tryz.prog 15 #[.pointer (some ⟨x, 0, none⟩), .agg #[.int .i64 s, .string (S t)]] w fun e w' => e = .returned (.tuple #[.agg #[.int .i64 qn, .int .i64 (ds.length + 1 : Nat), .int .i64 ((knwL (lrnK k K0 (L ++ [(setZ k s.toNat, t)])) k).length : Nat)], .nilIface]) ∧ EarStep G x k m n qn (lrnK k K0 (L ++ [(setZ k s.toNat, t)])) (lrnL k K0 (L ++ [(setZ k s.toNat, t)])) (ds ++ [⟨s, S t⟩]) w w' := by
  obtain ⟨Gp, p, a, cap, h⟩ := h
  obtain ⟨hde, hl60⟩ := hrE_zero hE
  have hck := fun W => dchk_tells k m s (S t) W
  rw [hde, errv_zero rfl] at hck
  have hd2 := drpE_zero hde
  have hk16 : k ≤ 16 := by omega
  have HCK : Hid (∀ W, Calls Tryz.prog 52 #[.int .i64 k, .int .i64 m, .agg #[.int .i64 s, .string (S t)]] W fun e w' => e = .returned .nilIface ∧ Lat W w') := hck
  obtain ⟨ln, hln⟩ : ∃ ln, ln = ds.length := ⟨_, rfl⟩
  have d60 : decide ((60 : Int) ≤ (ln : Int)) = false := decide_eq_false (by omega)
  obtain ⟨kb, tb, hm2, hm3, hgp⟩ : ∃ kb tb, w.cell? ⟨p, 2, none⟩ = some (.map (some kb)) ∧ w.cell? ⟨p, 3, none⟩ = some (.map (some tb)) ∧ Gp p := by
    obtain ⟨kb, tb, _, _, hpp⟩ := h.peel
    exact ⟨kb, tb, hpp.c2, hpp.c3, hpp.gp⟩
  have HMP := Lib.hid (And.intro hm2 hm3); have HGPP := Lib.hid hgp
  have HPNX : Hid (¬ p = x) := fun e => h.npx (e ▸ hgp)
  have HPL : Hid (p < w.heap.size) := h.lt p (h.sub p hgp)
  clear hm2 hm3 hgp
  have HH := Lib.hid h; have HMEM := Lib.hid hmem; have HDE := Lib.hid hde; have HLN := Lib.hid hln; have HL60 := Lib.hid hl60
  have hte : tkE k m (ds.map Dr.s) s t = 0 := by
    unfold tkE
    rw [if_neg (fun e => e hde), if_neg hmem, if_neg (by rw [List.length_map]; omega)]
  have HTE := Lib.hid hte
  obtain ⟨kn, hkn⟩ : ∃ kn, kn = (knwL (lrnK k K0 (L ++ [(setZ k s.toNat, t)])) k).length := ⟨_, rfl⟩
  have HKN := Lib.hid hkn
  rw [← hln, ← hkn]
  clear h hck hE hde hd2 hln hkn hmem hl60 hte
  go_enter Tryz.func15, Tryz.ntmps15
  go_upto_region 1 with fail
  obtain ⟨X, hX⟩ : ∃ X, X = w.heap.size := ⟨_, rfl⟩
  obtain ⟨W0, hW0⟩ : ∃ W0, W0 = (w.alloc (.cells #[.int .i64 s, .string (S t)] 43)).alloc (.cells #[.int .i64 0, .int .i64 0, .int .i64 0] 47) := ⟨_, rfl⟩
  have hb0 := HL.new w s t
  rw [← hW0] at hb0
  rw [← hW0]
  rw [← hX] at hb0
  rw [← hX]
  have HX : Hid (X = w.heap.size) := hX
  clear hW0 hX
  have hF : W0.drew.cell? ⟨x, 1, none⟩ = some (.int .i64 k) ∧ W0.drew.cell? ⟨x, 2, none⟩ = some (.int .i64 m) ∧ W0.drew.cell? ⟨X, 0, none⟩ = some (.int .i64 s) ∧ W0.drew.cell? ⟨X, 1, none⟩ = some (.string (S t)) := ⟨hb0.lat.cell_at HH.out.c1, hb0.lat.cell_at HH.out.c2, hb0.c0, hb0.c1⟩
  have HB0 := Lib.hid (hb0.keep (Lat.drew W0))
  clear hb0
  refine wp_region_gate (fun w' => w'.cell? ⟨x, 1, none⟩ = some (.int .i64 k) ∧ w'.cell? ⟨x, 2, none⟩ = some (.int .i64 m) ∧ w'.cell? ⟨X, 0, none⟩ = some (.int .i64 s) ∧ w'.cell? ⟨X, 1, none⟩ = some (.string (S t))) (fun _ => True) 1000 (by kernel_rfl) ?_
  refine gate_takeF (i := 0) (v := ?_) rfl (by kernel_rfl) (by kernel_rfl) (by kernel_rfl) (fun _ _ _ h => h) (by decide) ⟨hF, fun _ => trivial⟩ (Or.inl ⟨by rfl, ?_⟩) ?_
  rotate_left
  · intro wq hSw; obtain ⟨s0, s1, s2, s3⟩ := hSw; go_simp; rfl
  simp only [Act.put]
  refine gate_takeF (i := 1) (v := ?_) rfl (by kernel_rfl) (by kernel_rfl) (by kernel_rfl) (fun _ _ _ h => h) (by decide) ⟨hF, fun _ => trivial⟩ (Or.inl ⟨by rfl, ?_⟩) ?_
  rotate_left
  · intro wq hSw; obtain ⟨s0, s1, s2, s3⟩ := hSw; go_simp; rfl
  simp only [Act.put]
  refine gate_takeF (i := 2) (v := ?_) rfl (by kernel_rfl) (by kernel_rfl) (by kernel_rfl) (fun _ _ _ h => h) (by decide) ⟨hF, fun _ => trivial⟩ (Or.inl ⟨by rfl, ?_⟩) ?_
  rotate_left
  · intro wq hSw; obtain ⟨s0, s1, s2, s3⟩ := hSw; go_simp; rfl
  simp only [Act.put]
  refine gate_takeF (i := 3) (v := ?_) rfl (by kernel_rfl) (by kernel_rfl) (by kernel_rfl) (fun _ _ _ h => h) (by decide) ⟨hF, fun _ => trivial⟩ (Or.inl ⟨by rfl, ?_⟩) ?_
  rotate_left
  · intro wq hSw; obtain ⟨s0, s1, s2, s3⟩ := hSw; go_simp; rfl
  simp only [Act.put]
  refine gate_takeF (i := 4) (v := ?_) rfl (by kernel_rfl) (by kernel_rfl) (by kernel_rfl) (fun _ _ _ h => h) (by decide) ⟨hF, fun _ => trivial⟩ (Or.inl ⟨by rfl, ?_⟩) ?_
  rotate_left
  · intro wq hSw; obtain ⟨s0, s1, s2, s3⟩ := hSw; go_simp; rfl
  simp only [Act.put]
  refine gate_takeF (i := 5) (v := ?_) rfl (by kernel_rfl) (by kernel_rfl) (by kernel_rfl) (fun _ _ _ h => h) (by decide) ⟨hF, fun _ => trivial⟩ (Or.inl ⟨by rfl, ?_⟩) ?_
  rotate_left
  · intro wq hSw; obtain ⟨s0, s1, s2, s3⟩ := hSw; go_simp; rfl
  simp only [Act.put]
  refine gate_takeF (i := 6) (v := ?_) rfl (by kernel_rfl) (by kernel_rfl) (by kernel_rfl) (fun _ _ _ h => h) (by decide) ⟨hF, fun _ => trivial⟩ (Or.inl ⟨by rfl, ?_⟩) ?_
  rotate_left
  · intro wq hSw; obtain ⟨s0, s1, s2, s3⟩ := hSw; go_simp; rfl
  simp only [Act.put]
  refine gate_takeF (i := 7) (v := ?_) rfl (by kernel_rfl) (by kernel_rfl) (by kernel_rfl) (fun _ _ _ h => h) (by decide) ⟨hF, fun _ => trivial⟩ (Or.inl ⟨by rfl, ?_⟩) ?_
  rotate_left
  · intro wq hSw; obtain ⟨s0, s1, s2, s3⟩ := hSw; go_simp; rfl
  simp only [Act.put]
  refine gate_takeF (i := 8) (v := ?_) rfl (by kernel_rfl) (by kernel_rfl) (by kernel_rfl) (fun _ _ _ h => h) (by decide) ⟨hF, fun _ => trivial⟩ (Or.inl ⟨by rfl, ?_⟩) ?_
  rotate_left
  · intro wq hSw; obtain ⟨s0, s1, s2, s3⟩ := hSw; go_simp; rfl
  simp only [Act.put]
  refine gate_one (i := 9) (by kernel_rfl) rfl (fun K hK => ?_)
  go_simp
  refine (HCK.out _).mono ?_
  rintro e w5 ⟨rfl, hb5⟩
  have hF' : w5.cell? ⟨x, 1, none⟩ = some (.int .i64 k) ∧ w5.cell? ⟨x, 2, none⟩ = some (.int .i64 m) ∧ w5.cell? ⟨X, 0, none⟩ = some (.int .i64 s) ∧ w5.cell? ⟨X, 1, none⟩ = some (.string (S t)) := ⟨hb5.cell_at hF.1, hb5.cell_at hF.2.1, hb5.cell_at hF.2.2.1, hb5.cell_at hF.2.2.2⟩
  refine hK _ _ ⟨hF', fun _ => trivial⟩ ?_
  clear hK K hF
  have hF := hF'
  clear hF'
  refine gate_takeF (i := 10) (v := ?_) rfl (by kernel_rfl) (by kernel_rfl) (by kernel_rfl) (fun _ _ _ h => h) (by decide) ⟨hF, fun _ => trivial⟩ (Or.inl ⟨by rfl, ?_⟩) ?_
  rotate_left
  · intro wq hSw; obtain ⟨s0, s1, s2, s3⟩ := hSw; go_simp; rfl
  simp only [Act.put]
  refine gate_done (by kernel_rfl) ?_ _
  have HB5 := Lib.hid (HB0.out.keep hb5)
  clear hb5 HB0 hF
  have c5 := HB5.out.lat.cell_at HH.out.c5
  rw [← HLN.out] at c5
  go_upto_region 6 with fail
  clear c5
  have hF : w5.drew.cell? ⟨X, 0, none⟩ = some (.int .i64 s) ∧ w5.drew.cell? ⟨X, 1, none⟩ = some (.string (S t)) := ⟨HB5.out.c0, HB5.out.c1⟩
  have HB6 := Lib.hid (HB5.out.keep (Lat.drew w5))
  refine wp_region_gate (fun w' => w'.cell? ⟨X, 0, none⟩ = some (.int .i64 s) ∧ w'.cell? ⟨X, 1, none⟩ = some (.string (S t))) (fun _ => True) 1000 (by kernel_rfl) ?_
  refine gate_takeF (i := 0) (v := ?_) rfl (by kernel_rfl) (by kernel_rfl) (by kernel_rfl) (fun _ _ _ h => h) (by decide) ⟨hF, fun _ => trivial⟩ (Or.inl ⟨by rfl, ?_⟩) ?_
  rotate_left
  · intro wq hSw; obtain ⟨s0, s1⟩ := hSw; go_simp; rfl
  simp only [Act.put]
  refine gate_takeF (i := 2) (v := ?_) rfl (by kernel_rfl) (by kernel_rfl) (by kernel_rfl) (fun _ _ _ h => h) (by decide) ⟨hF, fun _ => trivial⟩ (Or.inl ⟨by rfl, ?_⟩) ?_
  rotate_left
  · intro wq hSw; obtain ⟨s0, s1⟩ := hSw; go_simp; rfl
  simp only [Act.put]
  refine gate_takeF (i := 3) (v := ?_) rfl (by kernel_rfl) (by kernel_rfl) (by kernel_rfl) (fun _ _ _ h => h) (by decide) ⟨hF, fun _ => trivial⟩ (Or.inl ⟨by rfl, ?_⟩) ?_
  rotate_left
  · intro wq hSw; obtain ⟨s0, s1⟩ := hSw; go_simp; rfl
  simp only [Act.put]
  refine gate_one (i := 1) (by kernel_rfl) rfl (fun K hK => ?_)
  have hsd := ear_seeds G x k m n q K0 L ds w5.drew ⟨Gp, p, a, cap, HH.out.keep HB6.out.lat⟩
  rw [← HLN.out] at hsd
  go_simp
  refine hsd.mono ?_
  rintro e w6 ⟨ya, yc, rfl, hyi, hb6⟩
  have hF' : w6.cell? ⟨X, 0, none⟩ = some (.int .i64 s) ∧ w6.cell? ⟨X, 1, none⟩ = some (.string (S t)) := ⟨hb6.cell_at hF.1, hb6.cell_at hF.2⟩
  refine hK _ _ ⟨hF', fun _ => trivial⟩ ?_
  clear hK K hF hsd
  have hF := hF'
  clear hF'
  refine gate_one (i := 4) (by kernel_rfl) rfl (fun K hK => ?_)
  go_simp
  refine (containsI_no ya ln yc _ _ w6 hyi HMEM.out).mono ?_
  rintro e w7 ⟨rfl, rfl⟩
  refine hK _ _ ⟨hF, fun _ => trivial⟩ ?_
  clear hK K
  refine gate_takeF (i := 5) (v := ?_) rfl (by kernel_rfl) (by kernel_rfl) (by kernel_rfl) (fun _ _ _ h => h) (by decide) ⟨hF, fun _ => trivial⟩ (Or.inl ⟨by rfl, ?_⟩) ?_
  rotate_left
  · intro wq hSw; obtain ⟨s0, s1⟩ := hSw; go_simp; rfl
  simp only [Act.put]
  refine gate_done (by kernel_rfl) ?_ _
  have HB7 := Lib.hid (HB6.out.keep hb6)
  clear hb6 hyi HB6 hF HB5
  go_upto_region 7 with fail
  have hF : w6.drew.cell? ⟨x, 0, none⟩ = some (.pointer (some ⟨p, 0, none⟩)) ∧ w6.drew.cell? ⟨X, 0, none⟩ = some (.int .i64 s) ∧ w6.drew.cell? ⟨X, 1, none⟩ = some (.string (S t)) := ⟨HB7.out.lat.cell_at HH.out.c0, HB7.out.c0, HB7.out.c1⟩
  have HB8 := Lib.hid (HB7.out.keep (Lat.drew w6))
  refine wp_region_gate (fun w' => w'.cell? ⟨x, 0, none⟩ = some (.pointer (some ⟨p, 0, none⟩)) ∧ w'.cell? ⟨X, 0, none⟩ = some (.int .i64 s) ∧ w'.cell? ⟨X, 1, none⟩ = some (.string (S t))) (fun _ => True) 1000 (by kernel_rfl) ?_
  refine gate_takeF (i := 0) (v := ?_) rfl (by kernel_rfl) (by kernel_rfl) (by kernel_rfl) (fun _ _ _ h => h) (by decide) ⟨hF, fun _ => trivial⟩ (Or.inl ⟨by rfl, ?_⟩) ?_
  rotate_left
  · intro wq hSw; obtain ⟨s0, s1, s2⟩ := hSw; go_simp; rfl
  simp only [Act.put]
  refine gate_takeF (i := 1) (v := ?_) rfl (by kernel_rfl) (by kernel_rfl) (by kernel_rfl) (fun _ _ _ h => h) (by decide) ⟨hF, fun _ => trivial⟩ (Or.inl ⟨by rfl, ?_⟩) ?_
  rotate_left
  · intro wq hSw; obtain ⟨s0, s1, s2⟩ := hSw; go_simp; rfl
  simp only [Act.put]
  refine gate_takeF (i := 2) (v := ?_) rfl (by kernel_rfl) (by kernel_rfl) (by kernel_rfl) (fun _ _ _ h => h) (by decide) ⟨hF, fun _ => trivial⟩ (Or.inl ⟨by rfl, ?_⟩) ?_
  rotate_left
  · intro wq hSw; obtain ⟨s0, s1, s2⟩ := hSw; go_simp; rfl
  simp only [Act.put]
  refine gate_takeF (i := 3) (v := ?_) rfl (by kernel_rfl) (by kernel_rfl) (by kernel_rfl) (fun _ _ _ h => h) (by decide) ⟨hF, fun _ => trivial⟩ (Or.inl ⟨by rfl, ?_⟩) ?_
  rotate_left
  · intro wq hSw; obtain ⟨s0, s1, s2⟩ := hSw; go_simp; rfl
  simp only [Act.put]
  refine gate_takeF (i := 4) (v := ?_) rfl (by kernel_rfl) (by kernel_rfl) (by kernel_rfl) (fun _ _ _ h => h) (by decide) ⟨hF, fun _ => trivial⟩ (Or.inl ⟨by rfl, ?_⟩) ?_
  rotate_left
  · intro wq hSw; obtain ⟨s0, s1, s2⟩ := hSw; go_simp; rfl
  simp only [Act.put]
  refine gate_one (i := 5) (by kernel_rfl) rfl (fun K hK => ?_)
  have h8 := HH.out.keep HB8.out.lat
  have htk := take_ok Gp p k m K0 (ds.map Dr.s) L s t w6.drew h8.peel HTE.out
  have H8 := Lib.hid h8
  clear h8
  go_simp
  refine htk.mono ?_
  rintro e w8 ⟨ra, rc, rfl, _, hst⟩
  have hpX : ∀ i, w.heap.size ≤ i → ¬ Gp i := fun i hi e => by have := HH.out.lt i (HH.out.sub i e); omega
  have hF' : w8.cell? ⟨x, 0, none⟩ = some (.pointer (some ⟨p, 0, none⟩)) ∧ w8.cell? ⟨X, 0, none⟩ = some (.int .i64 s) ∧ w8.cell? ⟨X, 1, none⟩ = some (.string (S t)) := ⟨hst.fr.cell_at hF.1 HH.out.npx, hst.fr.cell_at hF.2.1 (hpX X (by have := HX.out; omega)), hst.fr.cell_at hF.2.2 (hpX X (by have := HX.out; omega))⟩
  refine hK _ _ ⟨hF', fun _ => trivial⟩ ?_
  clear hK K hF htk
  have hF := hF'
  clear hF'
  refine gate_takeF (i := 6) (v := ?_) rfl (by kernel_rfl) (by kernel_rfl) (by kernel_rfl) (fun _ _ _ h => h) (by decide) ⟨hF, fun _ => trivial⟩ (Or.inl ⟨by rfl, ?_⟩) ?_
  rotate_left
  · intro wq hSw; obtain ⟨s0, s1, s2⟩ := hSw; go_simp; rfl
  simp only [Act.put]
  refine gate_takeF (i := 7) (v := ?_) rfl (by kernel_rfl) (by kernel_rfl) (by kernel_rfl) (fun _ _ _ h => h) (by decide) ⟨hF, fun _ => trivial⟩ (Or.inl ⟨by rfl, ?_⟩) ?_
  rotate_left
  · intro wq hSw; obtain ⟨s0, s1, s2⟩ := hSw; go_simp; rfl
  simp only [Act.put]
  refine gate_takeF (i := 8) (v := ?_) rfl (by kernel_rfl) (by kernel_rfl) (by kernel_rfl) (fun _ _ _ h => h) (by decide) ⟨hF, fun _ => trivial⟩ (Or.inl ⟨by rfl, ?_⟩) ?_
  rotate_left
  · intro wq hSw; obtain ⟨s0, s1, s2⟩ := hSw; go_simp; rfl
  simp only [Act.put]
  refine gate_takeF (i := 9) (v := ?_) rfl (by kernel_rfl) (by kernel_rfl) (by kernel_rfl) (fun _ _ _ h => h) (by decide) ⟨hF, fun _ => trivial⟩ (Or.inl ⟨by rfl, ?_⟩) ?_
  rotate_left
  · intro wq hSw; obtain ⟨s0, s1, s2⟩ := hSw; go_simp; rfl
  simp only [Act.put]
  refine gate_takeF (i := 10) (v := ?_) rfl (by kernel_rfl) (by kernel_rfl) (by kernel_rfl) (fun _ _ _ h => h) (by decide) ⟨hF, fun _ => trivial⟩ (Or.inl ⟨by rfl, ?_⟩) ?_
  rotate_left
  · intro wq hSw; obtain ⟨s0, s1, s2⟩ := hSw; go_simp; rfl
  simp only [Act.put]
  refine gate_done (by kernel_rfl) ?_ _
  have HST := Lib.hid hst
  have HPX := Lib.hid hpX
  have hb9 := HB8.out.toHB.fr hst.fr (fun i e => HH.out.lt i (HH.out.sub i e))
  have HB9 := Lib.hid hb9
  have HB8L := Lib.hid HB8.out.lat
  have HB8X := Lib.hid HB8.out.lt
  clear hst hpX hb9 hF HB8 HB7
  go_upto_region 10 with fail
  have hF : w8.drew.cell? ⟨X, 0, none⟩ = some (.int .i64 s) ∧ w8.drew.cell? ⟨X, 1, none⟩ = some (.string (S t)) := ⟨HB9.out.c0, HB9.out.c1⟩
  have hG : w8.drew.cell? ⟨x, 5, none⟩ = some (.slice a ln cap) := by
    have := HST.out.fr.cell_at H8.out.c5 HH.out.npx
    rw [← HLN.out] at this; exact this
  refine wp_region_gate (fun w' => w'.cell? ⟨X, 0, none⟩ = some (.int .i64 s) ∧ w'.cell? ⟨X, 1, none⟩ = some (.string (S t))) (fun w' => w'.cell? ⟨x, 5, none⟩ = some (.slice a ln cap)) 7 (by kernel_rfl) ?_
  refine gate_takeF (i := 0) (v := ?_) rfl (by kernel_rfl) (by kernel_rfl) (by kernel_rfl) (fun _ _ _ h => h) (by decide) ⟨hF, fun _ => hG⟩ (Or.inl ⟨by rfl, ?_⟩) ?_
  rotate_left
  · intro wq hSw; obtain ⟨s0, s1⟩ := hSw; go_simp; rfl
  simp only [Act.put]
  refine gate_takeF (i := 1) (v := ?_) rfl (by kernel_rfl) (by kernel_rfl) (by kernel_rfl) (fun _ _ _ h => h) (by decide) ⟨hF, fun _ => hG⟩ (Or.inl ⟨by rfl, ?_⟩) ?_
  rotate_left
  · intro wq hSw; obtain ⟨s0, s1⟩ := hSw; go_simp; rfl
  simp only [Act.put]
  refine gate_takeF (i := 2) (v := ?_) rfl (by kernel_rfl) (by kernel_rfl) (by kernel_rfl) (fun _ _ _ h => h) (by decide) ⟨hF, fun _ => hG⟩ (Or.inl ⟨by rfl, ?_⟩) ?_
  rotate_left
  · intro wq hSw; obtain ⟨s0, s1⟩ := hSw; go_simp; rfl
  simp only [Act.put]
  refine gate_takeF (i := 3) (v := ?_) rfl (by kernel_rfl) (by kernel_rfl) (by kernel_rfl) (fun _ _ _ h => h) (by decide) ⟨hF, fun _ => hG⟩ (Or.inl ⟨by rfl, ?_⟩) ?_
  rotate_left
  · intro wq hSw; obtain ⟨s0, s1⟩ := hSw; go_simp; rfl
  simp only [Act.put]
  refine gate_takeG (i := 4) (v := ?_) rfl (by kernel_rfl) (by kernel_rfl) (by kernel_rfl) (fun _ _ _ h => h) (by decide) (by kernel_rfl) (by kernel_rfl) ⟨hF, fun _ => hG⟩ (Or.inl ⟨by rfl, ?_⟩) ?_
  rotate_left
  · intro wq hSw; obtain ⟨⟨s0, s1⟩, s2⟩ := hSw; go_simp; rfl
  simp only [Act.put]
  refine gate_takeF (i := 5) (v := ?_) rfl (by kernel_rfl) (by kernel_rfl) (by kernel_rfl) (fun _ _ _ h => h) (by decide) ⟨hF, fun _ => hG⟩ (Or.inl ⟨by rfl, ?_⟩) ?_
  rotate_left
  · intro wq hSw; obtain ⟨s0, s1⟩ := hSw; go_simp; rfl
  simp only [Act.put]
  refine gate_one (i := 6) (by kernel_rfl) rfl (fun K hK => ?_)
  go_simp
  refine hK _ _ ⟨⟨(Lat.alloc _ _).cell_at hF.1, (Lat.alloc _ _).cell_at hF.2⟩, fun _ => (Lat.alloc _ _).cell_at hG⟩ ?_
  clear hK K
  have ho8 : OwnR w8.drew 0 43 2 (.slice a ln cap) (ds.map Dr.row) := by
    have := (H8.out.row.fr HST.out.fr (fun i hi => (H8.out.own i hi).2.2)).keep (Lat.drew w8)
    rw [← HLN.out] at this; exact this
  have HO8 := Lib.hid ho8
  have HRL : Hid ((ds.map Dr.row).length = ln) := by show _ = _; rw [List.length_map, HLN.out]
  clear ho8
  refine gate_one (i := 7) (by kernel_rfl) rfl (fun K hK => ?_)
  refine appR_step w8.drew 0 rfl (.tmp 54) (.tmp 56) 98 rfl 43 _ 2 24 Tryz.underlying98 info_DropE rfl (by decide) (by decide) _ _ _ rfl HO8.out rfl rfl (fun u hu => by simp at hu; rcases hu with rfl | rfl <;> rfl) (by rw [HRL.out]; have := HH.out.most; have := HLN.out; omega) (Nat.zero_le _) ?_
  rw [HRL.out]
  intro g' cap' w9 hown9 hb9 hs9
  have hs9 : AppStep w8.drew w9 (.slice a ln cap) (.slice (some ⟨g', 0, none⟩) (ln + 1) cap') := hs9
  have hnx : (Value.slice a ln cap).ownBlock ≠ some x := fun e => by rw [HLN.out] at e; exact (HH.out.own x e).2.1 rfl
  have hnX : ∀ i, w.heap.size ≤ i → (Value.slice a ln cap).ownBlock ≠ some i := fun i hi e => by
    rw [HLN.out] at e
    have := HH.out.lt i (HH.out.own i e).1
    omega
  have hXw : w.heap.size ≤ X := Nat.le_of_eq HX.out.symm
  have hF9 : w9.cell? ⟨X, 0, none⟩ = some (.int .i64 s) ∧ w9.cell? ⟨X, 1, none⟩ = some (.string (S t)) := ⟨hs9.cell hF.1 (hnX X hXw), hs9.cell hF.2 (hnX X hXw)⟩
  have hG9 : w9.cell? ⟨x, 5, none⟩ = some (.slice a ln cap) := hs9.cell hG hnx
  have hnp : (Value.slice a ln cap).ownBlock ≠ some p := fun e => by rw [HLN.out] at e; exact (HH.out.own p e).2.2 HGPP.out
  have hp2' : w8.drew.cell? ⟨p, 2, none⟩ = some (.map (some kb)) := HST.out.maps.1.trans (HB8L.out.cell_at HMP.out.1)
  have hp3' : w8.drew.cell? ⟨p, 3, none⟩ = some (.map (some tb)) := HST.out.maps.2.trans (HB8L.out.cell_at HMP.out.2)
  have HM9 := Lib.hid (And.intro (hs9.cell hp2' hnp) (hs9.cell hp3' hnp))
  clear hnp hp2' hp3'
  have hxl8 := World.block_lt_of_cell? _ _ hG
  have hf9 : w9.frozen? ⟨x, 5, none⟩ = false := by
    rw [World.frozen?_of_block (w := w8.drew) (a := ⟨x, 5, none⟩) (hs9.block x hxl8 (fun e => hnx e.symm))]
    exact HST.out.fr.free_at (H8.out.lt x H8.out.gx) H8.out.f5 HH.out.npx
  obtain ⟨Gp2, hp2, hGp2⟩ := HST.out.obj
  have he10 := (H8.out).heard (d := ⟨s, S t⟩) (g := g') (cap' := cap') (w4 := w9) HST.out.fr hp2 hGp2 (Lat.drew w8) (by rw [← HLN.out]; exact hs9) hb9 (by rw [← HLN.out]; exact hown9) HDE.out
  rw [← HLN.out] at he10
  have hfr10 : Fr G w (w9.setCell ⟨x, 5, none⟩ (.slice (some ⟨g', 0, none⟩) (ln + 1) cap')) := ((((Fr.lat HB8L.out : Fr G w w6.drew).trans HST.out.fr (fun i _ e => HH.out.sub i e)).next (Lat.drew w8)).trans (Fr.app hs9 ⟨hb9.os, hb9.tape, hb9.output⟩) (fun i _ e => by
    rw [HLN.out] at e
    exact (HH.out.own i e).1)).then_set ⟨x, 5, none⟩ _ (.inl HH.out.gx)
  have hb10 := ((HB9.out.keep (Lat.drew w8)).fr (Fr.app hs9 ⟨hb9.os, hb9.tape, hb9.output⟩) (fun i e => by
    rcases Nat.lt_or_ge i w.heap.size with h1 | h1
    · exact h1
    · exact absurd e (hnX i h1))).fr (Fr.set (S := fun i => i = x) w9 ⟨x, 5, none⟩ (.slice (some ⟨g', 0, none⟩) (ln + 1) cap') rfl) (fun i e => by rw [e]; exact HH.out.lt x HH.out.gx)
  have HE10 := Lib.hid he10; have HFR10 := Lib.hid hfr10; have HB10 := Lib.hid hb10
  refine hK _ _ (FG.past (by kernel_rfl) hF9) ?_
  clear hK K hF hG hown9 hb9 hs9 hnx hnX he10 hfr10 hxl8 hp2 hGp2 hb10
  refine gate_takeF (i := 8) (v := ?_) rfl (by kernel_rfl) (by kernel_rfl) (by kernel_rfl) (fun _ _ _ h => h) (by decide) (FG.past (by kernel_rfl) hF9) (Or.inl ⟨by rfl, ?_⟩) ?_
  rotate_left
  · intro wq hSw; go_simp; rfl
  simp only [Act.put]
  refine gate_takeF (i := 9) (v := ?_) rfl (by kernel_rfl) (by kernel_rfl) (by kernel_rfl) (fun _ _ _ h => h) (by decide) (FG.past (by kernel_rfl) hF9) (Or.inl ⟨by rfl, ?_⟩) ?_
  rotate_left
  · intro wq hSw; go_simp; rfl
  simp only [Act.put]
  refine gate_one (i := 10) (by kernel_rfl) rfl (fun K hK => ?_)
  clear hF9
  go_simp
  refine hK _ _ (FG.past (by kernel_rfl) ⟨HB10.out.c0, HB10.out.c1⟩) ?_
  clear hK K
  refine gate_done (by kernel_rfl) ?_ _
  clear hG9 hf9 HB9
  have HE := HE10
  have HBB := HB10
  have HFR := HFR10
  have HLL : Hid ((ds ++ [(⟨s, S t⟩ : Dr)]).length = ln + 1) := by show _ = _; rw [List.length_append, HLN.out]; rfl
  have hX6 := HB8X.out
  have HNX : Hid (∀ i, (i < (w9.setCell ⟨x, 5, none⟩ (.slice (some ⟨g', 0, none⟩) (ln + 1) cap')).heap.size ∧ (G i ∨ w6.drew.heap.size ≤ i)) → i ≠ X + 1) := fun i hi e => by
    rcases hi.2 with h1 | h1
    · have := HH.out.lt i h1; have := HX.out; omega
    · omega
  have HGI : Hid (∀ i, (i < (w9.setCell ⟨x, 5, none⟩ (.slice (some ⟨g', 0, none⟩) (ln + 1) cap')).heap.size ∧ (G i ∨ w6.drew.heap.size ≤ i)) → G i ∨ w.heap.size ≤ i) := fun i hi => hi.2.imp id (fun h1 => by have := HB8L.out.size; omega)
  have HM0 := Lib.hid (And.intro ((Fr.set (S := fun i => i = x) w9 ⟨x, 5, none⟩ (.slice (some ⟨g', 0, none⟩) (ln + 1) cap') rfl).cell_at HM9.out.1 HPNX.out) ((Fr.set (S := fun i => i = x) w9 ⟨x, 5, none⟩ (.slice (some ⟨g', 0, none⟩) (ln + 1) cap') rfl).cell_at HM9.out.2 HPNX.out))
  clear HE10 HB10 HFR10 hX6
  have c4 := HE.out.c4
  have f4 := HE.out.f4
  go_upto_region 12 with fail
  clear c4 f4
  have hcnt := HE.out.count qn
  have hbb := HBB.out.fr (Fr.set (S := fun i => i = x) _ ⟨x, 4, none⟩ (.int .i64 qn) rfl) (fun i e => by rw [e]; exact HH.out.lt x HH.out.gx)
  have hfrc := HFR.out.then_set ⟨x, 4, none⟩ (.int .i64 qn) (.inl HH.out.gx)
  have hm1 := (Fr.set (S := fun i => i = x) (w9.setCell ⟨x, 5, none⟩ (.slice (some ⟨g', 0, none⟩) (ln + 1) cap')) ⟨x, 4, none⟩ (.int .i64 qn) rfl).cell_at HM0.out.1 HPNX.out
  have hm2 := (Fr.set (S := fun i => i = x) (w9.setCell ⟨x, 5, none⟩ (.slice (some ⟨g', 0, none⟩) (ln + 1) cap')) ⟨x, 4, none⟩ (.int .i64 qn) rfl).cell_at HM0.out.2 HPNX.out
  generalize hwe : World.setCell _ ⟨x, 4, none⟩ (.int .i64 qn) = we at hcnt hbb hfrc hm1 hm2 ⊢
  have HMC := Lib.hid (And.intro hm1 hm2)
  clear hm1 hm2
  have hc4 := hcnt.c4
  have hc5 := hcnt.c5
  rw [HLL.out] at hc5
  have hF : we.drew.cell? ⟨x, 4, none⟩ = some (.int .i64 qn) ∧ we.drew.cell? ⟨x, 5, none⟩ = some (.slice (some ⟨g', 0, none⟩) (ln + 1) cap') ∧ we.drew.cell? ⟨x, 0, none⟩ = some (.pointer (some ⟨p, 0, none⟩)) := ⟨hc4, hc5, hcnt.c0⟩
  have hG : we.drew.cell? ⟨X + 1, 0, none⟩ = some (.int .i64 0) ∧ we.drew.cell? ⟨X + 1, 1, none⟩ = some (.int .i64 0) ∧ we.drew.cell? ⟨X + 1, 2, none⟩ = some (.int .i64 0) := ⟨hbb.r0, hbb.r1, hbb.r2⟩
  have HEC := Lib.hid hcnt; have HBC := Lib.hid hbb; have HFC := Lib.hid hfrc
  clear hwe hcnt hbb hfrc hc4 hc5 HE HBB HFR
  refine wp_region_gate (fun w' => w'.cell? ⟨x, 4, none⟩ = some (.int .i64 qn) ∧ w'.cell? ⟨x, 5, none⟩ = some (.slice (some ⟨g', 0, none⟩) (ln + 1) cap') ∧ w'.cell? ⟨x, 0, none⟩ = some (.pointer (some ⟨p, 0, none⟩))) (fun w' => w'.cell? ⟨X + 1, 0, none⟩ = some (.int .i64 0) ∧ w'.cell? ⟨X + 1, 1, none⟩ = some (.int .i64 0) ∧ w'.cell? ⟨X + 1, 2, none⟩ = some (.int .i64 0)) 16 (by kernel_rfl) ?_
  refine gate_takeF (i := 0) (v := ?_) rfl (by kernel_rfl) (by kernel_rfl) (by kernel_rfl) (fun _ _ _ h => h) (by decide) ⟨hF, fun _ => hG⟩ (Or.inl ⟨by rfl, ?_⟩) ?_
  rotate_left
  · intro wq hSw; obtain ⟨s0, s1, s2⟩ := hSw; go_simp; rfl
  simp only [Act.put]
  refine gate_takeF (i := 1) (v := ?_) rfl (by kernel_rfl) (by kernel_rfl) (by kernel_rfl) (fun _ _ _ h => h) (by decide) ⟨hF, fun _ => hG⟩ (Or.inl ⟨by rfl, ?_⟩) ?_
  rotate_left
  · intro wq hSw; obtain ⟨s0, s1, s2⟩ := hSw; go_simp; rfl
  simp only [Act.put]
  refine gate_takeF (i := 2) (v := ?_) rfl (by kernel_rfl) (by kernel_rfl) (by kernel_rfl) (fun _ _ _ h => h) (by decide) ⟨hF, fun _ => hG⟩ (Or.inl ⟨by rfl, ?_⟩) ?_
  rotate_left
  · intro wq hSw; obtain ⟨s0, s1, s2⟩ := hSw; go_simp; rfl
  simp only [Act.put]
  refine gate_takeF (i := 3) (v := ?_) rfl (by kernel_rfl) (by kernel_rfl) (by kernel_rfl) (fun _ _ _ h => h) (by decide) ⟨hF, fun _ => hG⟩ (Or.inl ⟨by rfl, ?_⟩) ?_
  rotate_left
  · intro wq hSw; obtain ⟨s0, s1, s2⟩ := hSw; go_simp; rfl
  simp only [Act.put]
  refine gate_takeF (i := 4) (v := ?_) rfl (by kernel_rfl) (by kernel_rfl) (by kernel_rfl) (fun _ _ _ h => h) (by decide) ⟨hF, fun _ => hG⟩ (Or.inl ⟨by rfl, ?_⟩) ?_
  rotate_left
  · intro wq hSw; obtain ⟨s0, s1, s2⟩ := hSw; go_simp; rfl
  simp only [Act.put]
  refine gate_takeF (i := 5) (v := ?_) rfl (by kernel_rfl) (by kernel_rfl) (by kernel_rfl) (fun _ _ _ h => h) (by decide) ⟨hF, fun _ => hG⟩ (Or.inl ⟨by rfl, ?_⟩) ?_
  rotate_left
  · intro wq hSw; obtain ⟨s0, s1, s2⟩ := hSw; go_simp; rfl
  simp only [Act.put]
  refine gate_takeF (i := 6) (v := ?_) rfl (by kernel_rfl) (by kernel_rfl) (by kernel_rfl) (fun _ _ _ h => h) (by decide) ⟨hF, fun _ => hG⟩ (Or.inl ⟨by rfl, ?_⟩) ?_
  rotate_left
  · intro wq hSw; obtain ⟨s0, s1, s2⟩ := hSw; go_simp; rfl
  simp only [Act.put]
  refine gate_takeF (i := 7) (v := ?_) rfl (by kernel_rfl) (by kernel_rfl) (by kernel_rfl) (fun _ _ _ h => h) (by decide) ⟨hF, fun _ => hG⟩ (Or.inl ⟨by rfl, ?_⟩) ?_
  rotate_left
  · intro wq hSw; obtain ⟨s0, s1, s2⟩ := hSw; go_simp; rfl
  simp only [Act.put]
  refine gate_takeF (i := 8) (v := ?_) rfl (by kernel_rfl) (by kernel_rfl) (by kernel_rfl) (fun _ _ _ h => h) (by decide) ⟨hF, fun _ => hG⟩ (Or.inl ⟨by rfl, ?_⟩) ?_
  rotate_left
  · intro wq hSw; obtain ⟨s0, s1, s2⟩ := hSw; go_simp; rfl
  simp only [Act.put]
  refine gate_takeF (i := 9) (v := ?_) rfl (by kernel_rfl) (by kernel_rfl) (by kernel_rfl) (fun _ _ _ h => h) (by decide) ⟨hF, fun _ => hG⟩ (Or.inl ⟨by rfl, ?_⟩) ?_
  rotate_left
  · intro wq hSw; obtain ⟨s0, s1, s2⟩ := hSw; go_simp; rfl
  simp only [Act.put]
  refine gate_takeF (i := 10) (v := ?_) rfl (by kernel_rfl) (by kernel_rfl) (by kernel_rfl) (fun _ _ _ h => h) (by decide) ⟨hF, fun _ => hG⟩ (Or.inl ⟨by rfl, ?_⟩) ?_
  rotate_left
  · intro wq hSw; obtain ⟨s0, s1, s2⟩ := hSw; go_simp; rfl
  simp only [Act.put]
  refine gate_takeF (i := 11) (v := ?_) rfl (by kernel_rfl) (by kernel_rfl) (by kernel_rfl) (fun _ _ _ h => h) (by decide) ⟨hF, fun _ => hG⟩ (Or.inl ⟨by rfl, ?_⟩) ?_
  rotate_left
  · intro wq hSw; obtain ⟨s0, s1, s2⟩ := hSw; go_simp; rfl
  simp only [Act.put]
  refine gate_takeF (i := 12) (v := ?_) rfl (by kernel_rfl) (by kernel_rfl) (by kernel_rfl) (fun _ _ _ h => h) (by decide) ⟨hF, fun _ => hG⟩ (Or.inl ⟨by rfl, ?_⟩) ?_
  rotate_left
  · intro wq hSw; obtain ⟨s0, s1, s2⟩ := hSw; go_simp; rfl
  simp only [Act.put]
  refine gate_one (i := 13) (by kernel_rfl) rfl (fun K hK => ?_)
  have hkn := peel_knows _ p k m _ _ _ we.drew (HEC.out.keep (Lat.drew we)).peel hk16
  rw [← HKN.out] at hkn
  go_simp
  refine hkn.mono ?_
  rintro e wk ⟨oa, oc, rfl, _, hbk⟩
  have hF' : wk.cell? ⟨x, 4, none⟩ = some (.int .i64 qn) ∧ wk.cell? ⟨x, 5, none⟩ = some (.slice (some ⟨g', 0, none⟩) (ln + 1) cap') ∧ wk.cell? ⟨x, 0, none⟩ = some (.pointer (some ⟨p, 0, none⟩)) := ⟨hbk.cell_at hF.1, hbk.cell_at hF.2.1, hbk.cell_at hF.2.2⟩
  have hG' : wk.cell? ⟨X + 1, 0, none⟩ = some (.int .i64 0) ∧ wk.cell? ⟨X + 1, 1, none⟩ = some (.int .i64 0) ∧ wk.cell? ⟨X + 1, 2, none⟩ = some (.int .i64 0) := ⟨hbk.cell_at hG.1, hbk.cell_at hG.2.1, hbk.cell_at hG.2.2⟩
  have HBK := Lib.hid ((Lat.drew we).trans hbk)
  refine hK _ _ ⟨hF', fun _ => hG'⟩ ?_
  clear hK K hF hG hkn hbk
  have hF := hF'
  have hG := hG'
  clear hF' hG'
  refine gate_takeF (i := 14) (v := ?_) rfl (by kernel_rfl) (by kernel_rfl) (by kernel_rfl) (fun _ _ _ h => h) (by decide) ⟨hF, fun _ => hG⟩ (Or.inl ⟨by rfl, ?_⟩) ?_
  rotate_left
  · intro wq hSw; obtain ⟨s0, s1, s2⟩ := hSw; go_simp; rfl
  simp only [Act.put]
  refine gate_takeF (i := 15) (v := ?_) rfl (by kernel_rfl) (by kernel_rfl) (by kernel_rfl) (fun _ _ _ h => h) (by decide) ⟨hF, fun _ => hG⟩ (Or.inl ⟨by rfl, ?_⟩) ?_
  rotate_left
  · intro wq hSw; obtain ⟨s0, s1, s2⟩ := hSw; go_simp; rfl
  simp only [Act.put]
  have hbf := HBC.out.keep HBK.out
  have e0 := hG.1
  have e1 := hG.2.1
  have e2 := hG.2.2
  have g0 := hbf.g0
  have g1 := hbf.g1
  have g2 := hbf.g2
  have HBF := Lib.hid hbf
  have hqX : ∀ i, i ≠ X + 1 → ∀ j v u1 u2 u3, wk.cell? ⟨i, j, none⟩ = some v → (((wk.setCell ⟨X + 1, 0, none⟩ u1).setCell ⟨X + 1, 1, none⟩ u2).setCell ⟨X + 1, 2, none⟩ u3).cell? ⟨i, j, none⟩ = some v := fun i hi j v u1 u2 u3 hv => by
    rw [World.cell?_setCell_other _ _ _ _ (by intro e; injection e with e _ _; exact hi e.symm), World.cell?_setCell_other _ _ _ _ (by intro e; injection e with e _ _; exact hi e.symm), World.cell?_setCell_other _ _ _ _ (by intro e; injection e with e _ _; exact hi e.symm)]; exact hv
  have hxX : x ≠ X + 1 := by have := HH.out.lt x HH.out.gx; have := HX.out; omega
  have hF9 := fun u1 u2 u3 => And.intro (hqX x hxX _ _ u1 u2 u3 hF.1) (And.intro (hqX x hxX _ _ u1 u2 u3 hF.2.1) (hqX x hxX _ _ u1 u2 u3 hF.2.2))
  have HF9 := Lib.hid hF9
  have QQ := three_put hG.1 hG.2.1 hG.2.2 (.int .i64 qn) (.int .i64 ((ln : Int) + 1)) (.int .i64 (kn : Nat))
  have HQQ := Lib.hid QQ
  refine gate_one (i := 16) (by kernel_rfl) rfl (fun K hK => ?_)
  clear hF9 hqX QQ hbf
  go_simp
  refine hK _ _ (FG.past (by kernel_rfl) (HF9.out _ _ _)) ?_
  clear hK K hF hG e0 e1 e2 g0 g1 g2
  refine gate_takeF (i := 17) (v := ?_) rfl (by kernel_rfl) (by kernel_rfl) (by kernel_rfl) (fun _ _ _ h => h) (by decide) (FG.past (by kernel_rfl) (HF9.out _ _ _)) (Or.inl ⟨by rfl, ?_⟩) ?_
  rotate_left
  · intro wq hSw; go_simp; rfl
  simp only [Act.put]
  refine gate_done (by kernel_rfl) ?_ _
  simp only [List.getElem_toArray, List.getElem_cons_succ, List.getElem_cons_zero]
  go_wp2
  have hff : Fr (fun i => i = X + 1) wk (((wk.setCell ⟨X + 1, 0, none⟩ (.int .i64 qn)).setCell ⟨X + 1, 1, none⟩ (.int .i64 ((ln : Int) + 1))).setCell ⟨X + 1, 2, none⟩ (.int .i64 (kn : Nat))) := ((Fr.set (S := fun i => i = X + 1) wk ⟨X + 1, 0, none⟩ _ rfl).then_set ⟨X + 1, 1, none⟩ _ (.inl rfl)).then_set ⟨X + 1, 2, none⟩ _ (.inl rfl)
  have hfin : EarStep G x k m n qn (lrnK k K0 (L ++ [(setZ k s.toNat, t)])) (lrnL k K0 (L ++ [(setZ k s.toNat, t)])) (ds ++ [⟨s, S t⟩]) w (((wk.setCell ⟨X + 1, 0, none⟩ (.int .i64 qn)).setCell ⟨X + 1, 1, none⟩ (.int .i64 ((ln : Int) + 1))).setCell ⟨X + 1, 2, none⟩ (.int .i64 (kn : Nat))) :=
    ⟨(HFC.out.next HBK.out).trans hff (fun i hi e => by have := HX.out; omega), ⟨_, ⟨_, _, _, _, (HEC.out.keep HBK.out).fr hff (fun i hi e => HNX.out i hi e)⟩, HGI.out⟩, ⟨((HEC.out.keep HBK.out).fr hff (fun i hi e => HNX.out i hi e)).c0.trans HH.out.c0.symm, fun p' hp' => by
      obtain rfl : p = p' := by have := HH.out.c0.symm.trans hp'; injection this with this; injection this with this; injection this with this; injection this
      exact ⟨(hff.cell_at (HBK.out.cell_at HMC.out.1) (fun e => by have e' : p = X + 1 := e; have := HPL.out; have := HX.out; omega)).trans HMP.out.1.symm, (hff.cell_at (HBK.out.cell_at HMC.out.2) (fun e => by have e' : p = X + 1 := e; have := HPL.out; have := HX.out; omega)).trans HMP.out.2.symm⟩⟩⟩
  have Q0 := HQQ.out
  refine bodyPost_ret (v := .tuple #[.agg #[.int .i64 qn, .int .i64 ((ln : Int) + 1), .int .i64 (kn : Nat)], .nilIface]) (by simp [results, Tryz.results15, go_sem, Q0.1, Q0.2.1, Q0.2.2]) rfl ⟨?_, hfin⟩
  rfl
end Go.Proofs.YtheimfdbadjpoaaGreatDoor

namespace Go.Proofs.YtheimfdbadjpoaaGreatDoor

def grps (n e : Nat) : Nat := (n + e - 1) / e
theorem grps_mul (n e : Nat) (he : 1 ≤ e) : n ≤ grps n e * e ∧ grps n e * e ≤ n + e - 1 := by
  unfold grps
  have h1 := Nat.div_add_mod (n + e - 1) e
  have h2 := Nat.mod_lt (n + e - 1) (show 0 < e by omega)
  rw [Nat.mul_comm] at h1
  omega
theorem grps_mono (n m e : Nat) (h : n ≤ m) : grps n e ≤ grps m e := Nat.div_le_div_right (by omega)
theorem grps_lt (n e g : Nat) (he : 1 ≤ e) : g < grps n e ↔ g * e < n := by
  have := grps_mul n e he
  constructor
  · intro h
    have h2 : (g + 1) * e ≤ grps n e * e := Nat.mul_le_mul_right _ h
    rw [Nat.succ_mul] at h2
    omega
  · intro h
    rcases Nat.lt_or_ge g (grps n e) with h2 | h2
    · exact h2
    · have h3 : grps n e * e ≤ g * e := Nat.mul_le_mul_right _ h2
      omega
theorem grps_pos (n e : Nat) (hn : 1 ≤ n) (he : 1 ≤ e) : 1 ≤ grps n e := (grps_lt n e 0 he).2 (by omega)
def datF (all e : Nat) : Nat → Nat → Nat
  | 0, _ => 0
  | f + 1, n => if n < all then (if n + grps n e = all then n else datF all e f (n + 1)) else 0
def dat (all e : Nat) : Nat := datF all e all 1
theorem datF_eq (all e n : Nat) (h : n + grps n e = all) (hn : n < all) : ∀ f m, m ≤ n → n < m + f → datF all e f m = n
  | 0, m, h1, h2 => by omega
  | f + 1, m, h1, h2 => by
    unfold datF
    rw [if_pos (by omega)]
    by_cases e1 : m = n
    · subst e1; rw [if_pos h]
    · have := grps_mono m n e (by omega)
      rw [if_neg (by omega)]
      exact datF_eq all e n h hn f (m + 1) (by omega) (by omega)
theorem dat_eq (n e : Nat) (hn : 1 ≤ n) (he : 1 ≤ e) : dat (n + grps n e) e = n := by
  have := grps_pos n e hn he
  exact datF_eq _ e n rfl (by omega) _ 1 hn (by omega)

def ovl (m : Nat) : List (List UInt8) → List UInt8
  | [] => noughts m
  | b :: l => xorL b (ovl m l)
theorem ovl_len (m : Nat) : ∀ {l : List (List UInt8)}, (∀ b ∈ l, b.length = m) → (ovl m l).length = m
  | [], _ => List.length_replicate
  | b :: l, h => by
    have ih := ovl_len m (l := l) fun x hx => h x (List.mem_cons_of_mem _ hx)
    have hb := h b (List.mem_cons_self ..)
    unfold ovl; rw [xorL_length _ _ (by omega)]; exact hb
theorem xorL_noughts_left (m : Nat) (a : List UInt8) (h : a.length = m) : xorL (noughts m) a = a := by rw [xorL_comm, ← h, xorL_noughts]
theorem ovl_append (m : Nat) : ∀ {l k : List (List UInt8)}, (∀ b ∈ k, b.length = m) → ovl m (l ++ k) = xorL (ovl m l) (ovl m k)
  | [], k, h => by show ovl m k = xorL (noughts m) (ovl m k); rw [xorL_noughts_left m _ (ovl_len m h)]
  | b :: l, k, h => by show xorL b (ovl m (l ++ k)) = xorL (xorL b (ovl m l)) (ovl m k); rw [ovl_append m h, xorL_assoc]
theorem ovl_set (m : Nat) : ∀ (l : List (List UInt8)) (i : Nat), (∀ b ∈ l, b.length = m) → ∀ h : i < l.length, ovl m (l.set i (noughts m)) = xorL (l[i]) (ovl m l)
  | [], i, _, h => by simp at h
  | b :: l, 0, hl, h => by
    have hb := hl b (List.mem_cons_self ..)
    have ho := ovl_len m (l := l) fun x hx => hl x (List.mem_cons_of_mem _ hx)
    show xorL (noughts m) (ovl m l) = xorL b (xorL b (ovl m l))
    rw [xorL_noughts_left m _ ho, ← xorL_assoc, xorL_self, hb, xorL_noughts_left m _ ho]
  | b :: l, i + 1, hl, h => by
    have hi : i < l.length := by simpa using h
    have ih := ovl_set m l i (fun x hx => hl x (List.mem_cons_of_mem _ hx)) hi
    show xorL b (ovl m (l.set i (noughts m))) = xorL l[i] (xorL b (ovl m l))
    rw [ih, ← xorL_assoc, xorL_comm b, xorL_assoc]
def grpAt {α : Type} (l : List α) (n e g : Nat) : List α := ((l.take n).drop (g * e)).take e
def addG (l : List (List UInt8)) (m e : Nat) : List (List UInt8) := l ++ (List.range (grps l.length e)).map fun g => ovl m (grpAt l l.length e g)
theorem addG_length (l : List (List UInt8)) (m e : Nat) : (addG l m e).length = l.length + grps l.length e := by simp [addG]
end Go.Proofs.YtheimfdbadjpoaaGreatDoor

