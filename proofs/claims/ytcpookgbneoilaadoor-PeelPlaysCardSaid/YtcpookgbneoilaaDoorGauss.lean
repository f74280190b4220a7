/- Plain laws on rows of bits with what they make, one over the other: spans, tables led by low bits, ranks. No program in sight. -/
import Derived.Test.YtcpookgbneoilaaDoorBytePlain
namespace Go.Proofs.YtcpookgbneoilaaDoor

/-- bits, and what they make -/
abbrev Vec := Nat × List UInt8
def vx (u v : Vec) : Vec := (u.1 ^^^ v.1, xorL u.2 v.2)
def vz (m : Nat) : Vec := (0, noughts m)
theorem noughts_len (m : Nat) : (noughts m).length = m := List.length_replicate
theorem vx_comm (u v : Vec) : vx u v = vx v u := by unfold vx; rw [Nat.xor_comm, xorL_comm]
theorem vx_assoc (u v x : Vec) : vx (vx u v) x = vx u (vx v x) := by unfold vx; simp only [Nat.xor_assoc, xorL_assoc]
theorem vx_self {u : Vec} {m : Nat} (h : u.2.length = m) : vx u u = vz m := by unfold vx vz; rw [Nat.xor_self, xorL_self, h]
theorem vx_zero {u : Vec} {m : Nat} (h : u.2.length = m) : vx u (vz m) = u := by unfold vx vz; subst h; simp only [Nat.xor_zero, xorL_noughts]
theorem vx_len {u v : Vec} {m : Nat} (h : u.2.length = m) (h2 : v.2.length = m) : (vx u v).2.length = m := by unfold vx; rw [xorL_length _ _ (by omega)]; exact h
theorem vx_cancel {u v : Vec} {m : Nat} (h : u.2.length = m) (h2 : v.2.length = m) : vx (vx u v) v = u := by rw [vx_assoc, vx_self h2, vx_zero h]
theorem vx_bit (u v : Vec) (b : Nat) : (vx u v).1.testBit b = (u.1.testBit b ^^ v.1.testBit b) := Nat.testBit_xor _ _ _
theorem vz_bit (m b : Nat) : (vz m).1.testBit b = false := Nat.zero_testBit b

/-- all of some over one another -/
def sumV (m : Nat) : List Vec → Vec
  | [] => vz m
  | u :: M => vx u (sumV m M)
def Wf (m : Nat) (L : List Vec) : Prop := ∀ u ∈ L, u.2.length = m
theorem sumV_len {m : Nat} : ∀ {M : List Vec}, Wf m M → (sumV m M).2.length = m
  | [], _ => noughts_len m
  | u :: _, h => vx_len (h u (List.mem_cons_self ..)) (sumV_len fun x hx => h x (List.mem_cons_of_mem _ hx))
theorem sumV_append {m : Nat} : ∀ {M N : List Vec}, Wf m N → sumV m (M ++ N) = vx (sumV m M) (sumV m N)
  | [], N, h => by show sumV m N = vx (vz m) (sumV m N); rw [vx_comm, vx_zero (sumV_len h)]
  | u :: M, N, h => by show vx u (sumV m (M ++ N)) = vx (vx u (sumV m M)) (sumV m N); rw [sumV_append h, vx_assoc]
/-- made of some -/
def Sp (m : Nat) (L : List Vec) (v : Vec) : Prop := ∃ M, (∀ u ∈ M, u ∈ L) ∧ v = sumV m M
theorem Sp.zero (m : Nat) (L : List Vec) : Sp m L (vz m) := ⟨[], by simp, rfl⟩
theorem Sp.len {m : Nat} {L : List Vec} (hL : Wf m L) {v : Vec} (h : Sp m L v) : v.2.length = m := by
  obtain ⟨M, hM, rfl⟩ := h
  exact sumV_len fun u hu => hL u (hM u hu)
theorem Sp.over {m : Nat} {L : List Vec} (hL : Wf m L) {u v : Vec} (h : Sp m L u) (k : Sp m L v) : Sp m L (vx u v) := by
  obtain ⟨M, hM, rfl⟩ := h
  obtain ⟨N, hN, rfl⟩ := k
  refine ⟨M ++ N, fun x hx => ?_, (sumV_append fun x hx => hL x (hN x hx)).symm⟩
  rcases List.mem_append.1 hx with hx | hx
  · exact hM x hx
  · exact hN x hx
theorem Sp.mem {m : Nat} {L : List Vec} (hL : Wf m L) {u : Vec} (h : u ∈ L) : Sp m L u :=
  ⟨[u], by simpa using h, by show u = vx u (vz m); rw [vx_zero (hL u h)]⟩
theorem Sp.sub {m : Nat} {L L' : List Vec} (hL' : Wf m L') (h : ∀ u ∈ L, Sp m L' u) {v : Vec} (hv : Sp m L v) : Sp m L' v := by
  obtain ⟨M, hM, rfl⟩ := hv
  induction M with
  | nil => exact Sp.zero m L'
  | cons u M ih => exact Sp.over hL' (h u (hM u (List.mem_cons_self ..))) (ih fun x hx => hM x (List.mem_cons_of_mem _ hx))
theorem Sp.mono {m : Nat} {L L' : List Vec} (h : ∀ u ∈ L, u ∈ L') {v : Vec} (hv : Sp m L v) : Sp m L' v := by
  obtain ⟨M, hM, rfl⟩ := hv
  exact ⟨M, fun u hu => h u (hM u hu), rfl⟩

/-- b is the lowest bit of n -/
def Low (n b : Nat) : Prop := n.testBit b = true ∧ ∀ j, j < b → n.testBit j = false
theorem Low.uniq {n b c : Nat} (h : Low n b) (k : Low n c) : b = c := by
  rcases Nat.lt_trichotomy b c with h1 | h1 | h1
  · have := k.2 b h1; rw [h.1] at this; cases this
  · exact h1
  · have := h.2 c h1; rw [k.1] at this; cases this
theorem first_or_none (P : Nat → Prop) : ∀ n, (∀ j, j < n → ¬ P j) ∨ ∃ b, b < n ∧ P b ∧ ∀ j, j < b → ¬ P j
  | 0 => .inl fun j hj => absurd hj (Nat.not_lt_zero _)
  | n + 1 => by
    rcases first_or_none P n with h | ⟨b, hb, hp, hl⟩
    · by_cases hn : P n
      · exact .inr ⟨n, by omega, hn, h⟩
      · exact .inl fun j hj => by
          by_cases e : j = n
          · subst e; exact hn
          · exact h j (by omega)
    · exact .inr ⟨b, by omega, hp, hl⟩
theorem low_ex {n k : Nat} (h : n ≠ 0) (hk : n < 2 ^ k) : ∃ b, b < k ∧ Low n b := by
  rcases first_or_none (fun j => n.testBit j = true) k with h1 | ⟨b, hb, hp, hl⟩
  · exfalso; apply h
    apply Nat.eq_of_testBit_eq
    intro i
    rw [Nat.zero_testBit]
    by_cases hi : i < k
    · simpa using h1 i hi
    · exact Nat.testBit_lt_two_pow (Nat.lt_of_lt_of_le hk (Nat.pow_le_pow_right (by omega) (by omega)))
  · exact ⟨b, hb, hp, fun j hj => by simpa using hl j hj⟩

/-- A table: each row is led by a low bit that is its place. -/
structure TI (m k : Nat) (T : Nat → Option Vec) : Prop where
  lt : ∀ b x, T b = some x → b < k
  low : ∀ b x, T b = some x → Low x.1 b
  bits : ∀ b x, T b = some x → x.1 < 2 ^ k
  len : ∀ b x, T b = some x → x.2.length = m
def rowsT (T : Nat → Option Vec) (k : Nat) : List Vec := (List.range k).filterMap T
theorem mem_rowsT {T : Nat → Option Vec} {k : Nat} {u : Vec} : u ∈ rowsT T k ↔ ∃ b, b < k ∧ T b = some u := by
  unfold rowsT; rw [List.mem_filterMap]; simp
theorem TI.wf {m k : Nat} {T : Nat → Option Vec} (h : TI m k T) : Wf m (rowsT T k) := fun u hu => by
  obtain ⟨b, _, hb⟩ := mem_rowsT.1 hu
  exact h.len b u hb
/-- rows chosen by c, over one another -/
def comb (m : Nat) (T : Nat → Option Vec) (c : Nat → Bool) : Nat → Vec
  | 0 => vz m
  | b + 1 => match c b, T b with
    | true, some x => vx (comb m T c b) x
    | _, _ => comb m T c b
theorem comb_take {m : Nat} {T : Nat → Option Vec} {c : Nat → Bool} {b : Nat} {x : Vec} (h : c b = true) (h2 : T b = some x) : comb m T c (b + 1) = vx (comb m T c b) x := by rw [comb, h, h2]
theorem comb_no {m : Nat} {T : Nat → Option Vec} {c : Nat → Bool} {b : Nat} (h : c b = false) : comb m T c (b + 1) = comb m T c b := by rw [comb, h]
theorem comb_none {m : Nat} {T : Nat → Option Vec} {c : Nat → Bool} {b : Nat} (h : T b = none) : comb m T c (b + 1) = comb m T c b := by rw [comb, h]; cases c b <;> rfl
theorem comb_len {m k : Nat} {T : Nat → Option Vec} (hT : TI m k T) (c : Nat → Bool) : ∀ n, (comb m T c n).2.length = m
  | 0 => noughts_len m
  | n + 1 => by
    cases hc : c n with
    | false => rw [comb_no hc]; exact comb_len hT c n
    | true =>
      cases ht : T n with
      | none => rw [comb_none ht]; exact comb_len hT c n
      | some x => rw [comb_take hc ht]; exact vx_len (comb_len hT c n) (hT.len n x ht)
theorem comb_zero {m : Nat} {T : Nat → Option Vec} {c : Nat → Bool} : ∀ n, (∀ j, j < n → ¬ (c j = true ∧ T j ≠ none)) → comb m T c n = vz m
  | 0, _ => rfl
  | n + 1, h => by
    have ih := comb_zero (m := m) n (fun j hj => h j (by omega))
    cases hc : c n with
    | false => rw [comb_no hc]; exact ih
    | true =>
      cases ht : T n with
      | none => rw [comb_none ht]; exact ih
      | some x => exact absurd ⟨hc, by rw [ht]; simp⟩ (h n (by omega))
theorem comb_low {m k : Nat} {T : Nat → Option Vec} (hT : TI m k T) {c : Nat → Bool} {b : Nat} {x : Vec} (hc : c b = true) (hx : T b = some x) (hl : ∀ j, j < b → ¬ (c j = true ∧ T j ≠ none)) : ∀ n, b < n → Low (comb m T c n).1 b
  | 0, h => by omega
  | n + 1, h => by
    have lx := hT.low b x hx
    by_cases e : b = n
    · subst e
      rw [comb_take hc hx, comb_zero _ hl]
      exact ⟨by rw [vx_bit, vz_bit, lx.1]; rfl, fun j hj => by rw [vx_bit, vz_bit, lx.2 j hj]; rfl⟩
    · have ih := comb_low hT hc hx hl n (by omega)
      cases hcn : c n with
      | false => rw [comb_no hcn]; exact ih
      | true =>
        cases ht : T n with
        | none => rw [comb_none ht]; exact ih
        | some y =>
          have ly := hT.low n y ht
          rw [comb_take hcn ht]
          exact ⟨by rw [vx_bit, ih.1, ly.2 b (by omega)]; rfl, fun j hj => by rw [vx_bit, ih.2 j hj, ly.2 j (by omega)]; rfl⟩
theorem comb_congr {m : Nat} {T : Nat → Option Vec} {c d : Nat → Bool} : ∀ n, (∀ j, j < n → c j = d j) → comb m T c n = comb m T d n
  | 0, _ => rfl
  | n + 1, h => by
    have ih := comb_congr (m := m) (T := T) n (fun j hj => h j (by omega))
    have hn := h n (by omega)
    rw [comb, comb, ih, hn]
theorem comb_flip {m k : Nat} {T : Nat → Option Vec} (hT : TI m k T) {c : Nat → Bool} {b : Nat} {x : Vec} (hx : T b = some x) : ∀ n, b < n → comb m T (fun j => if j = b then !c b else c j) n = vx x (comb m T c n)
  | 0, h => by omega
  | n + 1, h => by
    have hxl := hT.len b x hx
    by_cases e : b = n
    · subst e
      have e1 : ∀ v : Bool, comb m T (fun j => if j = b then v else c j) b = comb m T c b := fun v => comb_congr b fun j hj => if_neg (by omega)
      have hl := comb_len hT c b
      cases hc : c b with
      | false =>
        rw [comb_take (x := x) (by simp) hx, comb_no hc, e1, vx_comm]
      | true =>
        rw [comb_no (by simp), comb_take hc hx, e1, vx_comm x, vx_cancel hl hxl]
    · have ih := comb_flip hT (c := c) hx n (by omega)
      have hn : (fun j => if j = b then !c b else c j) n = c n := if_neg (fun h => e h.symm)
      cases hcn : c n with
      | false => rw [comb_no (hn.trans hcn), comb_no hcn]; exact ih
      | true =>
        cases ht : T n with
        | none => rw [comb_none ht, comb_none ht]; exact ih
        | some y => rw [comb_take (hn.trans hcn) ht, comb_take hcn ht, ih, vx_assoc]
theorem sp_comb {m k : Nat} {T : Nat → Option Vec} (hT : TI m k T) {u : Vec} (h : Sp m (rowsT T k) u) : ∃ c, u = comb m T c k := by
  obtain ⟨M, hM, rfl⟩ := h
  induction M with
  | nil => exact ⟨fun _ => false, (comb_zero k (by simp)).symm⟩
  | cons v M ih =>
    obtain ⟨c, hc⟩ := ih fun x hx => hM x (List.mem_cons_of_mem _ hx)
    obtain ⟨b, hb, hv⟩ := mem_rowsT.1 (hM v (List.mem_cons_self ..))
    refine ⟨fun j => if j = b then !c b else c j, ?_⟩
    show vx v (sumV m M) = _
    rw [hc]
    exact (comb_flip hT hv k hb).symm
/-- what is made of a table's rows and has none of its leads is nothing -/
theorem sp_none {m k : Nat} {T : Nat → Option Vec} (hT : TI m k T) {u : Vec} (h : Sp m (rowsT T k) u) (hb : ∀ b, T b ≠ none → u.1.testBit b = false) : u = vz m := by
  obtain ⟨c, rfl⟩ := sp_comb hT h
  rcases first_or_none (fun j => c j = true ∧ T j ≠ none) k with h1 | ⟨b, hbk, ⟨hc, ht⟩, hl⟩
  · exact comb_zero k h1
  · cases hx : T b with
    | none => exact absurd hx ht
    | some x =>
      have := (comb_low hT hc hx hl k hbk).1
      rw [hb b ht] at this; cases this
/-- what is made of a table's rows is led by one of its leads -/
theorem sp_lead {m k : Nat} {T : Nat → Option Vec} (hT : TI m k T) {u : Vec} (h : Sp m (rowsT T k) u) (hu : u.1 ≠ 0) : ∃ b, T b ≠ none ∧ Low u.1 b := by
  obtain ⟨c, rfl⟩ := sp_comb hT h
  rcases first_or_none (fun j => c j = true ∧ T j ≠ none) k with h1 | ⟨b, hbk, ⟨hc, ht⟩, hl⟩
  · rw [comb_zero k h1] at hu; exact absurd rfl hu
  · cases hx : T b with
    | none => exact absurd hx ht
    | some x => exact ⟨b, ht, comb_low hT hc hx hl k hbk⟩

/-- what is left of a row without what is there -/
def leftTo (T : Nat → Option Vec) (v : Vec) : Nat → Vec
  | 0 => v
  | b + 1 => match (leftTo T v b).1.testBit b, T b with
    | true, some x => vx (leftTo T v b) x
    | _, _ => leftTo T v b
theorem leftTo_take {T : Nat → Option Vec} {v : Vec} {b : Nat} {x : Vec} (h : (leftTo T v b).1.testBit b = true) (h2 : T b = some x) : leftTo T v (b + 1) = vx (leftTo T v b) x := by rw [leftTo, h, h2]
theorem leftTo_no {T : Nat → Option Vec} {v : Vec} {b : Nat} (h : (leftTo T v b).1.testBit b = false) : leftTo T v (b + 1) = leftTo T v b := by rw [leftTo, h]
theorem leftTo_none {T : Nat → Option Vec} {v : Vec} {b : Nat} (h : T b = none) : leftTo T v (b + 1) = leftTo T v b := by rw [leftTo, h]; cases (leftTo T v b).1.testBit b <;> rfl
theorem leftTo_bits {m k : Nat} {T : Nat → Option Vec} (hT : TI m k T) (v : Vec) : ∀ n b, b < n → T b ≠ none → (leftTo T v n).1.testBit b = false
  | 0, b, h, _ => by omega
  | n + 1, b, h, hb => by
    by_cases e : b = n
    · subst e
      cases ht : T b with
      | none => exact absurd ht hb
      | some x =>
        cases hc : (leftTo T v b).1.testBit b with
        | false => rw [leftTo_no hc]; exact hc
        | true => rw [leftTo_take hc ht, vx_bit, hc, (hT.low b x ht).1]; rfl
    · have ih := leftTo_bits hT v n b (by omega) hb
      cases hc : (leftTo T v n).1.testBit n with
      | false => rw [leftTo_no hc]; exact ih
      | true =>
        cases ht : T n with
        | none => rw [leftTo_none ht]; exact ih
        | some x => rw [leftTo_take hc ht, vx_bit, ih, (hT.low n x ht).2 b (by omega)]; rfl
theorem leftTo_sp {m k : Nat} {T : Nat → Option Vec} (hT : TI m k T) {v : Vec} (hv : v.2.length = m) : ∀ n, ∃ s, Sp m (rowsT T k) s ∧ leftTo T v n = vx v s
  | 0 => ⟨vz m, Sp.zero _ _, (vx_zero hv).symm⟩
  | n + 1 => by
    obtain ⟨s, hs, he⟩ := leftTo_sp hT hv n
    cases hc : (leftTo T v n).1.testBit n with
    | false => rw [leftTo_no hc]; exact ⟨s, hs, he⟩
    | true =>
      cases ht : T n with
      | none => rw [leftTo_none ht]; exact ⟨s, hs, he⟩
      | some x => exact ⟨vx s x, Sp.over hT.wf hs (Sp.mem hT.wf (mem_rowsT.2 ⟨n, hT.lt n x ht, ht⟩)), by rw [leftTo_take hc ht, he, vx_assoc]⟩
theorem leftTo_lt {m k : Nat} {T : Nat → Option Vec} (hT : TI m k T) {v : Vec} (hv : v.1 < 2 ^ k) : ∀ n, (leftTo T v n).1 < 2 ^ k
  | 0 => hv
  | n + 1 => by
    have ih := leftTo_lt hT hv n
    cases hc : (leftTo T v n).1.testBit n with
    | false => rw [leftTo_no hc]; exact ih
    | true =>
      cases ht : T n with
      | none => rw [leftTo_none ht]; exact ih
      | some x => rw [leftTo_take hc ht]; exact Nat.xor_lt_two_pow ih (hT.bits n x ht)
theorem leftTo_len {m k : Nat} {T : Nat → Option Vec} (hT : TI m k T) {v : Vec} (hv : v.2.length = m) (n : Nat) : (leftTo T v n).2.length = m := by
  obtain ⟨s, hs, he⟩ := leftTo_sp hT hv n
  rw [he]; exact vx_len hv (Sp.len hT.wf hs)
/-- a row is made of a table's just if nothing is left of it -/
theorem left_iff {m k : Nat} {T : Nat → Option Vec} (hT : TI m k T) {v : Vec} (hv : v.2.length = m) : leftTo T v k = vz m ↔ Sp m (rowsT T k) v := by
  obtain ⟨s, hs, he⟩ := leftTo_sp hT hv k
  have hsl := Sp.len hT.wf hs
  constructor
  · intro h
    rw [he] at h
    have e : v = s := by
      have := vx_cancel hv hsl
      rw [h, vx_comm, vx_zero hsl] at this
      exact this.symm
    rw [e]; exact hs
  · intro h
    refine sp_none hT (by rw [he]; exact Sp.over hT.wf h hs) (fun b hb => ?_)
    by_cases hbk : b < k
    · exact leftTo_bits hT v k b hbk hb
    · cases hx : T b with
      | none => exact absurd hx hb
      | some x => exact absurd (hT.lt b x hx) hbk
def insT (T : Nat → Option Vec) (b : Nat) (r : Vec) : Nat → Option Vec := fun j => if j = b then some r else T j

/-- The table T has taken the rows L. -/
structure St (m k : Nat) (T : Nat → Option Vec) (L : List Vec) : Prop where
  ti : TI m k T
  wf : Wf m L
  sp : ∀ u, Sp m (rowsT T k) u ↔ Sp m L u
theorem St.nil (m k : Nat) : St m k (fun _ => none) [] :=
  ⟨⟨fun _ _ h => (by cases h), fun _ _ h => (by cases h), fun _ _ h => (by cases h), fun _ _ h => (by cases h)⟩, fun _ h => (by simp at h), fun u => by
    have e : rowsT (fun _ => none) k = [] := by unfold rowsT; simp
    rw [e]⟩
theorem wf_snoc {m : Nat} {L : List Vec} {v : Vec} (h : Wf m L) (hv : v.2.length = m) : Wf m (L ++ [v]) := fun u hu => by
  rcases List.mem_append.1 hu with hu | hu
  · exact h u hu
  · rw [List.mem_singleton] at hu; subst hu; exact hv
theorem St.same {m k : Nat} {T : Nat → Option Vec} {L : List Vec} (h : St m k T L) {v : Vec} (hv : v.2.length = m) (hl : leftTo T v k = vz m) : St m k T (L ++ [v]) := by
  refine ⟨h.ti, wf_snoc h.wf hv, fun u => ?_⟩
  rw [h.sp]
  constructor
  · exact Sp.mono fun x hx => List.mem_append_left _ hx
  · refine Sp.sub h.wf fun x hx => ?_
    rcases List.mem_append.1 hx with hx | hx
    · exact Sp.mem h.wf hx
    · rw [List.mem_singleton] at hx; subst hx; rw [← h.sp]; exact (left_iff h.ti hv).1 hl
theorem left_low_none {m k : Nat} {T : Nat → Option Vec} (hT : TI m k T) {v : Vec} {b : Nat} (hb : b < k) (hl : Low (leftTo T v k).1 b) : T b = none := by
  cases hx : T b with
  | none => rfl
  | some x =>
    have := leftTo_bits hT v k b hb (by rw [hx]; simp)
    rw [hl.1] at this; cases this
theorem St.ins {m k : Nat} {T : Nat → Option Vec} {L : List Vec} (h : St m k T L) {v : Vec} (hv : v.2.length = m) (hk : v.1 < 2 ^ k) {b : Nat} (hb : b < k) (hl : Low (leftTo T v k).1 b) :
    St m k (insT T b (leftTo T v k)) (L ++ [v]) := by
  have hT := h.ti
  have hn := left_low_none hT hb hl
  have hlen := leftTo_len hT hv k
  obtain ⟨s, hs, he⟩ := leftTo_sp hT hv k
  have hTi : TI m k (insT T b (leftTo T v k)) := by
    refine ⟨fun j x hx => ?_, fun j x hx => ?_, fun j x hx => ?_, fun j x hx => ?_⟩ <;>
    · unfold insT at hx
      by_cases e : j = b
      · rw [if_pos e] at hx; cases hx; subst e
        first | exact hb | exact hl | exact leftTo_lt hT hk k | exact hlen
      · rw [if_neg e] at hx
        first | exact hT.lt j x hx | exact hT.low j x hx | exact hT.bits j x hx | exact hT.len j x hx
  have hwf := wf_snoc h.wf hv
  have hold : ∀ u, Sp m (rowsT T k) u → Sp m (rowsT (insT T b (leftTo T v k)) k) u := fun u hu => Sp.mono (fun x hx => by
    obtain ⟨j, hj, hjx⟩ := mem_rowsT.1 hx
    refine mem_rowsT.2 ⟨j, hj, ?_⟩
    unfold insT
    rw [if_neg (by rintro rfl; rw [hn] at hjx; cases hjx)]; exact hjx) hu
  refine ⟨hTi, hwf, fun u => ⟨Sp.sub hwf fun x hx => ?_, Sp.sub hTi.wf fun x hx => ?_⟩⟩
  · obtain ⟨j, hj, hjx⟩ := mem_rowsT.1 hx
    unfold insT at hjx
    by_cases e : j = b
    · rw [if_pos e] at hjx; cases hjx
      rw [he]
      exact Sp.over hwf (Sp.mem hwf (List.mem_append_right _ (List.mem_singleton.2 rfl))) (Sp.mono (fun y hy => List.mem_append_left _ hy) ((h.sp s).1 hs))
    · rw [if_neg e] at hjx
      exact Sp.mono (fun y hy => List.mem_append_left _ hy) ((h.sp x).1 (Sp.mem hT.wf (mem_rowsT.2 ⟨j, hj, hjx⟩)))
  · rcases List.mem_append.1 hx with hx | hx
    · exact hold x ((h.sp x).2 (Sp.mem h.wf hx))
    · rw [List.mem_singleton] at hx; subst hx
      have e : x = vx (leftTo T x k) s := by rw [he, vx_cancel hv (Sp.len hT.wf hs)]
      have h2 : Sp m (rowsT (insT T b (leftTo T x k)) k) (vx (leftTo T x k) s) := Sp.over hTi.wf (Sp.mem hTi.wf (mem_rowsT.2 ⟨b, hb, if_pos rfl⟩)) (hold s hs)
      rwa [← e] at h2
/-- Whatever is made of no bit is nothing. -/
def NoClash (m : Nat) (L : List Vec) : Prop := ∀ u, Sp m L u → u.1 = 0 → u.2 = noughts m
theorem St.noClash {m k : Nat} {T : Nat → Option Vec} {L : List Vec} (h : St m k T L) : NoClash m L := fun u hu h0 => by
  have := sp_none h.ti ((h.sp u).2 hu) (fun b _ => by rw [h0]; exact Nat.zero_testBit b)
  rw [this]; rfl
theorem St.clash {m k : Nat} {T : Nat → Option Vec} {L : List Vec} (h : St m k T L) {v : Vec} (hv : v.2.length = m) (h0 : (leftTo T v k).1 = 0) (h1 : (leftTo T v k).2 ≠ noughts m) (M : List Vec) : ¬ NoClash m (L ++ [v] ++ M) := fun hn => by
  obtain ⟨s, hs, he⟩ := leftTo_sp h.ti hv k
  have hwf := wf_snoc h.wf hv
  have h2 : Sp m (L ++ [v]) (leftTo T v k) := by
    rw [he]
    exact Sp.over hwf (Sp.mem hwf (List.mem_append_right _ (List.mem_singleton.2 rfl))) (Sp.mono (fun y hy => List.mem_append_left _ hy) ((h.sp s).1 hs))
  exact h1 (hn _ (Sp.mono (fun y hy => List.mem_append_left _ hy) h2) h0)
/-- Some that is made of L is led by bit b. -/
def Lead (m : Nat) (L : List Vec) (b : Nat) : Prop := ∃ u, Sp m L u ∧ Low u.1 b
theorem St.lead {m k : Nat} {T : Nat → Option Vec} {L : List Vec} (h : St m k T L) (b : Nat) : T b ≠ none ↔ Lead m L b := by
  constructor
  · intro hb
    cases hx : T b with
    | none => exact absurd hx hb
    | some x => exact ⟨x, (h.sp x).1 (Sp.mem h.ti.wf (mem_rowsT.2 ⟨b, h.ti.lt b x hx, hx⟩)), h.ti.low b x hx⟩
  · rintro ⟨u, hu, hl⟩
    have hne : u.1 ≠ 0 := by intro e; rw [e] at hl; have := hl.1; rw [Nat.zero_testBit] at this; cases this
    obtain ⟨c, hc, hlc⟩ := sp_lead h.ti ((h.sp u).2 hu) hne
    rw [Low.uniq hl hlc]; exact hc
end Go.Proofs.YtcpookgbneoilaaDoor
