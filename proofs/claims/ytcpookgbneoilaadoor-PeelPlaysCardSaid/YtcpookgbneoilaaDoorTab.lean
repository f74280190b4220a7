/- Plain laws on ranks: a table as it grows row by row, and how many leads it has. No program in sight. -/
import Derived.Test.YtcpookgbneoilaaDoorGauss
namespace Go.Proofs.YtcpookgbneoilaaDoor

def lowA (n : Nat) : Nat → Nat → Nat
  | 0, b => b
  | f + 1, b => if n.testBit b = true then b else lowA n f (b + 1)
/-- the place of the lowest bit -/
def lowI (n : Nat) : Nat := lowA n 64 0
theorem lowA_eq {n c : Nat} (h : Low n c) : ∀ f b, b ≤ c → c < b + f → lowA n f b = c
  | 0, b, h1, h2 => by omega
  | f + 1, b, h1, h2 => by
    unfold lowA
    by_cases e : b = c
    · subst e; rw [if_pos h.1]
    · rw [if_neg (by rw [h.2 b (by omega)]; simp)]
      exact lowA_eq h f (b + 1) (by omega) (by omega)
theorem lowI_low {n k : Nat} (h : n ≠ 0) (hk : n < 2 ^ k) (h64 : k ≤ 64) : Low n (lowI n) ∧ lowI n < k := by
  obtain ⟨b, hb, hl⟩ := low_ex h hk
  have e : lowI n = b := lowA_eq hl 64 0 (by omega) (by omega)
  rw [e]; exact ⟨hl, hb⟩
def addT (k : Nat) (T : Nat → Option Vec) (v : Vec) : Nat → Option Vec := if (leftTo T v k).1 = 0 then T else insT T (lowI (leftTo T v k).1) (leftTo T v k)
/-- does it raise the rank? -/
def rsT (k : Nat) (T : Nat → Option Vec) (v : Vec) : Bool := decide ((leftTo T v k).1 ≠ 0)
/-- how many of the first b places have a row -/
def rnkT (T : Nat → Option Vec) : Nat → Nat
  | 0 => 0
  | b + 1 => rnkT T b + (if (T b).isSome = true then 1 else 0)
theorem rnkT_le (T : Nat → Option Vec) : ∀ k, rnkT T k ≤ k
  | 0 => Nat.le_refl _
  | k + 1 => by have := rnkT_le T k; unfold rnkT; split <;> omega
theorem rnkT_congr {T U : Nat → Option Vec} : ∀ {k : Nat}, (∀ b, b < k → (T b).isSome = (U b).isSome) → rnkT T k = rnkT U k
  | 0, _ => rfl
  | k + 1, h => by unfold rnkT; rw [rnkT_congr fun b hb => h b (by omega), h k (by omega)]
theorem rnkT_full {T : Nat → Option Vec} : ∀ {k : Nat}, rnkT T k = k → ∀ b, b < k → (T b).isSome = true
  | 0, _, b, hb => by omega
  | k + 1, h, b, hb => by
    have hl := rnkT_le T k
    unfold rnkT at h
    split at h
    · rename_i hk
      by_cases e : b = k
      · subst e; exact hk
      · exact rnkT_full (k := k) (by omega) b (by omega)
    · omega
theorem rnkT_all {T : Nat → Option Vec} : ∀ {k : Nat}, (∀ b, b < k → (T b).isSome = true) → rnkT T k = k
  | 0, _ => rfl
  | k + 1, h => by unfold rnkT; rw [rnkT_all fun b hb => h b (by omega), if_pos (h k (by omega))]
theorem rnkT_none : ∀ k, rnkT (fun _ => none) k = 0
  | 0 => rfl
  | k + 1 => by unfold rnkT; rw [rnkT_none k]; rfl
theorem rnkT_ins {T : Nat → Option Vec} {b : Nat} {r : Vec} (hn : T b = none) : ∀ {k : Nat}, rnkT (insT T b r) k = rnkT T k + if b < k then 1 else 0
  | 0 => by rw [if_neg (by omega)]; rfl
  | k + 1 => by
    have ih := rnkT_ins (T := T) (b := b) (r := r) hn (k := k)
    unfold rnkT
    rw [ih]
    by_cases e : k = b
    · subst e
      have h1 : (insT T k r k).isSome = true := by unfold insT; rw [if_pos rfl]; rfl
      rw [if_neg (by omega), if_pos h1, if_neg (by rw [hn]; simp), if_pos (by omega)]
    · have h1 : (insT T b r k).isSome = (T k).isSome := by unfold insT; rw [if_neg e]
      rw [h1]
      by_cases hb : b < k
      · rw [if_pos hb, if_pos (show b < k + 1 by omega)]; omega
      · rw [if_neg hb, if_neg (show ¬ b < k + 1 by omega)]; omega
theorem St.addT {m k : Nat} {T : Nat → Option Vec} {L : List Vec} (h : St m k T L) (h64 : k ≤ 64) {v : Vec} (hv : v.2.length = m) (hk : v.1 < 2 ^ k) (hok : (leftTo T v k).1 = 0 → (leftTo T v k).2 = noughts m) : St m k (addT k T v) (L ++ [v]) := by
  unfold Go.Proofs.YtcpookgbneoilaaDoor.addT
  by_cases h0 : (leftTo T v k).1 = 0
  · rw [if_pos h0]
    exact h.same hv (Prod.ext h0 (hok h0))
  · rw [if_neg h0]
    obtain ⟨hl, hb⟩ := lowI_low h0 (leftTo_lt h.ti hk k) h64
    exact h.ins hv hk hb hl
theorem rnk_addT {m k : Nat} {T : Nat → Option Vec} {L : List Vec} (h : St m k T L) (h64 : k ≤ 64) {v : Vec} (hk : v.1 < 2 ^ k) : rnkT (addT k T v) k = rnkT T k + if rsT k T v = true then 1 else 0 := by
  unfold Go.Proofs.YtcpookgbneoilaaDoor.addT rsT
  by_cases h0 : (leftTo T v k).1 = 0
  · rw [if_pos h0, if_neg (by simp [h0])]; omega
  · rw [if_neg h0, if_pos (by simp [h0])]
    obtain ⟨hl, hb⟩ := lowI_low h0 (leftTo_lt h.ti hk k) h64
    rw [rnkT_ins (left_low_none h.ti hb hl), if_pos hb]
def tabT (k : Nat) (L : List Vec) : Nat → Option Vec := L.foldl (addT k) (fun _ => none)
theorem tabT_snoc (k : Nat) (L : List Vec) (v : Vec) : tabT k (L ++ [v]) = addT k (tabT k L) v := by unfold tabT; rw [List.foldl_append]; rfl
/-- rows of bits alone -/
def Bare (k : Nat) (L : List Vec) : Prop := ∀ v ∈ L, v.2 = [] ∧ v.1 < 2 ^ k
theorem Bare.snoc {k : Nat} {L : List Vec} {v : Vec} (h : Bare k L) (h1 : v.2 = []) (h2 : v.1 < 2 ^ k) : Bare k (L ++ [v]) := fun u hu => by
  rcases List.mem_append.1 hu with hu | hu
  · exact h u hu
  · rw [List.mem_singleton.1 hu]; exact ⟨h1, h2⟩
theorem Bare.init {k : Nat} {L : List Vec} {v : Vec} (h : Bare k (L ++ [v])) : Bare k L ∧ v.2 = [] ∧ v.1 < 2 ^ k :=
  ⟨fun u hu => h u (List.mem_append_left _ hu), h v (List.mem_append_right _ (List.mem_singleton.2 rfl))⟩
theorem len_zero {l : List UInt8} (h : l.length = 0) : l = noughts 0 := by
  cases l with
  | nil => rfl
  | cons a l => simp at h
theorem st_tab {k : Nat} (h64 : k ≤ 64) : ∀ (n : Nat) (L : List Vec), L.length = n → Bare k L → St 0 k (tabT k L) L
  | 0, L, hn, _ => by rw [List.length_eq_zero_iff.1 hn]; exact St.nil 0 k
  | n + 1, L, hn, h => by
    obtain ⟨M, v, rfl⟩ : ∃ M v, L = M ++ [v] := by
      have hne : L ≠ [] := by rintro rfl; simp at hn
      exact ⟨L.dropLast, L.getLast hne, (List.dropLast_concat_getLast hne).symm⟩
    obtain ⟨h1, h2, h3⟩ := h.init
    have ih := st_tab h64 n M (by rw [List.length_append, List.length_singleton] at hn; omega) h1
    rw [tabT_snoc]
    exact ih.addT h64 (by rw [h2]; rfl) h3 (fun _ => len_zero (leftTo_len ih.ti (by rw [h2]; rfl) k))
theorem tab_st {k : Nat} (h64 : k ≤ 64) {L : List Vec} (h : Bare k L) : St 0 k (tabT k L) L := st_tab h64 _ L rfl h
/-- the rank of rows -/
def rk (k : Nat) (L : List Vec) : Nat := rnkT (tabT k L) k
def raises (k : Nat) (L : List Vec) (v : Vec) : Bool := rsT k (tabT k L) v
theorem rk_nil (k : Nat) : rk k [] = 0 := rnkT_none k
theorem rk_snoc {k : Nat} (h64 : k ≤ 64) {L : List Vec} {v : Vec} (h : Bare k L) (hk : v.1 < 2 ^ k) : rk k (L ++ [v]) = rk k L + if raises k L v = true then 1 else 0 := by
  unfold rk raises; rw [tabT_snoc]; exact rnk_addT (tab_st h64 h) h64 hk
theorem rk_le (k : Nat) (L : List Vec) : rk k L ≤ k := rnkT_le _ k
theorem rk_append {k : Nat} (h64 : k ≤ 64) {L : List Vec} : ∀ (n : Nat) (M : List Vec), M.length = n → Bare k (L ++ M) → rk k L ≤ rk k (L ++ M) ∧ rk k (L ++ M) ≤ rk k L + M.length
  | 0, M, hn, _ => by rw [List.length_eq_zero_iff.1 hn, List.append_nil]; exact ⟨Nat.le_refl _, Nat.le_add_right _ _⟩
  | n + 1, M, hn, h => by
    obtain ⟨N, v, rfl⟩ : ∃ N v, M = N ++ [v] := by
      have hne : M ≠ [] := by rintro rfl; simp at hn
      exact ⟨M.dropLast, M.getLast hne, (List.dropLast_concat_getLast hne).symm⟩
    rw [← List.append_assoc] at h ⊢
    obtain ⟨h1, h2, h3⟩ := h.init
    have ih := rk_append h64 n N (by rw [List.length_append, List.length_singleton] at hn; omega) h1
    rw [rk_snoc h64 h1 h3, List.length_append, List.length_singleton]
    split <;> omega
theorem rk_len {k : Nat} (h64 : k ≤ 64) {L : List Vec} (h : Bare k L) : rk k L ≤ L.length := by
  have := (rk_append h64 (L := []) _ L rfl (by simpa using h)).2
  rw [List.nil_append, rk_nil] at this; omega
/-- The rank is told by the leads alone: so by what can be made. -/
theorem rk_sp {k : Nat} (h64 : k ≤ 64) {L M : List Vec} (hL : Bare k L) (hM : Bare k M) (h : ∀ b, Lead 0 L b ↔ Lead 0 M b) : rk k L = rk k M := by
  unfold rk
  refine rnkT_congr fun b hb => ?_
  have h1 := (tab_st h64 hL).lead b
  have h2 := (tab_st h64 hM).lead b
  have h3 := h b
  cases e1 : tabT k L b <;> cases e2 : tabT k M b <;> simp_all
/-- one block alone -/
def unit (b : Nat) : Vec := (2 ^ b, [])
theorem unit_low (b : Nat) : Low (unit b).1 b := ⟨Nat.testBit_two_pow_self, fun j hj => by
  show (2 ^ b).testBit j = false
  rw [Nat.testBit_two_pow]; simp; omega⟩
theorem unit_lt {b k : Nat} (h : b < k) : (unit b).1 < 2 ^ k := Nat.pow_lt_pow_right (by omega) h
theorem rk_units {k : Nat} (h64 : k ≤ 64) {L : List Vec} (hL : Bare k L) (h : ∀ b, b < k → Sp 0 L (unit b)) : rk k L = k := by
  unfold rk
  refine rnkT_all fun b hb => ?_
  have := ((tab_st h64 hL).lead b).2 ⟨unit b, h b hb, unit_low b⟩
  cases e : tabT k L b with
  | none => exact absurd e this
  | some x => rfl
theorem Bare.wf {k : Nat} {L : List Vec} (h : Bare k L) : Wf 0 L := fun u hu => by rw [(h u hu).1]; rfl
/-- It raises the rank just if it is not made of what is there. -/
theorem raises_iff {k : Nat} (h64 : k ≤ 64) {L : List Vec} (hL : Bare k L) {v : Vec} (hv : v.2 = []) : raises k L v = false ↔ Sp 0 L v := by
  have hs := tab_st h64 hL
  have hv0 : v.2.length = 0 := by rw [hv]; rfl
  rw [← hs.sp v, ← left_iff hs.ti hv0]
  unfold raises rsT
  constructor
  · intro h
    have h0 : (leftTo (tabT k L) v k).1 = 0 := by simpa using h
    exact Prod.ext h0 (len_zero (leftTo_len hs.ti hv0 k))
  · intro h
    rw [h]; simp [vz]
end Go.Proofs.YtcpookgbneoilaaDoor
