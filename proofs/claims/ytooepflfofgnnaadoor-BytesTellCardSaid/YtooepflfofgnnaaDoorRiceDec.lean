/- Plain laws on short numbers read back: the numbers of bits are those whose bits they are, and of fewer bits there are none. No program in sight. -/
import Derived.Test.YtooepflfofgnnaaDoorRicePlain
namespace Go.Proofs.YtooepflfofgnnaaDoor

/-- the bits of numbers, from the front -/
def ricL (low : Nat) : List Int → List Int
  | [] => []
  | n :: l => ric1 (fld n).toNat low ++ ricL low l
theorem ricL_append (low : Nat) : ∀ l k : List Int, ricL low (l ++ k) = ricL low l ++ ricL low k
  | [], _ => rfl
  | n :: l, k => by rw [List.cons_append, ricL, ricL, ricL_append low l k, List.append_assoc]
theorem take_snoc (l : List Int) (k : Nat) (h : k < l.length) : l.take (k + 1) = l.take k ++ [l.getD k 0] := by
  rw [List.take_add_one, List.getElem?_eq_getElem h, List.getD_eq_getElem?_getD, List.getElem?_eq_getElem h]; rfl
theorem ric_eq (l : List Int) (low : Nat) : ∀ k, k ≤ l.length → ric l low k = ricL low (l.take k)
  | 0, _ => by rw [ric, List.take_zero, ricL]
  | k + 1, h => by
    rw [ric, ric_eq l low k (by omega), take_snoc l k (by omega), ricL_append, ricL, ricL, List.append_nil]
theorem ric_all (l : List Int) (low : Nat) : ric l low l.length = ricL low l := by rw [ric_eq l low _ (Nat.le_refl _), List.take_length]
theorem ricL_len_le (low : Nat) : ∀ l : List Int, l.length ≤ (ricL low l).length
  | [] => Nat.le_refl _
  | n :: l => by
    have := ricL_len_le low l
    rw [ricL, List.length_append, ric1_length, List.length_cons]
    generalize (fld n).toNat / 2 ^ low = q
    omega
theorem lowb_bit (n : Nat) : ∀ b, ∀ z ∈ lowb n b, z = 0 ∨ z = 1
  | 0, z, h => by simp [lowb] at h
  | b + 1, z, h => by
    rw [lowb, List.mem_cons] at h
    rcases h with rfl | h
    · have := Nat.mod_lt (n / 2 ^ b) (show 0 < 2 by omega); omega
    · exact lowb_bit n b z h
theorem ricL_bit (low : Nat) : ∀ l : List Int, ∀ z ∈ ricL low l, z = 0 ∨ z = 1
  | [], z, h => by simp [ricL] at h
  | n :: l, z, h => by
    rw [ricL, List.mem_append] at h
    rcases h with h | h
    · rw [ric1, List.mem_append, List.mem_cons] at h
      rcases h with h | h | h
      · exact .inr (List.eq_of_mem_replicate h)
      · exact .inl h
      · exact lowb_bit _ _ z h
    · exact ricL_bit low l z h

/-- ones up to a nought -/
def unary : List Int → Option (Nat × List Int)
  | [] => none
  | b :: t => if b = 0 then some (0, t) else match unary t with
    | none => none
    | some (q, r) => some (q + 1, r)
/-- so many bits as a number behind a -/
def bitsN : Nat → Nat → List Int → Option (Nat × List Int)
  | 0, a, l => some (a, l)
  | _ + 1, _, [] => none
  | k + 1, a, b :: t => bitsN k (2 * a + b.toNat) t
def numb (low : Nat) (l : List Int) : Option (Int × List Int) :=
  match unary l with
  | none => none
  | some (q, r) => match bitsN low 0 r with
    | none => none
    | some (n, r2) => if (q * 2 ^ low + n : Nat) ≤ 510 then some (unf ((q * 2 ^ low + n : Nat) : Int), r2) else none
def numbs (low : Nat) : Nat → List Int → Option (List Int × List Int)
  | 0, l => some ([], l)
  | k + 1, l => match numb low l with
    | none => none
    | some (v, r) => match numbs low k r with
      | none => none
      | some (vs, r2) => some (v :: vs, r2)

theorem unary_of (q : Nat) (t : List Int) : unary (List.replicate q 1 ++ 0 :: t) = some (q, t) := by
  induction q with
  | zero => rfl
  | succ q ih => rw [List.replicate_succ, List.cons_append, unary, if_neg (by omega), ih]
theorem bitsN_of (n : Nat) (t : List Int) : ∀ b a, bitsN b a (lowb n b ++ t) = some (a * 2 ^ b + n % 2 ^ b, t)
  | 0, a => by simp [bitsN, lowb, Nat.mod_one]
  | b + 1, a => by
    rw [lowb, List.cons_append, bitsN, Int.toNat_natCast, bitsN_of n t b, Nat.pow_succ, Nat.mod_mul, Nat.add_mul]
    congr 2
    rw [Nat.mul_comm 2 a, Nat.mul_assoc, Nat.mul_comm 2 (2 ^ b), Nat.mul_comm (n / 2 ^ b % 2)]
    omega
theorem numb_of (n : Int) (low : Nat) (t : List Int) (h1 : -255 ≤ n) (h2 : n ≤ 255) : numb low (ric1 (fld n).toNat low ++ t) = some (n, t) := by
  have hf := fld_le n h1 h2
  have hn := fld_nonneg n
  have e : (fld n).toNat / 2 ^ low * 2 ^ low + (0 * 2 ^ low + (fld n).toNat % 2 ^ low) = (fld n).toNat := by
    have := Nat.div_add_mod (fld n).toNat (2 ^ low)
    rw [Nat.mul_comm] at this
    omega
  unfold numb
  rw [ric1, List.append_assoc, List.cons_append, unary_of]
  simp only
  rw [bitsN_of]
  simp only
  rw [e, if_pos (by omega), Int.toNat_of_nonneg hn, unf_fld]
/-- PUT, AND GOT. -/
theorem numbs_of (low : Nat) (t : List Int) : ∀ l : List Int, (∀ z ∈ l, -255 ≤ z ∧ z ≤ 255) → numbs low l.length (ricL low l ++ t) = some (l, t)
  | [], _ => rfl
  | n :: l, h => by
    have hn := h n (List.mem_cons_self ..)
    rw [List.length_cons, numbs, ricL, List.append_assoc, numb_of n low _ hn.1 hn.2]
    simp only
    rw [numbs_of low t l fun z hz => h z (List.mem_cons_of_mem _ hz)]

theorem lowb_congr (c m k : Nat) : ∀ j, j ≤ k → lowb (c * 2 ^ k + m) j = lowb m j
  | 0, _ => rfl
  | j + 1, h => by
    obtain ⟨d, rfl⟩ : ∃ d, k = j + 1 + d := ⟨k - (j + 1), by omega⟩
    have e : (c * 2 ^ (j + 1 + d) + m) / 2 ^ j % 2 = m / 2 ^ j % 2 := by
      have e1 : c * 2 ^ (j + 1 + d) = 2 ^ j * (2 * (c * 2 ^ d)) := by
        rw [Nat.pow_add, Nat.pow_succ]
        simp only [Nat.mul_comm, Nat.mul_left_comm, Nat.mul_assoc]
      rw [e1, Nat.mul_add_div (Nat.two_pow_pos j)]
      omega
    rw [lowb, lowb, e, lowb_congr c m _ j (by omega)]
theorem unary_inv : ∀ {l : List Int} {q : Nat} {r : List Int}, (∀ z ∈ l, z = 0 ∨ z = 1) → unary l = some (q, r) → l = List.replicate q 1 ++ 0 :: r
  | [], _, _, _, h => by simp [unary] at h
  | b :: t, q, r, hb, h => by
    unfold unary at h
    by_cases e : b = 0
    · subst e; simp at h; obtain ⟨rfl, rfl⟩ := h; rfl
    · rw [if_neg e] at h
      have e1 : b = 1 := by rcases hb b (List.mem_cons_self ..) with h | h <;> omega
      cases hu : unary t with
      | none => rw [hu] at h; simp at h
      | some x =>
        obtain ⟨q', r'⟩ := x
        rw [hu] at h
        simp at h
        obtain ⟨rfl, rfl⟩ := h
        rw [unary_inv (fun z hz => hb z (List.mem_cons_of_mem _ hz)) hu, e1]; rfl
theorem bitsN_inv : ∀ {k a n : Nat} {l r : List Int}, (∀ z ∈ l, z = 0 ∨ z = 1) → bitsN k a l = some (n, r) → ∃ m, m < 2 ^ k ∧ n = a * 2 ^ k + m ∧ l = lowb m k ++ r
  | 0, a, n, l, r, _, h => by
    simp [bitsN] at h
    obtain ⟨rfl, rfl⟩ := h
    exact ⟨0, by simp, by simp, rfl⟩
  | k + 1, a, n, [], r, _, h => by simp [bitsN] at h
  | k + 1, a, n, b :: t, r, hb, h => by
    rw [bitsN] at h
    obtain ⟨m, hm, hn, hl⟩ := bitsN_inv (fun z hz => hb z (List.mem_cons_of_mem _ hz)) h
    have e1 := hb b (List.mem_cons_self ..)
    obtain ⟨c, hc, hcb⟩ : ∃ c : Nat, c < 2 ∧ b = c := by rcases e1 with rfl | rfl; exact ⟨0, by omega, rfl⟩; exact ⟨1, by omega, rfl⟩
    subst hcb
    rw [Int.toNat_natCast] at hn
    have e2 : (c * 2 ^ k + m) / 2 ^ k = c := by
      rw [Nat.mul_comm, Nat.mul_add_div (Nat.two_pow_pos k), Nat.div_eq_of_lt hm, Nat.add_zero]
    have e3 : c * 2 ^ k ≤ 1 * 2 ^ k := Nat.mul_le_mul_right _ (by omega)
    refine ⟨c * 2 ^ k + m, by rw [Nat.pow_succ]; omega, ?_, ?_⟩
    · rw [hn, Nat.pow_succ, Nat.add_mul, Nat.mul_comm 2 a, Nat.mul_assoc, Nat.mul_comm 2]; omega
    · rw [lowb, e2, Nat.mod_eq_of_lt hc, lowb_congr c m k k (Nat.le_refl _), hl]; rfl
theorem numb_inv {low : Nat} {l r : List Int} {v : Int} (hb : ∀ z ∈ l, z = 0 ∨ z = 1) (h : numb low l = some (v, r)) : -255 ≤ v ∧ v ≤ 255 ∧ l = ric1 (fld v).toNat low ++ r := by
  unfold numb at h
  cases hu : unary l with
  | none => rw [hu] at h; simp at h
  | some x =>
    obtain ⟨q, r1⟩ := x
    rw [hu] at h
    simp only at h
    have hl := unary_inv hb hu
    have hb1 : ∀ z ∈ r1, z = 0 ∨ z = 1 := fun z hz => hb z (by rw [hl]; exact List.mem_append_right _ (List.mem_cons_of_mem _ hz))
    cases hn : bitsN low 0 r1 with
    | none => rw [hn] at h; simp at h
    | some y =>
      obtain ⟨n, r2⟩ := y
      rw [hn] at h
      simp only at h
      split at h
      · rename_i hle
        injection h with h
        injection h with h1 h2
        subst h2
        obtain ⟨m, hm, hnm, hl2⟩ := bitsN_inv hb1 hn
        rw [Nat.zero_mul, Nat.zero_add] at hnm
        subst hnm
        have hv : fld v = ((q * 2 ^ low + n : Nat) : Int) := by rw [← h1]; exact fld_unf _ (by omega)
        have hr : -255 ≤ v ∧ v ≤ 255 := by rw [← h1]; unfold unf; split <;> omega
        refine ⟨hr.1, hr.2, ?_⟩
        have e2 : (q * 2 ^ low + n) / 2 ^ low = q := by
          rw [Nat.mul_comm, Nat.mul_add_div (Nat.two_pow_pos low), Nat.div_eq_of_lt hm, Nat.add_zero]
        rw [hv, Int.toNat_natCast, ric1, e2, lowb_congr q n low low (Nat.le_refl _), hl, hl2, List.append_assoc]; rfl
      · simp at h
/-- GOT, AND PUT. -/
theorem numbs_inv (low : Nat) : ∀ {k : Nat} {l r vs : List Int}, (∀ z ∈ l, z = 0 ∨ z = 1) → numbs low k l = some (vs, r) → vs.length = k ∧ (∀ z ∈ vs, -255 ≤ z ∧ z ≤ 255) ∧ l = ricL low vs ++ r
  | 0, l, r, vs, _, h => by
    simp [numbs] at h
    obtain ⟨rfl, rfl⟩ := h
    exact ⟨rfl, by simp, rfl⟩
  | k + 1, l, r, vs, hb, h => by
    rw [numbs] at h
    cases hn : numb low l with
    | none => rw [hn] at h; simp at h
    | some x =>
      obtain ⟨v, r1⟩ := x
      rw [hn] at h
      simp only at h
      obtain ⟨a1, a2, a3⟩ := numb_inv hb hn
      have hb1 : ∀ z ∈ r1, z = 0 ∨ z = 1 := fun z hz => hb z (by rw [a3]; exact List.mem_append_right _ hz)
      cases hm : numbs low k r1 with
      | none => rw [hm] at h; simp at h
      | some y =>
        obtain ⟨us, r2⟩ := y
        rw [hm] at h
        simp at h
        obtain ⟨rfl, rfl⟩ := h
        obtain ⟨b1, b2, b3⟩ := numbs_inv low hb1 hm
        refine ⟨by simp [b1], fun z hz => ?_, by rw [ricL, List.append_assoc, ← b3]; exact a3⟩
        rcases List.mem_cons.1 hz with rfl | hz
        · exact ⟨a1, a2⟩
        · exact b2 z hz
/-- With a bit less they are none. -/
theorem numbs_less (low : Nat) (l t : List Int) (x : Int) (hl : ∀ z ∈ l, -255 ≤ z ∧ z ≤ 255) (h : ricL low l = t ++ [x]) : numbs low l.length t = none := by
  cases hn : numbs low l.length t with
  | none => rfl
  | some y =>
    obtain ⟨vs, r⟩ := y
    have hb : ∀ z ∈ t, z = 0 ∨ z = 1 := fun z hz => ricL_bit low l z (by rw [h]; exact List.mem_append_left _ hz)
    obtain ⟨a1, a2, a3⟩ := numbs_inv low hb hn
    have e1 := numbs_of low [] l hl
    rw [List.append_nil, h, a3, List.append_assoc, ← a1, numbs_of low _ vs a2] at e1
    injection e1 with e1
    injection e1 with _ e1
    simp at e1

/-- the best low: as the program keeps it, and as the document does -/
def bstL (f : Nat → Nat) : Nat → Int × Int
  | 0 => (-1, 2000)
  | j + 1 => if (f j : Int) < (bstL f j).2 ∨ ((f j : Int) = (bstL f j).2 ∧ (bstL f j).1 < 0) then ((j : Int), (f j : Int)) else bstL f j
def bstR (f : Nat → Nat) : Nat → Int × Int
  | 0 => (0, 2001)
  | j + 1 => if (f j : Int) < (bstR f j).2 then ((j : Int), (f j : Int)) else bstR f j
theorem bst_LR (f : Nat → Nat) : ∀ j, (bstL f j = (-1, 2000) ∧ bstR f j = (0, 2001) ∧ ∀ i, i < j → 2000 < f i) ∨ (0 ≤ (bstL f j).1 ∧ (bstL f j).1 < j ∧ bstL f j = bstR f j ∧ (bstL f j).2 = f (bstL f j).1.toNat ∧ (bstL f j).2 ≤ 2000 ∧ ∀ i, i < j → (bstL f j).2 ≤ f i)
  | 0 => .inl ⟨rfl, rfl, fun i hi => by omega⟩
  | j + 1 => by
    rcases bst_LR f j with ⟨h1, h2, h3⟩ | ⟨h1, h2, h3, h4, h5, h6⟩
    · rw [bstL, bstR, h1, h2]
      by_cases h : f j ≤ 2000
      · right
        rw [if_pos (by simp; omega), if_pos (by simp; omega)]
        refine ⟨by simp, by simp; omega, rfl, by simp, by simp; omega, fun i hi => ?_⟩
        by_cases e : i = j
        · subst e; simp
        · have := h3 i (by omega); simp; omega
      · left
        rw [if_neg (by simp; omega), if_neg (by simp; omega)]
        refine ⟨rfl, rfl, fun i hi => ?_⟩
        by_cases e : i = j
        · subst e; omega
        · exact h3 i (by omega)
    · right
      rw [bstL, bstR, ← h3]
      by_cases h : (f j : Int) < (bstL f j).2
      · rw [if_pos (.inl h), if_pos h]
        refine ⟨by simp, by simp; omega, rfl, by simp, by simp; omega, fun i hi => ?_⟩
        by_cases e : i = j
        · subst e; simp
        · have := h6 i (by omega); simp; omega
      · rw [if_neg (by omega), if_neg h]
        refine ⟨h1, by omega, rfl, h4, h5, fun i hi => ?_⟩
        by_cases e : i = j
        · subst e; omega
        · exact h6 i (by omega)
end Go.Proofs.YtooepflfofgnnaaDoor
