/- Plain laws of logs: a drop's record; its words, and what they spell. -/
import Derived.Test.YtheimfdbadjpoaaGreatDoorBytePlain
import Derived.Lib.Fields
import Derived.Lib.Atoi
import Derived.Lib.ItoaNum
import Derived.Lib.Join
namespace Go.Proofs.YtheimfdbadjpoaaGreatDoor
open Go.Lib

theorem decFrom_app : ∀ (l r : List UInt8) (a m : Nat), decFrom a l = some m → decFrom a (l ++ r) = decFrom m r
  | [], r, a, m, h => by simp only [decFrom, Option.some.injEq] at h; subst h; rfl
  | b :: l, r, a, m, h => by
    simp only [List.cons_append, decFrom] at h ⊢
    cases hb : digitVal b with
    | none => simp [hb] at h
    | some d => simp only [hb] at h ⊢; exact decFrom_app l r _ m h
theorem dig_nat {d : Nat} (h : d < 10) : (UInt8.ofNat (48 + d)).toNat = 48 + d := by rw [UInt8.toNat_ofNat']; exact Nat.mod_eq_of_lt (by omega)
theorem dig_val {d : Nat} (h : d < 10) : digitVal (UInt8.ofNat (48 + d)) = some d := by
  unfold digitVal
  rw [dig_nat h, if_pos (by omega)]
  congr 1; omega
theorem dec_digits (u : Nat) : decFrom 0 (decDigits u) = some u := by
  induction u using Nat.strongRecOn with
  | _ u ih =>
    by_cases h : u < 10
    · rw [decDigits, dif_pos h, decFrom, dig_val h]
      simp only [decFrom]
      congr 1; omega
    · rw [decDigits, dif_neg h, decFrom_app _ _ _ _ (ih (u / 10) (by omega))]
      simp only [decFrom, dig_val (Nat.mod_lt u (show 0 < 10 by decide))]
      congr 1; omega
theorem digits_all (u : Nat) : decDigits u ≠ [] ∧ ∀ b ∈ decDigits u, 48 ≤ b.toNat ∧ b.toNat ≤ 57 := by
  induction u using Nat.strongRecOn with
  | _ u ih =>
    by_cases h : u < 10
    · rw [decDigits, dif_pos h]
      refine ⟨by simp, fun b hb => ?_⟩
      rw [List.mem_singleton.1 hb, dig_nat h]; omega
    · rw [decDigits, dif_neg h]
      have hi := ih (u / 10) (by omega)
      refine ⟨by simp, fun b hb => ?_⟩
      rcases List.mem_append.1 hb with h1 | h1
      · exact hi.2 b h1
      · have := Nat.mod_lt u (show 0 < 10 by decide)
        rw [List.mem_singleton.1 h1, dig_nat this]; omega
theorem itoa_nat (u : Nat) : itoa (u : Int) = decDigits u := by
  unfold itoa
  rw [if_neg (by omega), Int.toNat_natCast]
theorem atoi_itoa (u : Nat) : atoi (itoa (u : Int)) = some (u : Int) := by
  rw [itoa_nat]
  have hd := dec_digits u
  obtain ⟨h1, h2⟩ := digits_all u
  cases hl : decDigits u with
  | nil => exact absurd hl h1
  | cons b l =>
    rw [hl] at hd h2
    have hb := h2 b List.mem_cons_self
    have n1 : (b == 45) = false := beq_eq_false_iff_ne.2 (fun e => by rw [e] at hb; exact absurd hb.1 (by decide))
    have n2 : (b == 43) = false := beq_eq_false_iff_ne.2 (fun e => by rw [e] at hb; exact absurd hb.1 (by decide))
    show (if b == 45 then (decNat l).map fun (m : Nat) => -(m : Int) else if b == 43 then (decNat l).map fun (m : Nat) => (m : Int) else (decNat (b :: l)).map fun (m : Nat) => (m : Int)) = _
    rw [n1, n2]
    simp only [Bool.false_eq_true, if_false]
    unfold decNat
    simp [hd]
theorem digits_short {u m : Nat} (h : u < 10 ^ (m + 1)) : (decDigits u).length ≤ m + 1 := by
  induction m generalizing u with
  | zero => rw [decDigits, dif_pos (by omega)]; simp
  | succ m ih =>
    by_cases h9 : u < 10
    · rw [decDigits, dif_pos h9]; simp
    · rw [decDigits, dif_neg h9, List.length_append]
      have := ih (u := u / 10) (by rw [Nat.pow_succ] at h; omega)
      simp only [List.length_cons, List.length_nil]; omega

/-- the words of a drop's record -/
def recW (s : Int) (t : List UInt8) : List (List UInt8) := itoa s :: t.map fun b => itoa (b.toNat : Int)
/-- the record -/
def recB (s : Int) (t : List UInt8) : List UInt8 := join (recW s t) [32] ++ [10]
theorem join_cons2 (a b : List UInt8) (l : List (List UInt8)) : join (a :: b :: l) [32] = a ++ 32 :: join (b :: l) [32] := by
  simp [join, List.intercalate, List.intersperse]
theorem join_one (a : List UInt8) : join [a] [32] = a := by simp [join, List.intercalate, List.intersperse]
/-- a word: not empty, no white space -/
def Word (l : List UInt8) : Prop := l ≠ [] ∧ ∀ b ∈ l, 48 ≤ b.toNat ∧ b.toNat ≤ 57
theorem word_itoa (u : Nat) : Word (itoa (u : Int)) := by rw [itoa_nat]; exact digits_all u
theorem word_sp {l : List UInt8} (h : Word l) : ∀ b ∈ l, isSp b = false := fun b hb => by
  have := h.2 b hb
  have h2 : ∀ n : Nat, n < 10 → isSp (UInt8.ofNat (48 + n)) = false := by decide
  have h3 := h2 (b.toNat - 48) (by omega)
  rw [show 48 + (b.toNat - 48) = b.toNat by omega, UInt8.ofNat_toNat] at h3
  exact h3
theorem go_word : ∀ (l cur rest : List UInt8), (∀ b ∈ l, isSp b = false) → fieldsGo cur (l ++ rest) = fieldsGo (cur ++ l) rest
  | [], cur, rest, _ => by simp
  | b :: l, cur, rest, h => by
    rw [List.cons_append, fieldsGo_more cur b (l ++ rest) (h b List.mem_cons_self), go_word l (cur ++ [b]) rest (fun x hx => h x (List.mem_cons_of_mem b hx)), List.append_assoc]
    rfl
theorem sp_32 : isSp 32 = true := by decide
theorem sp_10 : isSp 10 = true := by decide
/-- A RECORD's WORDS ARE READ AGAIN. -/
theorem fields_join : ∀ (ws : List (List UInt8)), ws ≠ [] → (∀ l ∈ ws, Word l) → fields (join ws [32] ++ [10]) = ws
  | [], h, _ => absurd rfl h
  | [a], _, h => by
    have ha := h a List.mem_cons_self
    rw [join_one]
    unfold fields
    rw [go_word a [] [10] (word_sp ha), List.nil_append, fieldsGo_end a 10 [] sp_10 ha.1]; rfl
  | a :: b :: l, _, h => by
    have ha := h a List.mem_cons_self
    have ih := fields_join (b :: l) (by simp) (fun x hx => h x (List.mem_cons_of_mem a hx))
    unfold fields at ih ⊢
    rw [join_cons2, List.append_assoc, go_word a [] _ (word_sp ha), List.nil_append, List.cons_append, fieldsGo_end a 32 _ sp_32 ha.1, ih]
theorem recW_word (s : Nat) (t : List UInt8) : ∀ l ∈ recW (s : Int) t, Word l := fun l hl => by
  unfold recW at hl
  rcases List.mem_cons.1 hl with rfl | h
  · exact word_itoa s
  · obtain ⟨b, _, rfl⟩ := List.mem_map.1 h
    exact word_itoa b.toNat
theorem rec_fields (s : Nat) (t : List UInt8) : fields (recB (s : Int) t) = recW (s : Int) t := fields_join _ (by simp [recW]) (recW_word s t)
theorem join_bytes : ∀ (ws : List (List UInt8)), (∀ l ∈ ws, Word l) → ∀ b ∈ join ws [32], b = 32 ∨ (48 ≤ b.toNat ∧ b.toNat ≤ 57)
  | [], _, b, hb => by simp [join, List.intercalate, List.intersperse] at hb
  | [a], h, b, hb => by rw [join_one] at hb; exact .inr ((h a List.mem_cons_self).2 b hb)
  | a :: c :: l, h, b, hb => by
    rw [join_cons2] at hb
    rcases List.mem_append.1 hb with h1 | h1
    · exact .inr ((h a List.mem_cons_self).2 b h1)
    · rcases List.mem_cons.1 h1 with rfl | h2
      · exact .inl rfl
      · exact join_bytes (c :: l) (fun x hx => h x (List.mem_cons_of_mem a hx)) b h2
/-- nothing but digits and spaces ahead of its end -/
theorem rec_body (s : Nat) (t : List UInt8) : ∀ b ∈ join (recW (s : Int) t) [32], b ≠ 10 ∧ b.toNat < 128 := fun b hb => by
  rcases join_bytes _ (recW_word s t) b hb with rfl | h
  · decide
  · exact ⟨fun e => by rw [e] at h; exact absurd h.1 (by decide), by omega⟩
theorem rec_len (s : Nat) (t : List UInt8) : 2 ≤ (recB (s : Int) t).length := by
  have h : join (recW (s : Int) t) [32] ≠ [] := by
    have hw := word_itoa s
    unfold recW
    cases t with
    | nil => rw [List.map_nil, join_one]; exact hw.1
    | cons b l => rw [List.map_cons, join_cons2]; intro e; exact hw.1 (List.append_eq_nil_iff.1 e).1
  unfold recB
  rw [List.length_append]
  have := List.length_pos_iff.2 h
  simp only [List.length_cons, List.length_nil]; omega
theorem join_len {m : Nat} : ∀ (ws : List (List UInt8)), (∀ l ∈ ws, l.length ≤ m) → (join ws [32]).length ≤ ws.length * (m + 1)
  | [], _ => by simp [join, List.intercalate, List.intersperse]
  | [a], h => by rw [join_one]; have := h a List.mem_cons_self; simp only [List.length_cons, List.length_nil]; omega
  | a :: c :: l, h => by
    rw [join_cons2, List.length_append, List.length_cons]
    have h1 := h a List.mem_cons_self
    have h2 := join_len (c :: l) (fun x hx => h x (List.mem_cons_of_mem a hx))
    simp only [List.length_cons] at h2 ⊢
    have e : (l.length + 1 + 1) * (m + 1) = (l.length + 1) * (m + 1) + (m + 1) := by rw [Nat.succ_mul]
    omega
theorem rec_short {s : Nat} {t : List UInt8} (hs : s ≤ 10000) (ht : t.length ≤ 8) : (recB (s : Int) t).length ≤ 55 := by
  have h : ∀ l ∈ recW (s : Int) t, l.length ≤ 5 := fun l hl => by
    unfold recW at hl
    rcases List.mem_cons.1 hl with rfl | h
    · rw [itoa_nat]; exact digits_short (m := 4) (by omega)
    · obtain ⟨b, _, rfl⟩ := List.mem_map.1 h
      rw [itoa_nat]; have := b.toNat_lt; exact digits_short (m := 4) (by omega)
  have := join_len (m := 5) _ h
  unfold recB
  unfold recW at this ⊢
  rw [List.length_append]
  simp only [List.length_cons, List.length_map, List.length_nil] at this ⊢
  omega
end Go.Proofs.YtheimfdbadjpoaaGreatDoor
