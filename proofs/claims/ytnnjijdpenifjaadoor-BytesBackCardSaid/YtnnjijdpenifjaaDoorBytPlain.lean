/- Films as bytes: the bits of what is coded, the bytes of bits, and both read back. No program in sight. -/
import Derived.Test.YtnnjijdpenifjaaDoorFilmRow
import Derived.Test.YtnnjijdpenifjaaDoorRiceDec
import Derived.Test.YtnnjijdpenifjaaDoorRice
import Derived.Test.YtnnjijdpenifjaaDoorRdr
import Derived.Test.YtnnjijdpenifjaaDoorBytePlain
namespace Go.Proofs.YtnnjijdpenifjaaDoor

def bcod (c : Ct) : List Int := (if c.al = true then [1] else 0 :: (lowb (c.x + 1).toNat 2 ++ lowb (c.y + 1).toNat 2)) ++ ricL 2 c.rs
def bcods : List Ct → List Int
  | [] => []
  | c :: cs => bcod c ++ bcods cs
theorem bcods_append : ∀ l k : List Ct, bcods (l ++ k) = bcods l ++ bcods k
  | [], _ => rfl
  | c :: l, k => by rw [List.cons_append, bcods, bcods, bcods_append l k, List.append_assoc]
theorem bcod_bit (c : Ct) : ∀ z ∈ bcod c, z = 0 ∨ z = 1 := by
  intro z hz
  unfold bcod at hz
  rcases List.mem_append.1 hz with hz | hz
  · split at hz
    · rw [List.mem_singleton] at hz; exact .inr hz
    · rcases List.mem_cons.1 hz with hz | hz
      · exact .inl hz
      · rcases List.mem_append.1 hz with hz | hz
        · exact lowb_bit _ _ z hz
        · exact lowb_bit _ _ z hz
  · exact ricL_bit 2 c.rs z hz
theorem bcods_bit : ∀ l : List Ct, ∀ z ∈ bcods l, z = 0 ∨ z = 1
  | [], z, h => by simp [bcods] at h
  | c :: l, z, h => by
    rw [bcods, List.mem_append] at h
    rcases h with h | h
    · exact bcod_bit c z h
    · exact bcods_bit l z h
theorem pow_le_256 {j : Nat} (h : j ≤ 8) : 2 ^ j ≤ 256 := Nat.pow_le_pow_right (n := 2) (by omega) h
def padn (n : Nat) : Nat := (8 - n % 8) % 8
def pad8 (l : List Int) : List Int := l ++ List.replicate (padn l.length) 0
theorem pad8_len (l : List Int) : (pad8 l).length = l.length + padn l.length := by unfold pad8; rw [List.length_append, List.length_replicate]
theorem pad8_mod (l : List Int) : (pad8 l).length % 8 = 0 := by rw [pad8_len]; unfold padn; omega
theorem pad8_bit {l : List Int} (h : ∀ z ∈ l, z = 0 ∨ z = 1) : ∀ z ∈ pad8 l, z = 0 ∨ z = 1 := by
  intro z hz
  unfold pad8 at hz
  rcases List.mem_append.1 hz with hz | hz
  · exact h z hz
  · exact .inl (List.eq_of_mem_replicate hz)

/-! one coded picture read -/
def rdC (many : Nat) : List Int → Option (Ct × List Int)
  | [] => none
  | b :: r => if b = 1 then
      match numbs 2 many r with
      | none => none
      | some (vs, r2) => some (⟨true, 0, 0, vs⟩, r2)
    else match bitsN 2 0 r with
      | none => none
      | some (x, r1) => match bitsN 2 0 r1 with
        | none => none
        | some (y, r2) => match numbs 2 many r2 with
          | none => none
          | some (vs, r3) => some (⟨false, (x : Int) - 1, (y : Int) - 1, vs⟩, r3)
def rdCs (many : Nat) : Nat → List Int → Option (List Ct × List Int)
  | 0, l => some ([], l)
  | k + 1, l => match rdC many l with
    | none => none
    | some (c, r) => match rdCs many k r with
      | none => none
      | some (cs, r2) => some (c :: cs, r2)
theorem rdCs_snoc {many : Nat} : ∀ {k : Nat} {l r : List Int} {vs : List Ct}, rdCs many k l = some (vs, r) → rdCs many (k + 1) l = match rdC many r with
    | none => none
    | some (v, r2) => some (vs ++ [v], r2)
  | 0, l, r, vs, h => by
    simp only [rdCs, Option.some.injEq, Prod.mk.injEq] at h
    obtain ⟨rfl, rfl⟩ := h
    rw [rdCs]
    cases rdC many l with
    | none => rfl
    | some x => obtain ⟨v, r2⟩ := x; rfl
  | k + 1, l, r, vs, h => by
    rw [rdCs] at h ⊢
    cases hn : rdC many l with
    | none => rw [hn] at h; simp at h
    | some x =>
      obtain ⟨v, r1⟩ := x
      rw [hn] at h
      simp only at h ⊢
      cases hm : rdCs many k r1 with
      | none => rw [hm] at h; simp at h
      | some y =>
        obtain ⟨us, r2⟩ := y
        rw [hm] at h
        simp only [Option.some.injEq, Prod.mk.injEq] at h
        obtain ⟨rfl, rfl⟩ := h
        rw [rdCs_snoc hm]
        cases rdC many r2 with
        | none => rfl
        | some z => obtain ⟨v2, r3⟩ := z; rfl
theorem rdCs_dead1 {many : Nat} : ∀ {k : Nat} {l : List Int}, rdCs many k l = none → rdCs many (k + 1) l = none
  | 0, l, h => by simp [rdCs] at h
  | k + 1, l, h => by
    rw [rdCs] at h ⊢
    cases hn : rdC many l with
    | none => rfl
    | some x =>
      obtain ⟨v, r1⟩ := x
      rw [hn] at h
      simp only at h ⊢
      cases hm : rdCs many k r1 with
      | none => rw [rdCs_dead1 hm]
      | some y => obtain ⟨us, r2⟩ := y; rw [hm] at h; simp at h
theorem rdCs_dead {many k m : Nat} {l : List Int} (h : rdCs many k l = none) (hm : k ≤ m) : rdCs many m l = none := by
  obtain ⟨d, rfl⟩ : ∃ d, m = k + d := ⟨m - k, by omega⟩
  clear hm
  induction d with
  | zero => exact h
  | succ d ih => rw [← Nat.add_assoc]; exact rdCs_dead1 ih
/-! a longer row reads alike -/
theorem unary_ext : ∀ {l : List Int} {q : Nat} {r : List Int} (t : List Int), unary l = some (q, r) → unary (l ++ t) = some (q, r ++ t)
  | [], q, r, t, h => by simp [unary] at h
  | b :: l, q, r, t, h => by
    rw [List.cons_append]
    rw [unary] at h ⊢
    by_cases hb : b = 0
    · rw [if_pos hb] at h ⊢
      simp only [Option.some.injEq, Prod.mk.injEq] at h
      obtain ⟨rfl, rfl⟩ := h
      rfl
    · rw [if_neg hb] at h ⊢
      cases hu : unary l with
      | none => rw [hu] at h; simp at h
      | some x =>
        obtain ⟨q1, r1⟩ := x
        rw [hu] at h
        simp only [Option.some.injEq, Prod.mk.injEq] at h
        obtain ⟨rfl, rfl⟩ := h
        rw [unary_ext t hu]
theorem bitsN_ext : ∀ {k a : Nat} {l : List Int} {v : Nat} {r : List Int} (t : List Int), bitsN k a l = some (v, r) → bitsN k a (l ++ t) = some (v, r ++ t)
  | 0, a, l, v, r, t, h => by
    simp only [bitsN, Option.some.injEq, Prod.mk.injEq] at h ⊢
    obtain ⟨rfl, rfl⟩ := h
    exact ⟨rfl, rfl⟩
  | k + 1, a, [], v, r, t, h => by simp [bitsN] at h
  | k + 1, a, b :: l, v, r, t, h => by
    rw [List.cons_append]
    rw [bitsN] at h ⊢
    exact bitsN_ext t h
theorem numb_ext {low : Nat} {l : List Int} {v : Int} {r : List Int} (t : List Int) (h : numb low l = some (v, r)) : numb low (l ++ t) = some (v, r ++ t) := by
  unfold numb at h ⊢
  cases hu : unary l with
  | none => rw [hu] at h; simp at h
  | some x =>
    obtain ⟨q, r1⟩ := x
    rw [hu] at h
    rw [unary_ext t hu]
    simp only at h ⊢
    cases hb : bitsN low 0 r1 with
    | none => rw [hb] at h; simp at h
    | some y =>
      obtain ⟨m, r2⟩ := y
      rw [hb] at h
      rw [bitsN_ext t hb]
      simp only at h ⊢
      split at h
      · rename_i h510
        rw [if_pos h510]
        simp only [Option.some.injEq, Prod.mk.injEq] at h ⊢
        exact ⟨h.1, by rw [h.2]⟩
      · cases h
theorem numbs_ext {low : Nat} : ∀ {k : Nat} {l : List Int} {vs r : List Int} (t : List Int), numbs low k l = some (vs, r) → numbs low k (l ++ t) = some (vs, r ++ t)
  | 0, l, vs, r, t, h => by
    simp only [numbs, Option.some.injEq, Prod.mk.injEq] at h ⊢
    obtain ⟨rfl, rfl⟩ := h
    exact ⟨rfl, rfl⟩
  | k + 1, l, vs, r, t, h => by
    rw [numbs] at h ⊢
    cases hn : numb low l with
    | none => rw [hn] at h; simp at h
    | some x =>
      obtain ⟨v, r1⟩ := x
      rw [hn] at h
      rw [numb_ext t hn]
      simp only at h ⊢
      cases hm : numbs low k r1 with
      | none => rw [hm] at h; simp at h
      | some y =>
        obtain ⟨us, r2⟩ := y
        rw [hm] at h
        rw [numbs_ext t hm]
        simp only [Option.some.injEq, Prod.mk.injEq] at h ⊢
        exact ⟨h.1, by rw [h.2]⟩
theorem rdC_ext {many : Nat} {l : List Int} {c : Ct} {r : List Int} (t : List Int) (h : rdC many l = some (c, r)) : rdC many (l ++ t) = some (c, r ++ t) := by
  cases l with
  | nil => simp [rdC] at h
  | cons b l =>
    rw [List.cons_append]
    rw [rdC] at h ⊢
    by_cases hb : b = 1
    · rw [if_pos hb] at h ⊢
      cases hm : numbs 2 many l with
      | none => rw [hm] at h; simp at h
      | some y =>
        obtain ⟨us, r2⟩ := y
        rw [hm] at h
        rw [numbs_ext t hm]
        simp only [Option.some.injEq, Prod.mk.injEq] at h ⊢
        exact ⟨h.1, by rw [h.2]⟩
    · rw [if_neg hb] at h ⊢
      cases h1 : bitsN 2 0 l with
      | none => rw [h1] at h; simp at h
      | some y =>
        obtain ⟨x, r1⟩ := y
        rw [h1] at h
        rw [bitsN_ext t h1]
        simp only at h ⊢
        cases h2 : bitsN 2 0 r1 with
        | none => rw [h2] at h; simp at h
        | some y =>
          obtain ⟨x2, r2⟩ := y
          rw [h2] at h
          rw [bitsN_ext t h2]
          simp only at h ⊢
          cases hm : numbs 2 many r2 with
          | none => rw [hm] at h; simp at h
          | some y =>
            obtain ⟨us, r3⟩ := y
            rw [hm] at h
            rw [numbs_ext t hm]
            simp only [Option.some.injEq, Prod.mk.injEq] at h ⊢
            exact ⟨h.1, by rw [h.2]⟩
theorem rdCs_ext {many : Nat} : ∀ {k : Nat} {l : List Int} {vs : List Ct} {r : List Int} (t : List Int), rdCs many k l = some (vs, r) → rdCs many k (l ++ t) = some (vs, r ++ t)
  | 0, l, vs, r, t, h => by
    simp only [rdCs, Option.some.injEq, Prod.mk.injEq] at h ⊢
    obtain ⟨rfl, rfl⟩ := h
    exact ⟨rfl, rfl⟩
  | k + 1, l, vs, r, t, h => by
    rw [rdCs] at h ⊢
    cases hn : rdC many l with
    | none => rw [hn] at h; simp at h
    | some x =>
      obtain ⟨v, r1⟩ := x
      rw [hn] at h
      rw [rdC_ext t hn]
      simp only at h ⊢
      cases hm : rdCs many k r1 with
      | none => rw [hm] at h; simp at h
      | some y =>
        obtain ⟨us, r2⟩ := y
        rw [hm] at h
        rw [rdCs_ext t hm]
        simp only [Option.some.injEq, Prod.mk.injEq] at h ⊢
        exact ⟨h.1, by rw [h.2]⟩
/-! what is right is read back -/
structure CdOk (many : Nat) (c : Ct) : Prop where
  len : c.rs.length = many
  bd : ∀ z ∈ c.rs, -255 ≤ z ∧ z ≤ 255
  al : c.al = true → c.x = 0 ∧ c.y = 0
  mv : c.al = false → -1 ≤ c.x ∧ c.x ≤ 1 ∧ -1 ≤ c.y ∧ c.y ≤ 1
theorem rdC_of {many : Nat} {c : Ct} (h : CdOk many c) (t : List Int) : rdC many (bcod c ++ t) = some (c, t) := by
  obtain ⟨al, x, y, rs⟩ := c
  have hl : rs.length = many := h.len
  have hn := numbs_of 2 t rs h.bd
  rw [hl] at hn
  cases al with
  | true =>
    obtain ⟨h1, h2⟩ := h.al rfl
    change x = 0 at h1
    change y = 0 at h2
    subst h1 h2
    show rdC many (([1] ++ ricL 2 rs) ++ t) = _
    rw [List.append_assoc, List.singleton_append, rdC, if_pos rfl, hn]
  | false =>
    have hm : -1 ≤ x ∧ x ≤ 1 ∧ -1 ≤ y ∧ y ≤ 1 := h.mv rfl
    show rdC many (((0 :: (lowb (x + 1).toNat 2 ++ lowb (y + 1).toNat 2)) ++ ricL 2 rs) ++ t) = _
    rw [List.append_assoc, List.cons_append, rdC, if_neg (by omega), List.append_assoc, bitsN_of]
    simp only
    rw [bitsN_of]
    simp only
    rw [hn]
    have e1 : ((0 * 2 ^ 2 + (x + 1).toNat % 2 ^ 2 : Nat) : Int) - 1 = x := by omega
    have e2 : ((0 * 2 ^ 2 + (y + 1).toNat % 2 ^ 2 : Nat) : Int) - 1 = y := by omega
    simp only [e1, e2]
theorem rdCs_of {many : Nat} (t : List Int) : ∀ {cs : List Ct}, (∀ c ∈ cs, CdOk many c) → rdCs many cs.length (bcods cs ++ t) = some (cs, t)
  | [], _ => rfl
  | c :: cs, h => by
    rw [List.length_cons, rdCs, bcods, List.append_assoc, rdC_of (h c (List.mem_cons_self ..))]
    simp only
    rw [rdCs_of t fun d hd => h d (List.mem_cons_of_mem _ hd)]

/-! bits in eights as bytes -/
/-- the first k of some bits as a number -/
def val (l : List Int) : Nat → Nat
  | 0 => 0
  | k + 1 => 2 * val l k + (l.getD k 0).toNat
theorem val_lt {l : List Int} (h : ∀ z ∈ l, z = 0 ∨ z = 1) : ∀ k, val l k < 2 ^ k
  | 0 => by simp [val]
  | k + 1 => by
    have ih := val_lt h k
    have hb : (l.getD k 0).toNat ≤ 1 := by
      rw [List.getD_eq_getElem?_getD]
      cases hg : l[k]? with
      | none => simp
      | some z => rcases h z (List.mem_of_getElem? hg) with e | e <;> subst e <;> simp
    rw [val, Nat.pow_succ]; omega
theorem val_congr {l m : List Int} : ∀ {k : Nat}, (∀ j, j < k → l.getD j 0 = m.getD j 0) → val l k = val m k
  | 0, _ => rfl
  | k + 1, h => by rw [val, val, val_congr fun j hj => h j (by omega), h k (by omega)]
/-- byte i -/
def oct (l : List Int) (i : Nat) : Nat := val (l.drop (8 * i)) 8
def octs (l : List Int) (k : Nat) : List UInt8 := (List.range k).map fun i => UInt8.ofNat (oct l i)
theorem octs_len (l : List Int) (k : Nat) : (octs l k).length = k := by simp [octs]
theorem octs_succ (l : List Int) (k : Nat) : octs l (k + 1) = octs l k ++ [UInt8.ofNat (oct l k)] := by unfold octs; rw [List.range_succ, List.map_append]; rfl
theorem oct_lt {l : List Int} (h : ∀ z ∈ l, z = 0 ∨ z = 1) (i : Nat) : oct l i < 256 := val_lt (fun z hz => h z (List.mem_of_mem_drop hz)) 8
/-- the bits of bytes -/
def bitsOf : List UInt8 → List Int
  | [] => []
  | b :: l => lowb b.toNat 8 ++ bitsOf l
theorem bitsOf_append : ∀ l k : List UInt8, bitsOf (l ++ k) = bitsOf l ++ bitsOf k
  | [], _ => rfl
  | c :: l, k => by rw [List.cons_append, bitsOf, bitsOf, bitsOf_append l k, List.append_assoc]
theorem bitsOf_len : ∀ l : List UInt8, (bitsOf l).length = 8 * l.length
  | [] => rfl
  | c :: l => by rw [bitsOf, List.length_append, lowb_length, bitsOf_len l, List.length_cons]; omega
theorem bitsOf_bit : ∀ l : List UInt8, ∀ z ∈ bitsOf l, z = 0 ∨ z = 1
  | [], z, h => by simp [bitsOf] at h
  | c :: l, z, h => by
    rw [bitsOf, List.mem_append] at h
    rcases h with h | h
    · exact lowb_bit _ _ z h
    · exact bitsOf_bit l z h
theorem lowb_val {l : List Int} (h : ∀ z ∈ l, z = 0 ∨ z = 1) : ∀ (k : Nat), k ≤ l.length → lowb (val l k) k = l.take k
  | 0, _ => rfl
  | k + 1, hk => by
    apply List.ext_getElem
    · rw [lowb_length, List.length_take]; omega
    · intro j h1 h2
      rw [lowb_length] at h1
      have e1 : (lowb (val l (k + 1)) (k + 1))[j]'(by rw [lowb_length]; exact h1) = (lowb (val l (k + 1)) (k + 1)).getD j 0 := by
        rw [List.getD_eq_getElem?_getD, List.getElem?_eq_getElem (by rw [lowb_length]; exact h1)]; rfl
      rw [e1, lowb_getD _ _ _ h1, List.getElem_take]
      have hb : ∀ i, i < l.length → ∃ c : Nat, c < 2 ∧ l.getD i 0 = c := fun i hi => by
        have : l.getD i 0 ∈ l := by rw [List.getD_eq_getElem?_getD, List.getElem?_eq_getElem hi]; exact List.getElem_mem _
        rcases h _ this with e | e
        · exact ⟨0, by omega, by rw [e]; rfl⟩
        · exact ⟨1, by omega, by rw [e]; rfl⟩
      have ej : l[j]'(by omega) = l.getD j 0 := by rw [List.getD_eq_getElem?_getD, List.getElem?_eq_getElem (by omega)]; rfl
      rw [ej]
      obtain ⟨c, hc, he⟩ := hb k (by omega)
      have hv : val l (k + 1) = 2 * val l k + c := by rw [val, he, Int.toNat_natCast]
      by_cases hjk : j = k
      · subst hjk
        rw [he, hv, show j + 1 - 1 - j = 0 by omega, Nat.pow_zero, Nat.div_one]
        congr 1
        omega
      · have ih := lowb_val h k (by omega)
        have hg : (lowb (val l k) k).getD j 0 = (l.take k).getD j 0 := by rw [ih]
        rw [lowb_getD _ _ _ (by omega)] at hg
        have et : (l.take k).getD j 0 = l.getD j 0 := by
          rw [List.getD_eq_getElem?_getD, List.getD_eq_getElem?_getD, List.getElem?_take, if_pos (by omega)]
        rw [et] at hg
        rw [← hg, hv, show k + 1 - 1 - j = (k - 1 - j) + 1 by omega, Nat.pow_succ]
        congr 1
        rw [Nat.mul_comm (2 ^ (k - 1 - j)) 2, ← Nat.div_div_eq_div_mul, show (2 * val l k + c) / 2 = val l k by omega]
theorem bitsOf_octs {l : List Int} (h : ∀ z ∈ l, z = 0 ∨ z = 1) : ∀ k, 8 * k ≤ l.length → bitsOf (octs l k) = l.take (8 * k)
  | 0, _ => rfl
  | k + 1, hk => by
    rw [octs_succ, bitsOf_append, bitsOf_octs h k (by omega)]
    have e : (UInt8.ofNat (oct l k)).toNat = oct l k := by rw [UInt8.toNat_ofNat']; exact Nat.mod_eq_of_lt (oct_lt h k)
    show l.take (8 * k) ++ (lowb (UInt8.ofNat (oct l k)).toNat 8 ++ []) = _
    rw [e, List.append_nil]
    unfold oct
    rw [lowb_val (fun z hz => h z (List.mem_of_mem_drop hz)) 8 (by rw [List.length_drop]; omega), ← List.take_add]
    congr 1
theorem octs_all {l : List Int} (h : ∀ z ∈ l, z = 0 ∨ z = 1) (h8 : l.length % 8 = 0) : bitsOf (octs l (l.length / 8)) = l := by
  rw [bitsOf_octs h _ (by omega), List.take_of_length_le (by omega)]
end Go.Proofs.YtnnjijdpenifjaaDoor
