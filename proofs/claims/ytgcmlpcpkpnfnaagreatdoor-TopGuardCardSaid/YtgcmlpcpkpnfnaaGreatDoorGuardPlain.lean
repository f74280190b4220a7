/- Plain laws on guards: groups, what is put behind, and how one that lacks comes back. No program in sight. -/
import Derived.Test.YtgcmlpcpkpnfnaaGreatDoorBytePlain
namespace Go.Proofs.YtgcmlpcpkpnfnaaGreatDoor

def grps (n e : Nat) : Nat := (n + e - 1) / e
theorem grps_mul (n e : Nat) (he : 1 ≤ e) : n ≤ grps n e * e ∧ grps n e * e ≤ n + e - 1 := by
  unfold grps
  have h1 := Nat.div_add_mod (n + e - 1) e
  have h2 := Nat.mod_lt (n + e - 1) (show 0 < e by omega)
  rw [Nat.mul_comm] at h1
  omega
theorem grps_mono (n m e : Nat) (h : n ≤ m) : grps n e ≤ grps m e := Nat.div_le_div_right (by omega)
theorem grps_lt (n e g : Nat) (he : 1 ≤ e) : g < grps n e ↔ g * e < n := by
  have := grps_mul n e he
  constructor
  · intro h
    have h2 : (g + 1) * e ≤ grps n e * e := Nat.mul_le_mul_right _ h
    rw [Nat.succ_mul] at h2
    omega
  · intro h
    rcases Nat.lt_or_ge g (grps n e) with h2 | h2
    · exact h2
    · have h3 : grps n e * e ≤ g * e := Nat.mul_le_mul_right _ h2
      omega
theorem grps_pos (n e : Nat) (hn : 1 ≤ n) (he : 1 ≤ e) : 1 ≤ grps n e := (grps_lt n e 0 he).2 (by omega)
/-- The first number from n on that makes as many as all; 0: none. -/
def datF (all e : Nat) : Nat → Nat → Nat
  | 0, _ => 0
  | f + 1, n => if n < all then (if n + grps n e = all then n else datF all e f (n + 1)) else 0
def dat (all e : Nat) : Nat := datF all e all 1
theorem datF_eq (all e n : Nat) (h : n + grps n e = all) (hn : n < all) : ∀ f m, m ≤ n → n < m + f → datF all e f m = n
  | 0, m, h1, h2 => by omega
  | f + 1, m, h1, h2 => by
    unfold datF
    rw [if_pos (by omega)]
    by_cases e1 : m = n
    · subst e1; rw [if_pos h]
    · have := grps_mono m n e (by omega)
      rw [if_neg (by omega)]
      exact datF_eq all e n h hn f (m + 1) (by omega) (by omega)
theorem dat_eq (n e : Nat) (hn : 1 ≤ n) (he : 1 ≤ e) : dat (n + grps n e) e = n := by
  have := grps_pos n e hn he
  exact datF_eq _ e n rfl (by omega) _ 1 hn (by omega)

/-- all of some over one another -/
def ovl (m : Nat) : List (List UInt8) → List UInt8
  | [] => noughts m
  | b :: l => xorL b (ovl m l)
theorem ovl_len (m : Nat) : ∀ {l : List (List UInt8)}, (∀ b ∈ l, b.length = m) → (ovl m l).length = m
  | [], _ => List.length_replicate
  | b :: l, h => by
    have ih := ovl_len m (l := l) fun x hx => h x (List.mem_cons_of_mem _ hx)
    have hb := h b (List.mem_cons_self ..)
    unfold ovl; rw [xorL_length _ _ (by omega)]; exact hb
theorem xorL_noughts_left (m : Nat) (a : List UInt8) (h : a.length = m) : xorL (noughts m) a = a := by rw [xorL_comm, ← h, xorL_noughts]
theorem ovl_append (m : Nat) : ∀ {l k : List (List UInt8)}, (∀ b ∈ k, b.length = m) → ovl m (l ++ k) = xorL (ovl m l) (ovl m k)
  | [], k, h => by show ovl m k = xorL (noughts m) (ovl m k); rw [xorL_noughts_left m _ (ovl_len m h)]
  | b :: l, k, h => by show xorL b (ovl m (l ++ k)) = xorL (xorL b (ovl m l)) (ovl m k); rw [ovl_append m h, xorL_assoc]
/-- one of a group that is in itself nothing is all of the others over one another -/
theorem ovl_set (m : Nat) : ∀ (l : List (List UInt8)) (i : Nat), (∀ b ∈ l, b.length = m) → ∀ h : i < l.length, ovl m (l.set i (noughts m)) = xorL (l[i]) (ovl m l)
  | [], i, _, h => by simp at h
  | b :: l, 0, hl, h => by
    have hb := hl b (List.mem_cons_self ..)
    have ho := ovl_len m (l := l) fun x hx => hl x (List.mem_cons_of_mem _ hx)
    show xorL (noughts m) (ovl m l) = xorL b (xorL b (ovl m l))
    rw [xorL_noughts_left m _ ho, ← xorL_assoc, xorL_self, hb, xorL_noughts_left m _ ho]
  | b :: l, i + 1, hl, h => by
    have hi : i < l.length := by simpa using h
    have ih := ovl_set m l i (fun x hx => hl x (List.mem_cons_of_mem _ hx)) hi
    show xorL b (ovl m (l.set i (noughts m))) = xorL l[i] (xorL b (ovl m l))
    rw [ih, ← xorL_assoc, xorL_comm b, xorL_assoc]
/-- group g of blocks -/
def grpAt {α : Type} (l : List α) (n e g : Nat) : List α := ((l.take n).drop (g * e)).take e
/-- blocks, and behind them each group's own -/
def addG (l : List (List UInt8)) (m e : Nat) : List (List UInt8) := l ++ (List.range (grps l.length e)).map fun g => ovl m (grpAt l l.length e g)
theorem addG_length (l : List (List UInt8)) (m e : Nat) : (addG l m e).length = l.length + grps l.length e := by simp [addG]
end Go.Proofs.YtgcmlpcpkpnfnaaGreatDoor
