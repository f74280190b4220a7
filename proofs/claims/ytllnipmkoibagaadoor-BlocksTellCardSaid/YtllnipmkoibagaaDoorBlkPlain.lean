/- Plain laws on bytes cut into blocks, and blocks joined. -/
import Derived.Test.YtllnipmkoibagaaDoorBlocks
import Derived.Test.YtllnipmkoibagaaDoorSplitPlain
import Derived.Lib.Join
namespace Go.Proofs.YtllnipmkoibagaaDoor

/-- the blocks of bytes; of such as may not be cut, none -/
def spl (D : ByteArray) (s : Int) : List ByteArray := if spE D.size s = 0 then cuts (padL D.data.toList s.toNat) s.toNat (many D.size s.toNat) else []
structure SpOk (D : ByteArray) (s : Int) (m k : Nat) : Prop where
  es : s = m
  lo : 1 ≤ m
  hi : m ≤ 8
  len : D.size ≤ 120
  ek : k = many D.size m
  most : k ≤ 16
theorem spE_ok {D : ByteArray} {s : Int} (h : spE D.size s = 0) : SpOk D s s.toNat (many D.size s.toNat) := by
  unfold spE at h
  split at h
  · omega
  split at h
  · omega
  split at h
  · omega
  rename_i h1 h2 h3
  exact ⟨by omega, by omega, by omega, by omega, rfl, by omega⟩
theorem size_toList (D : ByteArray) : D.data.toList.length = D.size := Array.length_toList
theorem pad_len {D : ByteArray} {s : Int} {m k : Nat} (h : SpOk D s m k) : (padL D.data.toList m).length = k * m := by
  rw [padL_length _ _ h.lo, size_toList, ← h.ek]
theorem spl_ok {D : ByteArray} {s : Int} {m k : Nat} (h : SpOk D s m k) (he : spE D.size s = 0) : spl D s = cuts (padL D.data.toList m) m k := by
  have := h.es
  unfold spl; rw [if_pos he, h.ek]; rw [show s.toNat = m by omega]
theorem cuts_szAt {E : List UInt8} {m k : Nat} (hE : E.length = k * m) (j : Nat) (hj : j < k) : szAt (cuts E m k) j = m := by
  unfold szAt; rw [cuts_getD E m k j hj, S_size, cutAt_length E m k j hE hj]
theorem spl_chk {D : ByteArray} {s : Int} {m k : Nat} (h : SpOk D s m k) (he : spE D.size s = 0) : chk (spl D s) = 0 := by
  have hk : 1 ≤ k := by rw [h.ek]; exact many_pos _ _
  rw [spl_ok h he]
  have hE := pad_len h
  have h0 := cuts_szAt hE 0 (by omega)
  exact chk_of ⟨by rw [cuts_length]; exact hk, by rw [cuts_length]; exact h.most, by rw [h0]; exact h.lo, by rw [h0]; exact h.hi, fun j hj => by rw [h0, cuts_szAt hE j (by rw [cuts_length] at hj; exact hj)]⟩
theorem chk_spl {D : ByteArray} {s : Int} (he : spE D.size s = 0) : chk (spl D s) = 0 := spl_chk (spE_ok he) he
/-- what the blocks make, one behind another -/
def flatB (ss : List ByteArray) : List UInt8 := (ss.map fun b => b.data.toList).flatten
theorem flatB_spl {D : ByteArray} {s : Int} {m k : Nat} (h : SpOk D s m k) (he : spE D.size s = 0) : flatB (spl D s) = padL D.data.toList m := by
  rw [spl_ok h he]
  have hE := pad_len h
  unfold flatB
  rw [cuts_join _ _ _ (by rw [hE]; exact Nat.le_refl _), ← hE, List.take_length]
/-- all blocks as long: how many bytes -/
theorem flatB_len {m : Nat} : ∀ {ss : List ByteArray}, (∀ b ∈ ss, b.size = m) → (flatB ss).length = ss.length * m
  | [], _ => by simp [flatB]
  | b :: ss, h => by
    have ih := flatB_len (ss := ss) (fun x hx => h x (List.mem_cons_of_mem _ hx))
    have hb := h b (List.mem_cons_self ..)
    show (b.data.toList ++ flatB ss).length = _
    rw [List.length_append, ih, size_toList, hb, List.length_cons, Nat.succ_mul, Nat.add_comm]
theorem chk_mem {ss : List ByteArray} (h : chk ss = 0) : ∀ b ∈ ss, b.size = szAt ss 0 := by
  intro b hb
  obtain ⟨j, hj, e⟩ := List.getElem_of_mem hb
  have := (chk_ok h).all j hj
  rw [← this]
  unfold szAt
  rw [List.getD_eq_getElem?_getD, List.getElem?_eq_getElem hj, e]; rfl
theorem chk_flat {ss : List ByteArray} (h : chk ss = 0) : (flatB ss).length = ss.length * szAt ss 0 ∧ (flatB ss).length ≤ 128 := by
  have h1 := flatB_len (chk_mem h)
  have h2 := chk_ok h
  refine ⟨h1, ?_⟩
  rw [h1]
  calc ss.length * szAt ss 0 ≤ 16 * 8 := Nat.mul_le_mul h2.most h2.eight
    _ = 128 := rfl
/-- what is wrong with the first n bytes of blocks; what they are -/
def jnE (ss : List ByteArray) (n : Int) : Nat := if chk ss ≠ 0 then chk ss else if n < 0 ∨ ((flatB ss).length : Int) < n ∨ many n.toNat (szAt ss 0) ≠ ss.length then 1 else 0
def jnS (ss : List ByteArray) (n : Int) : ByteArray := if jnE ss n = 0 then S ((flatB ss).take n.toNat) else .empty
theorem spl_szAt {D : ByteArray} {s : Int} {m k : Nat} (h : SpOk D s m k) (he : spE D.size s = 0) (j : Nat) (hj : j < k) : szAt (spl D s) j = m := by
  rw [spl_ok h he]; exact cuts_szAt (pad_len h) j hj
theorem spl_len {D : ByteArray} {s : Int} {m k : Nat} (h : SpOk D s m k) (he : spE D.size s = 0) : (spl D s).length = k := by
  rw [spl_ok h he, cuts_length]
/-- CUT, AND JOINED, IT IS ITSELF. -/
theorem jn_back {D : ByteArray} {s : Int} (he : spE D.size s = 0) : jnE (spl D s) D.size = 0 ∧ jnS (spl D s) D.size = D := by
  have h := spE_ok he
  have hk : 1 ≤ many D.size s.toNat := many_pos _ _
  have h1 : jnE (spl D s) D.size = 0 := by
    unfold jnE
    rw [chk_spl he, if_neg (by simp), if_neg]
    rw [flatB_spl h he, pad_len h, spl_szAt h he 0 (by omega), spl_len h he, Int.toNat_natCast]
    have := many_le D.size s.toNat h.lo
    omega
  refine ⟨h1, ?_⟩
  unfold jnS
  rw [if_pos h1, flatB_spl h he, Int.toNat_natCast, ← size_toList, padL_take]
theorem spl_wf (D : ByteArray) (s : Int) : ∀ z ∈ spl D s, z.size ≤ maxLen := by
  intro z hz
  by_cases he : spE D.size s = 0
  · have h := chk_mem (chk_spl he) z hz
    have h8 := (chk_ok (chk_spl he)).eight
    unfold maxLen; omega
  · unfold spl at hz; rw [if_neg he] at hz; simp at hz
theorem join_flat (ss : List ByteArray) : Lib.join (ss.map fun b => b.data.toList) ([] : List UInt8) = flatB ss := by
  cases ss with
  | nil => rfl
  | cons b r =>
    rw [List.map_cons, Lib.join_cons]
    unfold flatB Lib.joinTail
    rw [List.map_cons, List.flatten_cons]
    congr 2
    simp
end Go.Proofs.YtllnipmkoibagaaDoor
