/- Plain laws on the set of a seed: the drawing of numbers ends for every seed (checked by the kernel, number by number), and what the set is. -/
import Derived.Test.YtcpookgbneoilaaDoorDegreePlain
import Derived.Test.YtcpookgbneoilaaDoorChance
import Derived.Test.YtcpookgbneoilaaDoorSeedChk
namespace Go.Proofs.YtcpookgbneoilaaDoor

theorem nxt_cast (n : Nat) : nxt (n : Int) = (nxtN n : Int) := by unfold nxt nxtN; omega
theorem blt_eq (a b : Nat) : Nat.blt a b = decide (a < b) := by
  rw [Bool.eq_iff_iff]; simp [Nat.blt_eq]
theorem degFromB_eq (k n : Nat) : ∀ f d, degFromB k n f d = degFrom k n f d
  | 0, _ => rfl
  | f + 1, d => by
    unfold degFromB degFrom dgcB dgc
    rw [blt_eq, degFromB_eq k n f (d + 1)]
    by_cases h : n * k * d < 1000 * (d + k * (d - 1)) <;> simp [h]
theorem degFB_eq (k n : Nat) : degFB k n = degF k n := by
  unfold degFB degF
  rw [blt_eq, degFromB_eq]
  by_cases h : n * k < 1000 <;> simp [h]
theorem memB_iff (i : Nat) : ∀ l, memB i l = true ↔ i ∈ l
  | [] => by simp [memB]
  | x :: l => by
    unfold memB
    by_cases h : x = i
    · subst h; simp
    · have hb : Nat.beq x i = false := by rw [Bool.eq_false_iff]; intro e; exact h (Nat.eq_of_beq_eq_true e)
      rw [hb, cond_false, memB_iff i l]
      simp [Ne.symm h]
theorem okAllB_at (k : Nat) : ∀ m s, okAllB k m s = true → ∀ x, s ≤ x → x < s + m → okB k x = true
  | 0, s, _, x, h1, h2 => by omega
  | m + 1, s, h, x, h1, h2 => by
    unfold okAllB at h
    by_cases hs : okB k s = true
    · rw [hs, cond_true] at h
      by_cases e : x = s
      · subst e; exact hs
      · exact okAllB_at k m (s + 1) h x (by omega) (by omega)
    · rw [Bool.not_eq_true] at hs
      rw [hs, cond_false] at h
      cases h

/-- The drawing: till there are d numbers below k. -/
def dgo (k d : Nat) : Nat → Nat → List Nat → List Nat
  | 0, _, out => out
  | f + 1, n, out => if out.length < d then dgo k d f (nxtN n) (if nxtN n % k ∈ out then out else out ++ [nxtN n % k]) else out
theorem dgo_done (k d f n : Nat) (out : List Nat) (h : ¬ out.length < d) : dgo k d f n out = out := by
  cases f with
  | zero => rfl
  | succ f => unfold dgo; rw [if_neg h]
theorem runB_dgo (k : Nat) : ∀ f d n L out, (∀ i, i ∈ L ↔ i ∈ out) → runB k f d n out = true → (dgo k (L.length + d) f n L).length = L.length + d
  | 0, d, n, L, out, _, h => by
    have : d = 0 := Nat.eq_of_beq_eq_true h
    subst this; rfl
  | f + 1, d, n, L, out, hm, h => by
    by_cases hd : d = 0
    · subst hd; rw [dgo_done _ _ _ _ _ (by omega)]; rfl
    · have hb : Nat.beq d 0 = false := by rw [Bool.eq_false_iff]; intro e; exact hd (Nat.eq_of_beq_eq_true e)
      unfold runB at h
      rw [hb, cond_false] at h
      unfold dgo
      rw [if_pos (by omega)]
      by_cases hmem : nxtN n % k ∈ out
      · rw [(memB_iff _ _).2 hmem, cond_true] at h
        rw [if_pos ((hm _).2 hmem)]
        exact runB_dgo k f d (nxtN n) L out hm h
      · have hmf : memB (nxtN n % k) out = false := by rw [Bool.eq_false_iff]; intro e; exact hmem ((memB_iff _ _).1 e)
        rw [hmf, cond_false] at h
        rw [if_neg (fun e => hmem ((hm _).1 e))]
        have ih := runB_dgo k f (d - 1) (nxtN n) (L ++ [nxtN n % k]) (nxtN n % k :: out) (by intro i; simp [hm i, or_comm]) h
        rw [List.length_append, List.length_singleton] at ih
        have e : L.length + 1 + (d - 1) = L.length + d := by omega
        rw [e] at ih
        exact ih
/-- Every one is below k, and none twice. -/
theorem dgo_nodup (k d : Nat) : ∀ f n L, L.Nodup → (dgo k d f n L).Nodup
  | 0, _, _, h => h
  | f + 1, n, L, h => by
    unfold dgo
    split
    · apply dgo_nodup
      split
      · exact h
      · rename_i hn
        rw [List.nodup_append]
        exact ⟨h, by simp, fun a ha b hb => by rw [List.mem_singleton] at hb; subst hb; intro e; exact hn (e ▸ ha)⟩
    · exact h
theorem dgo_lt (k d : Nat) (hk : 1 ≤ k) : ∀ f n L, (∀ i ∈ L, i < k) → ∀ i ∈ dgo k d f n L, i < k
  | 0, _, _, h => h
  | f + 1, n, L, h => by
    unfold dgo
    split
    · apply dgo_lt k d hk
      split
      · exact h
      · intro i hi
        rcases List.mem_append.1 hi with hi | hi
        · exact h i hi
        · rw [List.mem_singleton] at hi; subst hi; exact Nat.mod_lt _ (by omega)
    · exact h

theorem ok_every (k seed : Nat) (h1 : 1 ≤ k) (h2 : k ≤ 16) (h3 : k < seed) (h4 : seed ≤ 10000) : okB k seed = true := by
  have h : okAllB k (10000 - k) (k + 1) = true := by
    have hc : k = 1 ∨ k = 2 ∨ k = 3 ∨ k = 4 ∨ k = 5 ∨ k = 6 ∨ k = 7 ∨ k = 8 ∨ k = 9 ∨ k = 10 ∨ k = 11 ∨ k = 12 ∨ k = 13 ∨ k = 14 ∨ k = 15 ∨ k = 16 := by omega
    rcases hc with rfl | rfl | rfl | rfl | rfl | rfl | rfl | rfl | rfl | rfl | rfl | rfl | rfl | rfl | rfl | rfl
    · exact okAll1
    · exact okAll2
    · exact okAll3
    · exact okAll4
    · exact okAll5
    · exact okAll6
    · exact okAll7
    · exact okAll8
    · exact okAll9
    · exact okAll10
    · exact okAll11
    · exact okAll12
    · exact okAll13
    · exact okAll14
    · exact okAll15
    · exact okAll16
  exact okAllB_at k _ _ h seed (by omega) (by omega)

/-- what is drawn -/
def drawn (k seed : Nat) : List Nat := dgo k (degF k (nxtN seed % 1000)) 150 (nxtN seed) []
theorem drawn_length (k seed : Nat) (h1 : 1 ≤ k) (h2 : k ≤ 16) (h3 : k < seed) (h4 : seed ≤ 10000) : (drawn k seed).length = degF k (nxtN seed % 1000) := by
  have h := ok_every k seed h1 h2 h3 h4
  unfold okB at h
  rw [degFB_eq] at h
  have := runB_dgo k 150 (degF k (nxtN seed % 1000)) (nxtN seed) [] [] (fun i => Iff.rfl) h
  rw [List.length_nil, Nat.zero_add] at this
  exact this
end Go.Proofs.YtcpookgbneoilaaDoor
