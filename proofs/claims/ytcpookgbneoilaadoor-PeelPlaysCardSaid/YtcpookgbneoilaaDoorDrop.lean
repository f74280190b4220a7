/- The contract of drop.Of. -/
import Derived.Test.YtcpookgbneoilaaDoorDropPlain
import Derived.Test.YtcpookgbneoilaaDoorMix
import Derived.Test.YtcpookgbneoilaaDoorWheel
import Derived.Test.YtcpookgbneoilaaDoorSort
import Derived.Deep.LoopGhost
namespace Go.Proofs.YtcpookgbneoilaaDoor
open Go.ChangeShapes Go.WideShapes Go.ChangeAt Go.RowKit

/-- the set of a seed -/
def setZ (k seed : Nat) : List Int := if seed ≤ k then [((seed - 1 : Nat) : Int)] else ((drawn k seed).map Int.ofNat).mergeSort (fun x y => decide (x ≤ y))
theorem goN (n : Nat) (w : World) (h1 : n ≤ 2147483647) :
    Calls Tryd.prog 52 #[.int .i64 n] w fun e w' => e = .returned (.int .i64 (nxtN n)) ∧ w = w' :=
  (go_any n w (by omega) (by omega)).mono fun e w' h => ⟨by rw [h.1, nxt_cast], h.2⟩
theorem nxtN_lt (n : Nat) : nxtN n < 2147483647 := Nat.mod_lt _ (by omega)
theorem mem_ofNat (i : Nat) (L : List Nat) : ((i : Int) ∈ L.map Int.ofNat) ↔ i ∈ L := by
  constructor
  · intro h; obtain ⟨j, hj, e⟩ := List.mem_map.1 h
    have : j = i := by have e' : (j : Int) = (i : Int) := e; omega
    exact this ▸ hj
  · intro h; exact List.mem_map.2 ⟨i, h, rfl⟩
theorem setZ_lt (k seed : Nat) (h1 : 1 ≤ k) (h2 : 1 ≤ seed) : ∀ z ∈ setZ k seed, 0 ≤ z ∧ z < k := by
  intro z hz
  unfold setZ at hz
  split at hz
  · rw [List.mem_singleton] at hz; subst hz; omega
  · rw [List.mem_mergeSort] at hz
    obtain ⟨j, hj, rfl⟩ := List.mem_map.1 hz
    have := dgo_lt k _ h1 150 (nxtN seed) [] (by simp) j hj
    have e : Int.ofNat j = (j : Int) := rfl
    omega
theorem setZ_length (k seed : Nat) (h1 : 1 ≤ k) (h2 : k ≤ 16) (h4 : seed ≤ 10000) : 1 ≤ (setZ k seed).length ∧ (setZ k seed).length ≤ k := by
  unfold setZ
  split
  · simp; omega
  · rw [List.length_mergeSort, List.length_map, drawn_length k seed h1 h2 (by omega) h4]
    exact degF_bd k _ h1 (by omega)

set_option maxHeartbeats 1000000 in
set_option maxRecDepth 100000 in
theorem dropOf_new (k seed : Nat) (w : World) (h1 : 1 ≤ k) (h2 : k ≤ 16) (h3 : 1 ≤ seed) (h4 : seed ≤ 10000) :
    Calls Tryd.prog 35 #[.int .i64 k, .int .i64 seed] w fun e w' => ∃ a cap, e = .returned (.slice a (setZ k seed).length cap) ∧ IntsAt w' a (setZ k seed).length cap (setZ k seed) ∧ (∀ b o, a = some ⟨b, o, none⟩ → w.heap.size ≤ b) ∧ Lat w w' := by
  by_cases hle : seed ≤ k
  · have d1 : decide (seed ≤ k) = true := decide_eq_true hle
    have e1 : setZ k seed = [((seed - 1 : Nat) : Int)] := by unfold setZ; rw [if_pos hle]
    have e2 : (seed : Int) - 1 = ((seed - 1 : Nat) : Int) := by omega
    have hat := ints_new w [(seed : Int) - 1] 3 (by simp) (by intro z hz; rw [List.mem_singleton] at hz; subst hz; omega)
    rw [e1, ← e2]
    have HT := Lib.hid hat
    clear hat e1 e2
    go_enter Tryd.func35, Tryd.ntmps35
    go_wp2
    go_ret
    exact ⟨_, _, rfl, HT.out, fun b o e => by
      injection e with e
      injection e with e _ _
      exact Nat.le_of_eq e, Lat.alloc _ _⟩
  · have d1 : decide (seed ≤ k) = false := decide_eq_false hle
    have hl := drawn_length k seed h1 h2 (by omega) h4
    obtain ⟨d, hd⟩ : ∃ d, d = degF k (nxtN seed % 1000) := ⟨_, rfl⟩
    have hdb := degF_bd k (nxtN seed % 1000) h1 (by omega)
    rw [← hd] at hl hdb
    have hdr : dgo k d 150 (nxtN seed) [] = drawn k seed := by rw [hd]; rfl
    have hset : setZ k seed = ((drawn k seed).map Int.ofNat).mergeSort (fun x y => decide (x ≤ y)) := by unfold setZ; rw [if_neg hle]
    have hsl : (setZ k seed).length = d := by rw [hset, List.length_mergeSort, List.length_map, hl]
    rw [hsl]
    have HD := Lib.hid hd; have HL := Lib.hid hl; have HDR := Lib.hid hdr; have HS := Lib.hid hset
    have hs3 := nxtN_lt seed
    clear hd hl hdr hset hle hsl
    go_enter Tryd.func35, Tryd.ntmps35
    go_wp2_with (first | (go_at_call 52; refine (goN seed _ (by omega)).mono ?_; rintro e w' ⟨rfl, rfl⟩) | (go_at_call 53; refine (for_any k (nxtN seed % 1000) _ h1 h2 (by omega)).mono ?_; rw [← HD.out]; rintro e w' ⟨rfl, rfl⟩))
    have hd0 : 1 ≤ d := hdb.1
    have hd16 : d ≤ 16 := by omega
    clear hdb
    go_loopg [5, 7] 150 (fun f nv v wr => ∃ (nn : Nat) (L : List Nat), nv = .int .i64 nn ∧ nn < 2147483647 ∧ Hid (OwnInts wr w.heap.size v (L.map Int.ofNat) ∧ Lat w wr ∧ dgo k d f nn L = drawn k seed ∧ L.length ≤ d ∧ ∀ i ∈ L, i < k))
    case atStart => exact ⟨nxtN seed, [], rfl, hs3, Own.nil _ _ _, Lat.refl _, HDR.out, Nat.zero_le _, by simp⟩
    case round =>
      obtain ⟨nn, L, rfl, hnn, hrel⟩ := hrel
      obtain ⟨hown, hb, hdg, hLd, hLk⟩ := hrel.out
      obtain ⟨a, cap, rfl, hat⟩ := OwnInts.slice hown (fun z hz => by
        obtain ⟨j, hj, rfl⟩ := List.mem_map.1 hz
        have := hLk j hj
        have e : Int.ofNat j = (j : Int) := rfl
        omega)
      obtain ⟨ln, hln⟩ : ∃ ln, ln = (L.map Int.ofNat).length := ⟨_, rfl⟩
      have hln2 : ln = L.length := by rw [hln, List.length_map]
      rw [← hln] at hown hat hrel ⊢
      have hlb : ln ≤ 16 := by omega
      have HO := Lib.hid hown; have HDG := Lib.hid hdg; have HLN := Lib.hid hln2; have HLK := Lib.hid hLk; have HA := Lib.hid hat
      have hnext := nxtN_lt nn
      by_cases hlt : ln < d
      · have hgk : ∃ g, gk = g + 1 := by
          rcases Nat.eq_zero_or_pos gk with h0 | h0
          · subst h0
            exfalso
            have e : L = drawn k seed := hdg
            have := HL.out
            rw [← e] at this
            omega
          · exact ⟨gk - 1, by omega⟩
        obtain ⟨g, hg⟩ := hgk
        have hstep : dgo k d g (nxtN nn) (if nxtN nn % k ∈ L then L else L ++ [nxtN nn % k]) = drawn k seed := by
          rw [hg] at hdg
          rw [← hdg]
          have hL : L.length < d := by omega
          exact (if_pos hL).symm
        have HST := Lib.hid hstep
        have HG := Lib.hid hg
        have HB := Lib.hid hb
        have hkz : ((k : Int) == 0) = false := by simp; omega
        clear hown hdg hLd hLk hat hln hln2 hstep hg hrel
        by_cases hmem : nxtN nn % k ∈ L
        · have hm2 : ((nxtN nn : Nat) : Int) % (k : Int) ∈ L.map Int.ofNat := (mem_ofNat _ L).2 hmem
          have HM := Lib.hid hm2
          have HM1 := Lib.hid hmem
          clear hm2 hmem
          go_wp2_with (first | (go_at_call 52; refine (goN nn _ (by omega)).mono ?_; rintro e w' ⟨rfl, rfl⟩) | (go_at_call 54; refine (containsI_yes a ln cap (L.map Int.ofNat) _ _ HA.out HM.out).mono ?_; rintro e w' ⟨rfl, rfl⟩))
          go_roundg g
          case measure => rw [HG.out]; omega
          case rel => exact ⟨nxtN nn, L, rfl, hnext, HO.out, HB.out, by have := HST.out; rw [if_pos HM1.out] at this; exact this, by rw [← HLN.out]; omega, HLK.out⟩
        · have hm2 : ((nxtN nn : Nat) : Int) % (k : Int) ∉ L.map Int.ofNat := fun h => hmem ((mem_ofNat _ L).1 h)
          have HM := Lib.hid hm2
          have HM1 := Lib.hid hmem
          have hlen : (L.map Int.ofNat).length < 1000000000000 := by rw [List.length_map, ← HLN.out]; omega
          have HLL := Lib.hid hlen
          clear hm2 hmem hlen
          go_wp2_with (first | (go_at_call 52; refine (goN nn _ (by omega)).mono ?_; rintro e w' ⟨rfl, rfl⟩) | (go_at_call 54; refine (containsI_no a ln cap (L.map Int.ofNat) _ _ HA.out HM.out).mono ?_; rintro e w' ⟨rfl, rfl⟩) | (at_builtin; refine app_int wr w _ rfl _ _ rfl _ _ _ rfl HO.out rfl HLL.out rfl HB.out ?_; intro v' w2 hown' hb' _))
          go_roundg g
          case measure => rw [HG.out]; omega
          case rel =>
            refine ⟨nxtN nn, L ++ [nxtN nn % k], rfl, hnext, by rw [List.map_append]; exact hown', hb', by have := HST.out; rw [if_neg HM1.out] at this; exact this, by rw [List.length_append, List.length_singleton, ← HLN.out]; omega, fun i hi => ?_⟩
            rcases List.mem_append.1 hi with hi | hi
            · exact HLK.out i hi
            · rw [List.mem_singleton] at hi; subst hi; exact Nat.mod_lt _ (by omega)
      · have hLd' : L = drawn k seed := by
          rw [dgo_done _ _ _ _ _ (by omega)] at hdg; exact hdg
        have hlnd : ln = d := by omega
        have hne : L.map Int.ofNat ≠ [] := by intro e; rw [e] at hln; simp at hln; omega
        have hll : (L.map Int.ofNat).length ≤ 1000000 := by rw [← hln]; omega
        have HLD := Lib.hid hLd'; have HND := Lib.hid hlnd; have HNE := Lib.hid hne; have HLL := Lib.hid hll; have HB := Lib.hid hb; have HLN' := Lib.hid hln
        clear hown hdg hLd hLk hat hln2 hrel hLd' hlnd hne hll hln
        go_wp2_with (go_at_call 55; refine (sort_own w.heap.size _ (L.map Int.ofNat) _ w HO.out HNE.out HLL.out rfl HB.out).mono ?_; rintro e w' ⟨rfl, hown', hb'⟩)
        go_ret
        have hfin : ((L.map Int.ofNat).mergeSort fun x y => decide (x ≤ y)) = setZ k seed := by rw [HS.out, HLD.out]
        rw [hfin] at hown'
        obtain ⟨a2, cap2, hv, hat2⟩ := OwnInts.slice hown' (fun z hz => by have := setZ_lt k seed h1 h3 z hz; omega)
        have hsl : (setZ k seed).length = d := by rw [← hfin, List.length_mergeSort, ← HLN'.out, HND.out]
        rw [hsl] at hv hat2
        injection hv with e1 e2 e3
        subst e1
        subst e2
        subst e3
        exact ⟨a, cap, rfl, hat2, fun b o e => (Own.lt hown' b (by rw [e]; rfl)).1, hb'⟩
theorem dropOf_any (k seed : Nat) (w : World) (h1 : 1 ≤ k) (h2 : k ≤ 16) (h3 : 1 ≤ seed) (h4 : seed ≤ 10000) :
    Calls Tryd.prog 35 #[.int .i64 k, .int .i64 seed] w fun e w' => ∃ a cap, e = .returned (.slice a (setZ k seed).length cap) ∧ IntsAt w' a (setZ k seed).length cap (setZ k seed) ∧ Lat w w' :=
  (dropOf_new k seed w h1 h2 h3 h4).mono fun _ _ ⟨a, cap, he, hi, _, hb⟩ => ⟨a, cap, he, hi, hb⟩
end Go.Proofs.YtcpookgbneoilaaDoor
