/- The contracts of dropref1.Next and Set: the set of a seed is the drop's. -/
import Derived.Test.YtooepflfofgnnaaDoorDrop
import Derived.Test.YtooepflfofgnnaaDoorRefPut
import Derived.Test.YtooepflfofgnnaaDoorRefMix
import Derived.Test.YtooepflfofgnnaaDoorRefDegree
namespace Go.Proofs.YtooepflfofgnnaaDoor
open Go.ChangeShapes Go.WideShapes Go.ChangeAt Go.RowKit

theorem refNext (n : Nat) (w : World) (h1 : n ≤ 2147483647) :
    Calls Tryd.prog 42 #[.int .i64 n] w fun e w' => e = .returned (.int .i64 (nxtN n)) ∧ w = w' := by
  go_enter Tryd.func42, Tryd.ntmps42
  go_wp2
  go_ret
  exact ⟨by rw [← nxt_cast]; rfl, rfl⟩

set_option maxHeartbeats 1000000 in
set_option maxRecDepth 100000 in
theorem refSet (k seed : Nat) (w : World) (h1 : 1 ≤ k) (h2 : k ≤ 16) (h3 : 1 ≤ seed) (h4 : seed ≤ 10000) :
    Calls Tryd.prog 10 #[.int .i64 k, .int .i64 seed] w fun e w' => ∃ a cap, e = .returned (.slice a (setZ k seed).length cap) ∧ IntsAt w' a (setZ k seed).length cap (setZ k seed) ∧ Lat w w' := by
  by_cases hle : seed ≤ k
  · have d1 : decide (seed ≤ k) = true := decide_eq_true hle
    have e1 : setZ k seed = [((seed - 1 : Nat) : Int)] := by unfold setZ; rw [if_pos hle]
    have e2 : (seed : Int) - 1 = ((seed - 1 : Nat) : Int) := by omega
    have hat := ints_new w [(seed : Int) - 1] 3 (by simp) (by intro z hz; rw [List.mem_singleton] at hz; subst hz; omega)
    rw [e1, ← e2]
    have HT := Lib.hid hat
    clear hat e1 e2
    go_enter Tryd.func10, Tryd.ntmps10
    go_wp2
    go_ret
    exact ⟨_, _, rfl, HT.out, Lat.alloc _ _⟩
  · have d1 : decide (seed ≤ k) = false := decide_eq_false hle
    have hl := drawn_length k seed h1 h2 (by omega) h4
    obtain ⟨d, hd⟩ : ∃ d, d = degF k (nxtN seed % 1000) := ⟨_, rfl⟩
    have hdb := degF_bd k (nxtN seed % 1000) h1 (by omega)
    rw [← hd] at hl hdb
    have hdr : dgo k d 150 (nxtN seed) [] = drawn k seed := by rw [hd]; rfl
    have hset : setZ k seed = srt ((drawn k seed).map Int.ofNat) := by unfold setZ; rw [if_neg hle]
    have hsl : (setZ k seed).length = d := by rw [hset, List.length_mergeSort, List.length_map, hl]
    rw [hsl]
    have HD := Lib.hid hd; have HL := Lib.hid hl; have HDR := Lib.hid hdr; have HS := Lib.hid hset; have HSL := Lib.hid hsl
    have hs3 := nxtN_lt seed
    clear hd hl hdr hset hle hsl
    go_enter Tryd.func10, Tryd.ntmps10
    go_wp2_with (first | (go_at_call 42; refine (refNext seed _ (by omega)).mono ?_; rintro e w' ⟨rfl, rfl⟩) | (go_at_call 43; refine (refDegree k (nxtN seed % 1000) _ h1 h2 (by omega)).mono ?_; rw [← HD.out]; rintro e w' ⟨rfl, rfl⟩))
    have hd0 : 1 ≤ d := hdb.1
    have hd16 : d ≤ 16 := by omega
    clear hdb
    go_loopg [5, 7] 150 (fun f nv v wr => ∃ (nn : Nat) (L : List Nat) (a : Option Addr) (ln cap : Nat), nv = .int .i64 nn ∧ nn < 2147483647 ∧ v = .slice a ln cap ∧ Hid (ln = L.length ∧ IntsAt wr a ln cap (srt (L.map Int.ofNat)) ∧ Lat w wr ∧ dgo k d f nn L = drawn k seed ∧ L.length ≤ d ∧ ∀ i ∈ L, i < k))
    case atStart => exact ⟨nxtN seed, [], none, 0, 0, rfl, hs3, rfl, rfl, by rw [List.map_nil, srt, List.mergeSort_nil]; exact IntsAt.nil _, Lat.refl _, HDR.out, Nat.zero_le _, by simp⟩
    case round =>
      obtain ⟨nn, L, a, ln, cap, rfl, hnn, rfl, hrel⟩ := hrel
      obtain ⟨hln2, hat, hb, hdg, hLd, hLk⟩ := hrel.out
      have hlb : ln ≤ 16 := by omega
      have HDG := Lib.hid hdg; have HLN := Lib.hid hln2; have HLK := Lib.hid hLk; have HA := Lib.hid hat; have HB := Lib.hid hb
      have hnext := nxtN_lt nn
      by_cases hlt : ln < d
      · have hgk : ∃ g, gk = g + 1 := by
          rcases Nat.eq_zero_or_pos gk with h0 | h0
          · subst h0
            exfalso
            have e : L = drawn k seed := hdg
            have := HL.out
            rw [← e] at this
            omega
          · exact ⟨gk - 1, by omega⟩
        obtain ⟨g, hg⟩ := hgk
        have hstep : dgo k d g (nxtN nn) (if nxtN nn % k ∈ L then L else L ++ [nxtN nn % k]) = drawn k seed := by
          rw [hg] at hdg
          rw [← hdg]
          have hL : L.length < d := by omega
          exact (if_pos hL).symm
        have HST := Lib.hid hstep
        have HG := Lib.hid hg
        have hkz : ((k : Int) == 0) = false := by simp; omega
        clear hdg hLd hLk hat hb hln2 hstep hg hrel
        by_cases hmem : nxtN nn % k ∈ L
        · have hm2 : ((nxtN nn : Nat) : Int) % (k : Int) ∈ srt (L.map Int.ofNat) := by rw [List.mem_mergeSort]; exact (mem_ofNat _ L).2 hmem
          have HM := Lib.hid hm2
          have HM1 := Lib.hid hmem
          clear hm2 hmem
          go_wp2_with (first | (go_at_call 42; refine (refNext nn _ (by omega)).mono ?_; rintro e w' ⟨rfl, rfl⟩) | (go_at_call 44; refine (refIn_yes a ln cap (srt (L.map Int.ofNat)) _ _ HA.out HM.out).mono ?_; rintro e w' ⟨rfl, rfl⟩))
          go_roundg g
          case measure => rw [HG.out]; omega
          case rel => exact ⟨nxtN nn, L, a, ln, cap, rfl, hnext, rfl, HLN.out, HA.out, HB.out, by have := HST.out; rw [if_pos HM1.out] at this; exact this, by rw [← HLN.out]; omega, HLK.out⟩
        · have hm2 : ((nxtN nn : Nat) : Int) % (k : Int) ∉ srt (L.map Int.ofNat) := fun h => hmem ((mem_ofNat _ L).1 (by rw [List.mem_mergeSort] at h; exact h))
          have HM := Lib.hid hm2
          have HM1 := Lib.hid hmem
          have hput : putL (srt (L.map Int.ofNat)) ((nxtN nn % k : Nat) : Int) = srt ((L ++ [nxtN nn % k]).map Int.ofNat) := by
            rw [putL_srt, List.map_append]; rfl
          have hpl : (putL (srt (L.map Int.ofNat)) ((nxtN nn % k : Nat) : Int)).length = ln + 1 := by
            rw [putL_length, List.length_mergeSort, List.length_map, HLN.out]
          have hwf : ∀ z ∈ putL (srt (L.map Int.ofNat)) ((nxtN nn % k : Nat) : Int), -9223372036854775808 ≤ z ∧ z ≤ 9223372036854775807 := fun z hz => by
            rw [mem_putL] at hz
            rcases hz with hz | hz
            · subst hz
              have : nxtN nn % k < k := Nat.mod_lt _ (by omega)
              omega
            · exact HA.out.wf z hz
          have HP := Lib.hid hput
          have HPL := Lib.hid hpl
          have HWF := Lib.hid hwf
          have hln1 : ln ≤ 1000000 := by omega
          clear hm2 hmem hput hpl hwf
          go_wp2_with (first | (go_at_call 42; refine (refNext nn _ (by omega)).mono ?_; rintro e w' ⟨rfl, rfl⟩) | (go_at_call 44; refine (refIn_no a ln cap (srt (L.map Int.ofNat)) _ _ HA.out HM.out).mono ?_; rintro e w' ⟨rfl, rfl⟩) | (go_at_call 45; refine (refPut a ln cap (srt (L.map Int.ofNat)) ((nxtN nn % k : Nat) : Int) _ HA.out hln1).mono ?_; rintro e w' ⟨u, rfl, hown', hb'⟩))
          obtain ⟨a2, cap2, hu, hat2⟩ := OwnInts.slice hown' HWF.out
          rw [HPL.out] at hu hat2
          subst hu
          go_roundg g
          case measure => rw [HG.out]; omega
          case rel =>
            refine ⟨nxtN nn, L ++ [nxtN nn % k], a2, ln + 1, cap2, rfl, hnext, rfl, by rw [List.length_append, List.length_singleton, HLN.out], by rw [← HP.out]; exact hat2, Lat.trans HB.out hb', by have := HST.out; rw [if_neg HM1.out] at this; exact this, by rw [List.length_append, List.length_singleton, ← HLN.out]; omega, fun i hi => ?_⟩
            rcases List.mem_append.1 hi with hi | hi
            · exact HLK.out i hi
            · rw [List.mem_singleton] at hi; subst hi; exact Nat.mod_lt _ (by omega)
      · have hLd' : L = drawn k seed := by
          rw [dgo_done _ _ _ _ _ (by omega)] at hdg; exact hdg
        have hlnd : ln = d := by omega
        have hfin : srt (L.map Int.ofNat) = setZ k seed := by rw [HS.out, hLd']
        have HF := Lib.hid hfin; have HND := Lib.hid hlnd
        clear hdg hLd hLk hat hb hln2 hrel hLd' hlnd hfin
        go_wp2_with fail
        go_ret
        have h := HA.out
        rw [HF.out] at h
        obtain rfl := HND.out
        exact ⟨a, cap, rfl, h, HB.out⟩
end Go.Proofs.YtooepflfofgnnaaDoor
