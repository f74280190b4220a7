/- Plain laws: two of a group are too many; one of each may lack. -/
import Derived.Test.YtpaoiebngbfbpaaGuardPl4
namespace Go.Proofs.Ytpaoiebngbfbpaa
open Go.ChangeShapes Go.WideShapes Go.ChangeAt Go.RowKit

theorem cntT_up (lk : List Bool) (j : Nat) : ∀ k, j ≤ k → cntT lk j ≤ cntT lk k
  | 0, h => by obtain rfl : j = 0 := by omega
               exact Nat.le_refl _
  | k + 1, h => by
    by_cases e : j = k + 1
    · subst e; exact Nat.le_refl _
    · have := cntT_up lk j k (by omega)
      have h2 : cntT lk (k + 1) = if lk.getD k false = true then cntT lk k + 1 else cntT lk k := rfl
      rw [h2]; split <;> omega
theorem cntT_two (lk : List Bool) (k : Nat) (h0 : lk.getD 0 false = true) (hk : lk.getD k false = true) (h1 : 1 ≤ k) : 2 ≤ cntT lk (k + 1) := by
  have h2 : cntT lk (k + 1) = if lk.getD k false = true then cntT lk k + 1 else cntT lk k := rfl
  have h3 : cntT lk 1 = if lk.getD 0 false = true then cntT lk 0 + 1 else cntT lk 0 := rfl
  rw [if_pos hk] at h2
  rw [if_pos h0] at h3
  have := cntT_up lk 1 k h1
  omega
theorem cntT_le_one (lk : List Bool) : ∀ k, (∀ i j, i < k → j < k → lk.getD i false = true → lk.getD j false = true → i = j) → cntT lk k ≤ 1
  | 0, _ => Nat.zero_le _
  | k + 1, h => by
    have ih := cntT_le_one lk k fun i j hi hj => h i j (by omega) (by omega)
    have h2 : cntT lk (k + 1) = if lk.getD k false = true then cntT lk k + 1 else cntT lk k := rfl
    rw [h2]
    by_cases e : lk.getD k false = true
    · rw [if_pos e]
      have h0 : cntT lk k = 0 := by
        by_cases h1 : cntT lk k = 1
        · have h3 := cntT_one lk k h1
          have := h (lstT lk k) k (by omega) (by omega) h3.2 e
          omega
        · omega
      omega
    · rw [if_neg e]; exact ih

theorem healE_go {xs : List ByteArray} {lk : List Bool} {n f : Nat} (hc : chk xs = 0) (hl : lk.length = xs.length) (h1 : 1 ≤ f) (h2 : f ≤ 16) (hn : 1 ≤ n) (hx : xs.length = n + grps n f) :
    healE xs lk f = hgE xs lk (szAt xs 0) n f (grps n f) 0 ∧ healS xs lk f = hgS xs lk (szAt xs 0) n f (grps n f) := by
  have hd : dat xs.length f = n := by rw [hx]; exact dat_eq n f hn h1
  constructor
  · unfold healE
    rw [if_neg (by omega), if_neg (by omega), if_neg (by omega), Int.toNat_natCast, hd, if_neg (by omega)]
  · unfold healS
    rw [Int.toNat_natCast, hd]
theorem healE_two {ls : List ByteArray} {f : Nat} {lk : List Bool} (hok : ChkOk ls) (h1 : 1 ≤ f) (h2 : f ≤ 16) (hfit : ls.length + grps ls.length f ≤ 16) (hlk : lk.length = ls.length + grps ls.length f)
    (h0 : lk.getD 0 false = true) (hn : lk.getD ls.length false = true) : healE (addS ls f) lk f = 8 := by
  obtain ⟨hck, hz⟩ := addS_ok hok f hfit
  have hp := hok.pos
  have hgo := (healE_go (xs := addS ls f) (lk := lk) (n := ls.length) (f := f) (chk_of hck) (by rw [hlk, addS_length]) h1 h2 hp (addS_length ls f)).1
  rw [hgo]
  have hG := grps_pos ls.length f hp h1
  obtain ⟨G, hGe⟩ : ∃ G, grps ls.length f = G + 1 := ⟨grps ls.length f - 1, by omega⟩
  rw [hGe]
  have hgx : (gsG (addS ls f) ls.length f 0).length = min f ls.length + 1 := by
    unfold gsG
    rw [List.length_append, grpAt_len _ _ _ _ (by rw [addS_length]; omega), Nat.zero_mul, Nat.sub_zero]; rfl
  have hk : ∀ j, j ≤ min f ls.length → (lkG lk ls.length f 0).getD j false = lk.getD (ofN ls.length f 0 (min f ls.length) j) false := fun j hj =>
    grp_get false lk ls.length f 0 _ (by omega) (by omega) (by rw [Nat.zero_mul, Nat.sub_zero]) j hj
  have hE : hlE (szAt (addS ls f) 0) (gsG (addS ls f) ls.length f 0) (lkG lk ls.length f 0) = 8 := by
    have hc : 2 ≤ cntT (lkG lk ls.length f 0) (min f ls.length + 1) := by
      refine cntT_two _ _ ?_ ?_ (by omega)
      · rw [hk 0 (by omega)]
        unfold ofN
        rw [if_pos (by omega), Nat.zero_mul]; exact h0
      · rw [hk _ (Nat.le_refl _)]
        unfold ofN
        rw [if_neg (by omega), Nat.add_zero]; exact hn
    unfold hlE
    rw [hgx, if_neg (by omega), if_neg (by omega)]
  show (if hlE _ _ _ = 0 then _ else hlE _ _ _) = 8
  rw [hE]; rfl

/-- all of a group and its own over one another are nothing -/
theorem gs_ovl {ls : List ByteArray} (hok : ChkOk ls) (f g : Nat) (hg : g < grps ls.length f) : ovl (szAt ls 0) (bts (gsG (addS ls f) ls.length f g)) = noughts (szAt ls 0) := by
  have h1 : grpAt (addS ls f) ls.length f g = grpAt ls ls.length f g := by
    unfold grpAt addS
    rw [List.take_append_of_le_length (Nat.le_refl _)]
  have h2 : (addS ls f).getD (ls.length + g) ByteArray.empty = ovG ls f g := by
    unfold addS
    rw [List.getD_eq_getElem?_getD, List.getElem?_append_right (by omega), Nat.add_sub_cancel_left, List.getElem?_map, List.getElem?_range hg]; rfl
  have hsz : ∀ s ∈ grpAt ls ls.length f g, s.size = szAt ls 0 := fun s hs => add_sizes hok s (List.mem_of_mem_take (List.mem_of_mem_drop (List.mem_of_mem_take hs)))
  have hl := ovl_len (szAt ls 0) (bts_len hsz)
  unfold gsG
  rw [h1, h2]
  have h3 : bts (grpAt ls ls.length f g ++ [ovG ls f g]) = bts (grpAt ls ls.length f g) ++ [ovl (szAt ls 0) (bts (grpAt ls ls.length f g))] := by unfold bts; rw [List.map_append]; rfl
  rw [h3, ovl_append _ (fun b hb => by rw [List.mem_singleton.1 hb]; exact hl)]
  show xorL _ (xorL _ (noughts _)) = _
  obtain ⟨r, hr⟩ : ∃ r, r = ovl (szAt ls 0) (bts (grpAt ls ls.length f g)) := ⟨_, rfl⟩
  rw [← hr] at hl ⊢
  have h4 := xorL_noughts r
  rw [hl] at h4
  rw [h4, xorL_self, hl]
theorem grp_add {ls : List ByteArray} (f g : Nat) : grpAt (addS ls f) ls.length f g = grpAt ls ls.length f g := by
  unfold grpAt addS
  rw [List.take_append_of_le_length (Nat.le_refl _)]
theorem sN_congr (m : Nat) (gs hs : List ByteArray) (lk : List Bool) : ∀ k, (∀ j, j < k → lk.getD j false = false → gs.getD j ByteArray.empty = hs.getD j ByteArray.empty) → sN m gs lk k = sN m hs lk k
  | 0, _ => rfl
  | k + 1, h => by
    rw [sN, sN, sN_congr m gs hs lk k fun j hj => h j (by omega)]
    by_cases e : lk.getD k false = true
    · rw [if_pos e, if_pos e]
    · rw [if_neg e, if_neg e]
      unfold bl
      rw [h k (by omega) (by simpa using e)]
theorem getD_ext {α : Type} {d : α} {l k : List α} (hl : l.length = k.length) (h : ∀ j, j < l.length → l.getD j d = k.getD j d) : l = k := by
  refine List.ext_getElem hl fun j h1 h2 => ?_
  have := h j h1
  rwa [List.getD_eq_getElem?_getD, List.getD_eq_getElem?_getD, List.getElem?_eq_getElem h1, List.getElem?_eq_getElem h2] at this

/-- One of a group lacks, whatever is in its place: it comes back. -/
theorem heal_group {ls zs : List ByteArray} {f g : Nat} {lk : List Bool} (hok : ChkOk ls) (h1 : 1 ≤ f) (hg : g < grps ls.length f) (hzl : zs.length = ls.length + grps ls.length f) (hzs : ∀ s ∈ zs, s.size = szAt ls 0)
    (hlk : lk.length = zs.length) (hc : cntT (lkG lk ls.length f g) (gsG zs ls.length f g).length ≤ 1)
    (hsame : ∀ j, j < (gsG zs ls.length f g).length → (lkG lk ls.length f g).getD j false = false → (gsG zs ls.length f g).getD j ByteArray.empty = (gsG (addS ls f) ls.length f g).getD j ByteArray.empty) :
    hlE (szAt ls 0) (gsG zs ls.length f g) (lkG lk ls.length f g) = 0 ∧ hlG zs lk (szAt ls 0) ls.length f g = grpAt ls ls.length f g := by
  have hq := (grps_lt ls.length f g h1).1 hg
  obtain ⟨t, ht⟩ : ∃ t, t = min f (ls.length - g * f) := ⟨_, rfl⟩
  have hgl : (grpAt zs ls.length f g).length = t := by rw [grpAt_len _ _ _ _ (by omega), ht]
  have hgx : (grpAt (addS ls f) ls.length f g).length = t := by rw [grpAt_len _ _ _ _ (by rw [addS_length]; omega), ht]
  have hgsl : (gsG zs ls.length f g).length = t + 1 := by unfold gsG; rw [List.length_append, hgl]; rfl
  have hgsx : (gsG (addS ls f) ls.length f g).length = t + 1 := by unfold gsG; rw [List.length_append, hgx]; rfl
  have hov := gs_ovl hok f g hg
  have hgss : ∀ s ∈ gsG zs ls.length f g, s.size = szAt ls 0 := fun s hs => by
    rcases List.mem_append.1 hs with hs | hs
    · exact hzs s (List.mem_of_mem_take (List.mem_of_mem_drop (List.mem_of_mem_take hs)))
    · rw [List.mem_singleton.1 hs]
      refine hzs _ ?_
      rw [List.getD_eq_getElem?_getD, List.getElem?_eq_getElem (by omega)]
      exact List.getElem_mem _
  have hxss : ∀ s ∈ gsG (addS ls f) ls.length f g, s.size = szAt ls 0 := fun s hs => by
    rcases List.mem_append.1 hs with hs | hs
    · exact addS_sizes hok f s (List.mem_of_mem_take (List.mem_of_mem_drop (List.mem_of_mem_take hs)))
    · rw [List.mem_singleton.1 hs]
      refine addS_sizes hok f _ ?_
      rw [List.getD_eq_getElem?_getD, List.getElem?_eq_getElem (by rw [addS_length]; omega)]
      exact List.getElem_mem _
  rw [hgsl] at hc hsame
  have htake : ∀ j, j < t → (grpAt zs ls.length f g).getD j ByteArray.empty = (gsG zs ls.length f g).getD j ByteArray.empty := fun j hj => by
    unfold gsG
    rw [List.getD_eq_getElem?_getD, List.getD_eq_getElem?_getD, List.getElem?_append_left (by omega)]
  have htakx : ∀ j, j < t → (grpAt ls ls.length f g).getD j ByteArray.empty = (gsG (addS ls f) ls.length f g).getD j ByteArray.empty := fun j hj => by
    rw [← grp_add f g]
    unfold gsG
    rw [List.getD_eq_getElem?_getD, List.getD_eq_getElem?_getD, List.getElem?_append_left (by omega)]
  have hglx : (grpAt ls ls.length f g).length = t := by rw [← grp_add f g]; exact hgx
  by_cases h0 : cntT (lkG lk ls.length f g) (t + 1) = 0
  · have hno := cntT_zero _ _ h0
    have hgg : gsG zs ls.length f g = gsG (addS ls f) ls.length f g := getD_ext (d := ByteArray.empty) (by rw [hgsl, hgsx]) fun j hj => hsame j (by omega) (hno j (by omega))
    constructor
    · unfold hlE
      rw [hgsl, if_pos h0, hgg, hov, if_pos rfl]
    · rw [hlG_none zs lk _ _ _ _ (by rw [hgsl]; omega)]
      exact getD_ext (d := ByteArray.empty) (by rw [hgl, hglx]) fun j hj => by rw [htake j (by omega), htakx j (by omega), hgg]
  · have hone : cntT (lkG lk ls.length f g) (t + 1) = 1 := by omega
    have hu := cntT_uniq _ _ hone
    have hct := cntT_one _ _ hone
    obtain ⟨i, hi⟩ : ∃ i, i = lstT (lkG lk ls.length f g) (t + 1) := ⟨_, rfl⟩
    have hsn : sN (szAt ls 0) (gsG zs ls.length f g) (lkG lk ls.length f g) (t + 1) = bl (gsG (addS ls f) ls.length f g) i := by
      rw [sN_congr _ _ (gsG (addS ls f) ls.length f g) _ (t + 1) fun j hj => hsame j hj]
      have h3 := sN_one (szAt ls 0) (gsG (addS ls f) ls.length f g) (lkG lk ls.length f g) hxss (by rw [hgsx]; exact hone)
      rw [hgsx, ← hi] at h3
      rw [h3]
      have hil : i < (bts (gsG (addS ls f) ls.length f g)).length := by rw [bts_length, hgsx, hi]; exact hct.1
      have h4 : bts ((gsG (addS ls f) ls.length f g).set i (S (noughts (szAt ls 0)))) = (bts (gsG (addS ls f) ls.length f g)).set i (noughts (szAt ls 0)) := by unfold bts; rw [List.map_set]
      rw [h4, ovl_set _ _ _ (bts_len hxss) hil, hov]
      have hbi : (bts (gsG (addS ls f) ls.length f g))[i] = bl (gsG (addS ls f) ls.length f g) i := by
        have hil2 : i < (gsG (addS ls f) ls.length f g).length := by rw [bts_length] at hil; exact hil
        have e1 : (bts (gsG (addS ls f) ls.length f g))[i]? = some (bl (gsG (addS ls f) ls.length f g) i) := by
          unfold bts bl
          rw [List.getElem?_map, List.getD_eq_getElem?_getD, List.getElem?_eq_getElem hil2]; rfl
        rw [List.getElem?_eq_getElem hil] at e1
        exact Option.some.inj e1
      rw [hbi]
      have hbl : (bl (gsG (addS ls f) ls.length f g) i).length = szAt ls 0 := by rw [← hbi]; exact bts_len hxss _ (List.getElem_mem _)
      have h5 := xorL_noughts (bl (gsG (addS ls f) ls.length f g) i)
      rw [hbl] at h5
      exact h5
    constructor
    · unfold hlE
      rw [hgsl, if_neg h0, if_pos hone]
    · rw [hlG_one zs lk _ _ _ _ (t + 1) hgsl hone hgss, hgl, hsn, ← hi]
      have hothers : ∀ j, j < t → j ≠ i → (grpAt zs ls.length f g).getD j ByteArray.empty = (grpAt ls ls.length f g).getD j ByteArray.empty := fun j hj hji => by
        rw [htake j hj, htakx j hj]
        refine hsame j (by omega) ?_
        cases hb : (lkG lk ls.length f g).getD j false with
        | false => rfl
        | true => exact absurd ((hu j (by omega) hb).trans hi.symm) hji
      by_cases hit : i < t
      · rw [if_pos hit]
        refine getD_ext (d := ByteArray.empty) (by rw [List.length_set, hgl, hglx]) fun j hj => ?_
        rw [List.length_set, hgl] at hj
        rw [List.getD_eq_getElem?_getD, List.getElem?_set]
        by_cases e : i = j
        · subst e
          rw [if_pos rfl, if_pos (by omega), htakx i hit]; rfl
        · rw [if_neg e, ← List.getD_eq_getElem?_getD]
          exact hothers j hj (fun h => e h.symm)
      · rw [if_neg hit]
        exact getD_ext (d := ByteArray.empty) (by rw [hgl, hglx]) fun j hj => hothers j (by omega) (by omega)
theorem hg_all {ls zs : List ByteArray} {lk : List Bool} {m f : Nat} (h : ∀ g, g < grps ls.length f → hlE m (gsG zs ls.length f g) (lkG lk ls.length f g) = 0 ∧ hlG zs lk m ls.length f g = grpAt ls ls.length f g) :
    (∀ k g, k + g = grps ls.length f → hgE zs lk m ls.length f k g = 0) ∧ ∀ g, g ≤ grps ls.length f → hgS zs lk m ls.length f g = (ls.take (g * f)) := by
  constructor
  · intro k
    induction k with
    | zero => intro g _; rfl
    | succ k ih =>
      intro g hg
      rw [hgE, if_pos (h g (by omega)).1]
      exact ih (g + 1) (by omega)
  · intro g
    induction g with
    | zero => intro _; simp [hgS]
    | succ g ih =>
      intro hg
      rw [hgS, ih (by omega), (h g (by omega)).2]
      unfold grpAt
      rw [List.take_of_length_le (Nat.le_refl _), Nat.succ_mul, List.take_add]
/-- With one of each group lacking at most all comes back. -/
theorem heal_all {ls zs : List ByteArray} {f : Nat} {lk : List Bool} (hok : ChkOk ls) (h1 : 1 ≤ f) (h2 : f ≤ 16) (hfit : ls.length + grps ls.length f ≤ 16) (hzl : zs.length = ls.length + grps ls.length f) (hzs : ∀ s ∈ zs, s.size = szAt ls 0) (hlk : lk.length = zs.length)
    (hc : ∀ g, g < grps ls.length f → cntT (lkG lk ls.length f g) (gsG zs ls.length f g).length ≤ 1)
    (hsame : ∀ g, g < grps ls.length f → ∀ j, j < (gsG zs ls.length f g).length → (lkG lk ls.length f g).getD j false = false → (gsG zs ls.length f g).getD j ByteArray.empty = (gsG (addS ls f) ls.length f g).getD j ByteArray.empty) :
    healE zs lk f = 0 ∧ healS zs lk f = ls := by
  have hp := hok.pos
  have hz0 : szAt zs 0 = szAt ls 0 := szAt_mem hzs 0 (by omega)
  have hzc : chk zs = 0 := chk_of ⟨by omega, by omega, by rw [hz0]; exact hok.one, by rw [hz0]; exact hok.eight, fun j hj => by rw [hz0]; exact szAt_mem hzs j hj⟩
  obtain ⟨e1, e2⟩ := healE_go (xs := zs) (lk := lk) (n := ls.length) (f := f) hzc hlk h1 h2 hp hzl
  obtain ⟨h3, h4⟩ := hg_all (m := szAt ls 0) fun g hg => heal_group hok h1 hg hzl hzs hlk (hc g hg) (hsame g hg)
  rw [e1, e2, hz0]
  refine ⟨h3 _ 0 (by omega), ?_⟩
  rw [h4 _ (Nat.le_refl _)]
  exact List.take_of_length_le (grps_mul ls.length f h1).1
end Go.Proofs.Ytpaoiebngbfbpaa
