/- Plain laws on a picture coded by what is beside each pixel, and by what was ahead and moved. No program in sight. -/
import Derived.Test.YtooepflfofgnnaaDoorPicPlain
namespace Go.Proofs.YtooepflfofgnnaaDoor

theorem getD_snoc_lt (l : List Int) (x : Int) (j : Nat) (h : j < l.length) : (l ++ [x]).getD j 0 = l.getD j 0 := by
  rw [List.getD_eq_getElem?_getD, List.getD_eq_getElem?_getD, List.getElem?_append_left h]
theorem getD_snoc_at (l : List Int) (x : Int) (j : Nat) (h : j = l.length) : (l ++ [x]).getD j 0 = x := by
  subst h
  rw [List.getD_eq_getElem?_getD, List.getElem?_append_right (Nat.le_refl _)]; simp

/-- the guess of the next pixel by those told -/
def gss (told : List Int) (wd : Nat) : Int :=
  if told.length = 0 then 128 else if told.length % wd = 0 then told.getD (told.length - wd) 0 else told.getD (told.length - 1) 0
theorem gss_bd {told : List Int} (h : ∀ z ∈ told, 0 ≤ z ∧ z ≤ 255) (wd : Nat) : 0 ≤ gss told wd ∧ gss told wd ≤ 255 := by
  unfold gss
  split
  · omega
  · split
    · exact getD_pix h _
    · exact getD_pix h _
/-- the rests and what is told of the first k -/
def cod (zs : List Int) (wd : Nat) (s : Int) : Nat → List Int × List Int
  | 0 => ([], [])
  | k + 1 => ((cod zs wd s k).1 ++ [near (zs.getD k 0 - gss (cod zs wd s k).2 wd) s], (cod zs wd s k).2 ++ [clamp (gss (cod zs wd s k).2 wd + near (zs.getD k 0 - gss (cod zs wd s k).2 wd) s * s)])
def tel (rs : List Int) (wd : Nat) (s : Int) : Nat → List Int
  | 0 => []
  | k + 1 => tel rs wd s k ++ [clamp (gss (tel rs wd s k) wd + rs.getD k 0 * s)]
theorem cod_len (zs : List Int) (wd : Nat) (s : Int) : ∀ k, (cod zs wd s k).1.length = k ∧ (cod zs wd s k).2.length = k
  | 0 => ⟨rfl, rfl⟩
  | k + 1 => by have := cod_len zs wd s k; unfold cod; simp [this]
theorem tel_len (rs : List Int) (wd : Nat) (s : Int) : ∀ k, (tel rs wd s k).length = k
  | 0 => rfl
  | k + 1 => by have := tel_len rs wd s k; unfold tel; simp [this]
theorem cod_pix (zs : List Int) (wd : Nat) (s : Int) : ∀ k, ∀ z ∈ (cod zs wd s k).2, 0 ≤ z ∧ z ≤ 255
  | 0, z, h => by simp [cod] at h
  | k + 1, z, h => by
    unfold cod at h
    rcases List.mem_append.1 h with h | h
    · exact cod_pix zs wd s k z h
    · rw [List.mem_singleton] at h; subst h; exact clamp_bd _
theorem tel_pix (rs : List Int) (wd : Nat) (s : Int) : ∀ k, ∀ z ∈ tel rs wd s k, 0 ≤ z ∧ z ≤ 255
  | 0, z, h => by simp [tel] at h
  | k + 1, z, h => by
    unfold tel at h
    rcases List.mem_append.1 h with h | h
    · exact tel_pix rs wd s k z h
    · rw [List.mem_singleton] at h; subst h; exact clamp_bd _
theorem cod_rest (zs : List Int) (wd : Nat) (s : Int) : ∀ n j, j < n → (cod zs wd s n).1.getD j 0 = near (zs.getD j 0 - gss (cod zs wd s j).2 wd) s
  | 0, j, h => by omega
  | n + 1, j, h => by
    have hl := (cod_len zs wd s n).1
    by_cases e : j = n
    · subst e; rw [cod]; exact getD_snoc_at _ _ _ hl.symm
    · rw [cod, getD_snoc_lt _ _ _ (by omega)]; exact cod_rest zs wd s n j (by omega)
theorem cod_told (zs : List Int) (wd : Nat) (s : Int) : ∀ n j, j < n → (cod zs wd s n).2.getD j 0 = clamp (gss (cod zs wd s j).2 wd + near (zs.getD j 0 - gss (cod zs wd s j).2 wd) s * s)
  | 0, j, h => by omega
  | n + 1, j, h => by
    have hl := (cod_len zs wd s n).2
    by_cases e : j = n
    · subst e; rw [cod]; exact getD_snoc_at _ _ _ hl.symm
    · rw [cod, getD_snoc_lt _ _ _ (by omega)]; exact cod_told zs wd s n j (by omega)
theorem tel_cod (zs : List Int) (wd : Nat) (s : Int) (n : Nat) : ∀ k, k ≤ n → tel (cod zs wd s n).1 wd s k = (cod zs wd s k).2
  | 0, _ => rfl
  | k + 1, h => by
    have ih := tel_cod zs wd s n k (by omega)
    rw [tel, ih, cod_rest zs wd s n k (by omega), cod]
theorem cod_bd (zs : List Int) (wd : Nat) (s : Int) (hs : 1 ≤ s) (hz : ∀ z ∈ zs, 0 ≤ z ∧ z ≤ 255) : ∀ k, ∀ r ∈ (cod zs wd s k).1, -255 ≤ r ∧ r ≤ 255
  | 0, r, h => by simp [cod] at h
  | k + 1, r, h => by
    unfold cod at h
    rcases List.mem_append.1 h with h | h
    · exact cod_bd zs wd s hs hz k r h
    · rw [List.mem_singleton] at h; subst h
      have h1 := getD_pix hz k
      have h2 := gss_bd (cod_pix zs wd s k) wd
      exact near_bd _ s hs 255 (by omega) (by omega)
/-- coded and told it is no further than half a step -/
theorem cod_near (zs : List Int) (wd : Nat) (s : Int) (hs : 1 ≤ s) (hz : ∀ z ∈ zs, 0 ≤ z ∧ z ≤ 255) (n : Nat) : unl zs (cod zs wd s n).2 n ≤ s / 2 := by
  rw [unl_le]
  refine ⟨by omega, fun j hj => ?_⟩
  rw [cod_told zs wd s n j hj]
  have h1 := getD_pix hz j
  exact told_near _ _ s hs h1.1 h1.2
theorem cod_one (zs : List Int) (wd : Nat) (hz : ∀ z ∈ zs, 0 ≤ z ∧ z ≤ 255) : (cod zs wd 1 zs.length).2 = zs := by
  have h := cod_near zs wd 1 (by omega) hz zs.length
  have h0 := unl_nonneg zs (cod zs wd 1 zs.length).2 zs.length
  exact ((unl_zero zs _ (cod_len zs wd 1 zs.length).2.symm).1 (by omega)).symm
theorem replicate_snoc (k : Nat) (c : Int) : List.replicate k c ++ [c] = List.replicate (k + 1) c := by rw [List.replicate_succ']
theorem gss_flat (wd k : Nat) (hw : 1 ≤ wd) (hk : k % wd = 0 → k = 0 ∨ wd ≤ k) : gss (List.replicate k 128) wd = 128 := by
  unfold gss
  rw [List.length_replicate]
  split
  · rfl
  · rename_i h0
    split
    · rename_i h1
      rw [List.getD_eq_getElem?_getD, List.getElem?_replicate, if_pos (by have := hk h1; omega)]; rfl
    · rw [List.getD_eq_getElem?_getD, List.getElem?_replicate, if_pos (by omega)]; rfl
theorem cod_flat (wd m : Nat) (s : Int) (hs : 1 ≤ s) (hw : 1 ≤ wd) : ∀ k, k ≤ m → cod (List.replicate m 128) wd s k = (List.replicate k 0, List.replicate k 128)
  | 0, _ => rfl
  | k + 1, h => by
    have ih := cod_flat wd m s hs hw k (by omega)
    have hg := gss_flat wd k hw (fun h1 => by
      rcases Nat.eq_zero_or_pos k with h2 | h2
      · exact .inl h2
      · right
        rcases Nat.lt_or_ge k wd with h3 | h3
        · rw [Nat.mod_eq_of_lt h3] at h1; omega
        · exact h3)
    have hz : (List.replicate m (128 : Int)).getD k 0 = 128 := by rw [List.getD_eq_getElem?_getD, List.getElem?_replicate, if_pos (by omega)]; rfl
    have hn : near ((128 : Int) - 128) s = 0 := near_zero s hs
    have hc : clamp (128 + 0 * s) = 128 := by rw [Int.zero_mul]; rfl
    rw [cod, ih]
    simp only [hg, hz, hn, hc]
    rw [replicate_snoc, replicate_snoc]

/-- all differences of the first k, added up -/
def farS (zs ys : List Int) : Nat → Int
  | 0 => 0
  | k + 1 => farS zs ys k + apt (zs.getD k 0) (ys.getD k 0)
theorem farS_nonneg (zs ys : List Int) : ∀ k, 0 ≤ farS zs ys k
  | 0 => Int.le_refl _
  | k + 1 => by have := farS_nonneg zs ys k; have := apt_nonneg (zs.getD k 0) (ys.getD k 0); unfold farS; omega
theorem farS_le {zs ys : List Int} (h1 : ∀ z ∈ zs, 0 ≤ z ∧ z ≤ 255) (h2 : ∀ z ∈ ys, 0 ≤ z ∧ z ≤ 255) : ∀ k, farS zs ys k ≤ 255 * k
  | 0 => by simp [farS]
  | k + 1 => by
    have ih := farS_le h1 h2 k
    have a1 := getD_pix h1 k
    have a2 := getD_pix h2 k
    have : apt (zs.getD k 0) (ys.getD k 0) ≤ 255 := by unfold apt; omega
    unfold farS; omega
theorem farS_self (zs : List Int) : ∀ k, farS zs zs k = 0
  | 0 => rfl
  | k + 1 => by unfold farS; rw [farS_self zs k, apt_self]; rfl
theorem farS_zero {zs ys : List Int} : ∀ {k}, farS zs ys k = 0 → ∀ j, j < k → zs.getD j 0 = ys.getD j 0
  | 0, _, j, h => by omega
  | k + 1, h, j, hj => by
    unfold farS at h
    have h1 := farS_nonneg zs ys k
    have h2 := apt_nonneg (zs.getD k 0) (ys.getD k 0)
    by_cases e : j = k
    · subst e; exact apt_zero (by omega)
    · have h3 : farS zs ys k = 0 := by omega
      exact farS_zero h3 j (by omega)
theorem farS_eq {zs ys : List Int} (hl : zs.length = ys.length) (h : farS zs ys zs.length = 0) : zs = ys := getD_ext hl (farS_zero h)

/-- the moves in their order: behind i of nine, the best one and how far it is; before: the first one -/
def mvX (i : Nat) : Int := (i % 3 : Nat) - 1
def mvY (i : Nat) : Int := (i / 3 : Nat) - 1
def mfar (wd hg : Nat) (zs ys : List Int) (mx my : Int) : Int := farS (shf wd hg zs mx my zs.length) ys zs.length
/-- which of the first i + 1 is the best -/
def bst (wd hg : Nat) (zs ys : List Int) : Nat → Nat
  | 0 => 0
  | i + 1 => if mfar wd hg zs ys (mvX i) (mvY i) < mfar wd hg zs ys (mvX (bst wd hg zs ys i)) (mvY (bst wd hg zs ys i)) then i else bst wd hg zs ys i
theorem bst_lt (wd hg : Nat) (zs ys : List Int) : ∀ i, bst wd hg zs ys i < max i 1
  | 0 => by simp [bst]
  | i + 1 => by have := bst_lt wd hg zs ys i; unfold bst; split <;> omega
theorem bst_least (wd hg : Nat) (zs ys : List Int) : ∀ i j, j < i → mfar wd hg zs ys (mvX (bst wd hg zs ys i)) (mvY (bst wd hg zs ys i)) ≤ mfar wd hg zs ys (mvX j) (mvY j)
  | 0, j, h => by omega
  | i + 1, j, h => by
    unfold bst
    by_cases e : j = i
    · subst e; split <;> omega
    · have := bst_least wd hg zs ys i j (by omega)
      split <;> omega
theorem mv_bd (i : Nat) (h : i < 9) : -1 ≤ mvX i ∧ mvX i ≤ 1 ∧ -1 ≤ mvY i ∧ mvY i ≤ 1 := by unfold mvX mvY; omega
theorem mv_some (x y : Int) (h1 : -1 ≤ x) (h2 : x ≤ 1) (h3 : -1 ≤ y) (h4 : y ≤ 1) : ∃ i, i < 9 ∧ mvX i = x ∧ mvY i = y := by
  refine ⟨((y + 1) * 3 + (x + 1)).toNat, by omega, ?_, ?_⟩
  · unfold mvX; omega
  · unfold mvY; omega
/-- what was only moved by one is found -/
theorem bst_moved (wd hg : Nat) (zs : List Int) (mx my : Int) (h1 : -1 ≤ mx) (h2 : mx ≤ 1) (h3 : -1 ≤ my) (h4 : my ≤ 1) :
    shf wd hg zs (mvX (bst wd hg zs (shf wd hg zs mx my zs.length) 9)) (mvY (bst wd hg zs (shf wd hg zs mx my zs.length) 9)) zs.length = shf wd hg zs mx my zs.length := by
  obtain ⟨i, hi, e1, e2⟩ := mv_some mx my h1 h2 h3 h4
  have hb := bst_least wd hg zs (shf wd hg zs mx my zs.length) 9 i hi
  rw [e1, e2] at hb
  have h0 : mfar wd hg zs (shf wd hg zs mx my zs.length) mx my = 0 := farS_self _ _
  rw [h0] at hb
  have h5 := farS_nonneg (shf wd hg zs (mvX (bst wd hg zs (shf wd hg zs mx my zs.length) 9)) (mvY (bst wd hg zs (shf wd hg zs mx my zs.length) 9)) zs.length) (shf wd hg zs mx my zs.length) zs.length
  unfold mfar at hb
  refine farS_eq (by rw [shf_length, shf_length]) ?_
  rw [shf_length]
  omega
/-- the rests behind a moved one, and what is told by them -/
def mrs (ss ys : List Int) (s : Int) (k : Nat) : List Int := (List.range k).map fun j => near (ys.getD j 0 - ss.getD j 0) s
def mtl (ss rs : List Int) (s : Int) (k : Nat) : List Int := (List.range ss.length).map fun j => if j < k then clamp (ss.getD j 0 + rs.getD j 0 * s) else ss.getD j 0
theorem mrs_length (ss ys : List Int) (s : Int) (k : Nat) : (mrs ss ys s k).length = k := by simp [mrs]
theorem mrs_succ (ss ys : List Int) (s : Int) (k : Nat) : mrs ss ys s (k + 1) = mrs ss ys s k ++ [near (ys.getD k 0 - ss.getD k 0) s] := by unfold mrs; rw [List.range_succ, List.map_append]; rfl
theorem mrs_getD (ss ys : List Int) (s : Int) (k j : Nat) (h : j < k) : (mrs ss ys s k).getD j 0 = near (ys.getD j 0 - ss.getD j 0) s := by
  rw [List.getD_eq_getElem?_getD, List.getElem?_eq_getElem (by rw [mrs_length]; exact h)]; simp [mrs]
theorem mtl_length (ss rs : List Int) (s : Int) (k : Nat) : (mtl ss rs s k).length = ss.length := by simp [mtl]
theorem mtl_getD (ss rs : List Int) (s : Int) (k j : Nat) (h : j < ss.length) : (mtl ss rs s k).getD j 0 = if j < k then clamp (ss.getD j 0 + rs.getD j 0 * s) else ss.getD j 0 := by
  rw [List.getD_eq_getElem?_getD, List.getElem?_eq_getElem (by rw [mtl_length]; exact h)]; simp [mtl]
theorem mtl_zero (ss rs : List Int) (s : Int) : mtl ss rs s 0 = ss := by
  refine getD_ext (mtl_length _ _ _ _) fun j hj => ?_
  rw [mtl_length] at hj
  rw [mtl_getD _ _ _ _ _ hj, if_neg (by omega)]
theorem mtl_pix {ss rs : List Int} {s : Int} {k : Nat} (h : ∀ z ∈ ss, 0 ≤ z ∧ z ≤ 255) : ∀ z ∈ mtl ss rs s k, 0 ≤ z ∧ z ≤ 255 := by
  intro z hz
  obtain ⟨i, _, rfl⟩ := List.mem_map.1 hz
  split
  · exact clamp_bd _
  · exact getD_pix h _
theorem mrs_bd {ss ys : List Int} {s : Int} (hs : 1 ≤ s) (h1 : ∀ z ∈ ss, 0 ≤ z ∧ z ≤ 255) (h2 : ∀ z ∈ ys, 0 ≤ z ∧ z ≤ 255) (k : Nat) : ∀ r ∈ mrs ss ys s k, -255 ≤ r ∧ r ≤ 255 := by
  intro r hr
  obtain ⟨i, _, rfl⟩ := List.mem_map.1 hr
  have a1 := getD_pix h1 i
  have a2 := getD_pix h2 i
  exact near_bd _ s hs 255 (by omega) (by omega)
theorem mtl_near (ss ys : List Int) (s : Int) (hs : 1 ≤ s) (h2 : ∀ z ∈ ys, 0 ≤ z ∧ z ≤ 255) (k : Nat) (hk : k = ss.length) : unl ys (mtl ss (mrs ss ys s k) s k) k ≤ s / 2 := by
  rw [unl_le]
  refine ⟨by omega, fun j hj => ?_⟩
  rw [mtl_getD _ _ _ _ _ (by omega), if_pos hj, mrs_getD _ _ _ _ _ hj]
  have h1 := getD_pix h2 j
  exact told_near _ _ s hs h1.1 h1.2
theorem mrs_self (ss : List Int) (s : Int) (hs : 1 ≤ s) (k : Nat) : mrs ss ss s k = List.replicate k 0 := by
  refine getD_ext (by rw [mrs_length, List.length_replicate]) fun j hj => ?_
  rw [mrs_length] at hj
  rw [mrs_getD _ _ _ _ _ hj, Int.sub_self, near_zero s hs, List.getD_eq_getElem?_getD, List.getElem?_replicate, if_pos hj]; rfl
theorem mtl_none (ss : List Int) (s : Int) (m k : Nat) (h : ∀ z ∈ ss, 0 ≤ z ∧ z ≤ 255) : mtl ss (List.replicate m 0) s k = ss := by
  refine getD_ext (mtl_length _ _ _ _) fun j hj => ?_
  rw [mtl_length] at hj
  have h1 := getD_pix h j
  have e : (List.replicate m (0 : Int)).getD j 0 = 0 := by
    rw [List.getD_eq_getElem?_getD, List.getElem?_replicate]; split <;> rfl
  rw [mtl_getD _ _ _ _ _ hj, e, Int.zero_mul, Int.add_zero, clamp_id _ h1.1 h1.2]
  split <;> rfl
end Go.Proofs.YtooepflfofgnnaaDoor
