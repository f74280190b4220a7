/- Plain laws on pictures: how far two lists of pixels are apart, a shifted list, steps and rests. No program in sight. -/
import Derived.Lib.Hide
namespace Go.Proofs.YtooepflfofgnnaaDoor

def sideB (n : Int) : Bool := decide (1 ≤ n ∧ n ≤ 6)
def pixB (n : Int) : Bool := decide (0 ≤ n ∧ n ≤ 255)
/-- what is wrong with a picture -/
def chkPic (wd hg : Int) (zs : List Int) : Nat :=
  if sideB wd = false ∨ sideB hg = false then 1 else if (zs.length : Int) ≠ wd * hg then 3 else if zs.any (fun z => !pixB z) = true then 1 else 0
structure PicOk (wd hg : Int) (zs : List Int) : Prop where
  w1 : 1 ≤ wd
  w6 : wd ≤ 6
  h1 : 1 ≤ hg
  h6 : hg ≤ 6
  len : (zs.length : Int) = wd * hg
  pix : ∀ z ∈ zs, 0 ≤ z ∧ z ≤ 255
theorem chkPic_ok {wd hg : Int} {zs : List Int} (h : chkPic wd hg zs = 0) : PicOk wd hg zs := by
  unfold chkPic at h
  repeat' split at h
  all_goals first | omega | skip
  rename_i h1 h2 h3
  have h1a : sideB wd = true := by cases hq : sideB wd <;> simp_all
  have h1b : sideB hg = true := by cases hq : sideB hg <;> simp_all
  simp only [sideB, decide_eq_true_eq] at h1a h1b
  refine ⟨h1a.1, h1a.2, h1b.1, h1b.2, by omega, fun z hz => ?_⟩
  have h4 : pixB z = true := by
    cases hq : pixB z
    · exact absurd (List.any_eq_true.2 ⟨z, hz, by rw [hq]; rfl⟩) h3
    · rfl
  simpa [pixB] using h4
theorem chkPic_of {wd hg : Int} {zs : List Int} (h : PicOk wd hg zs) : chkPic wd hg zs = 0 := by
  obtain ⟨h1, h2, h3, h4, h5, h6⟩ := h
  have e1 : sideB wd = true := decide_eq_true ⟨h1, h2⟩
  have e2 : sideB hg = true := decide_eq_true ⟨h3, h4⟩
  unfold chkPic
  rw [if_neg (by simp [e1, e2]), if_neg (by omega), if_neg]
  intro hc
  obtain ⟨z, hz, hq⟩ := List.any_eq_true.1 hc
  have : pixB z = true := decide_eq_true (h6 z hz)
  rw [this] at hq; cases hq
theorem PicOk.len_le {wd hg : Int} {zs : List Int} (h : PicOk wd hg zs) : 1 ≤ zs.length ∧ zs.length ≤ 36 := by
  obtain ⟨h1, h2, h3, h4, h5, _⟩ := h
  have a1 : wd * hg ≤ 6 * 6 := Int.mul_le_mul h2 h4 (by omega) (by omega)
  have a2 : 1 * 1 ≤ wd * hg := Int.mul_le_mul h1 h3 (by omega) (by omega)
  omega

/-- how much two numbers are apart -/
def apt (a b : Int) : Int := max (a - b) (b - a)
theorem apt_self (a : Int) : apt a a = 0 := by unfold apt; omega
theorem apt_comm (a b : Int) : apt a b = apt b a := by unfold apt; omega
theorem apt_nonneg (a b : Int) : 0 ≤ apt a b := by unfold apt; omega
theorem apt_zero {a b : Int} (h : apt a b ≤ 0) : a = b := by unfold apt at h; omega
theorem apt_tri (a b c : Int) : apt a b ≤ apt a c + apt c b := by unfold apt; omega
/-- the greatest of the first k -/
def unl (zs ys : List Int) : Nat → Int
  | 0 => 0
  | k + 1 => max (unl zs ys k) (apt (zs.getD k 0) (ys.getD k 0))
theorem unl_nonneg (zs ys : List Int) : ∀ k, 0 ≤ unl zs ys k
  | 0 => Int.le_refl _
  | k + 1 => by have := unl_nonneg zs ys k; unfold unl; omega
theorem unl_le {zs ys : List Int} {c : Int} : ∀ {k}, unl zs ys k ≤ c ↔ 0 ≤ c ∧ ∀ j, j < k → apt (zs.getD j 0) (ys.getD j 0) ≤ c
  | 0 => by simp [unl]
  | k + 1 => by
    unfold unl
    have ih := unl_le (zs := zs) (ys := ys) (c := c) (k := k)
    constructor
    · intro h
      have h1 := ih.1 (by omega)
      refine ⟨h1.1, fun j hj => ?_⟩
      by_cases e : j = k
      · subst e; omega
      · exact h1.2 j (by omega)
    · intro ⟨h0, h⟩
      have h1 := ih.2 ⟨h0, fun j hj => h j (by omega)⟩
      have h2 := h k (by omega)
      omega
theorem unl_at (zs ys : List Int) (k j : Nat) (h : j < k) : apt (zs.getD j 0) (ys.getD j 0) ≤ unl zs ys k := (unl_le.1 (Int.le_refl _)).2 j h
theorem unl_comm (zs ys : List Int) : ∀ k, unl zs ys k = unl ys zs k
  | 0 => rfl
  | k + 1 => by unfold unl; rw [unl_comm zs ys k, apt_comm]
theorem unl_tri (zs ys xs : List Int) (k : Nat) : unl zs ys k ≤ unl zs xs k + unl xs ys k := by
  rw [unl_le]
  have h1 := unl_nonneg zs xs k
  have h2 := unl_nonneg xs ys k
  refine ⟨by omega, fun j hj => ?_⟩
  have a1 := unl_at zs xs k j hj
  have a2 := unl_at xs ys k j hj
  have a3 := apt_tri (zs.getD j 0) (ys.getD j 0) (xs.getD j 0)
  omega
theorem getD_ext {zs ys : List Int} (hl : zs.length = ys.length) (h : ∀ j, j < zs.length → zs.getD j 0 = ys.getD j 0) : zs = ys := by
  apply List.ext_getElem hl
  intro j h1 h2
  have := h j h1
  rw [List.getD_eq_getElem?_getD, List.getD_eq_getElem?_getD, List.getElem?_eq_getElem h1, List.getElem?_eq_getElem h2] at this
  exact this
theorem unl_zero (zs ys : List Int) (hl : zs.length = ys.length) : unl zs ys zs.length = 0 ↔ zs = ys := by
  constructor
  · intro h
    refine getD_ext hl fun j hj => apt_zero ?_
    have := unl_at zs ys zs.length j hj
    omega
  · rintro rfl
    have h1 := unl_nonneg zs zs zs.length
    have h2 : unl zs zs zs.length ≤ 0 := unl_le.2 ⟨Int.le_refl _, fun j _ => by rw [apt_self]; exact Int.le_refl _⟩
    omega
theorem getD_pix {zs : List Int} (h : ∀ z ∈ zs, 0 ≤ z ∧ z ≤ 255) (j : Nat) : 0 ≤ zs.getD j 0 ∧ zs.getD j 0 ≤ 255 := by
  rw [List.getD_eq_getElem?_getD]
  by_cases hj : j < zs.length
  · rw [List.getElem?_eq_getElem hj]; exact h _ (List.getElem_mem hj)
  · rw [List.getElem?_eq_none (by omega)]; simp
theorem unl_bd {zs ys : List Int} (h1 : ∀ z ∈ zs, 0 ≤ z ∧ z ≤ 255) (h2 : ∀ z ∈ ys, 0 ≤ z ∧ z ≤ 255) (k : Nat) : 0 ≤ unl zs ys k ∧ unl zs ys k ≤ 255 :=
  ⟨unl_nonneg _ _ _, unl_le.2 ⟨by omega, fun j _ => by have := getD_pix h1 j; have := getD_pix h2 j; unfold apt; omega⟩⟩

/-- a number kept inside a side -/
def insd (n side : Int) : Int := max 0 (min (side - 1) n)
theorem insd_bd (n side : Int) (h : 1 ≤ side) : 0 ≤ insd n side ∧ insd n side < side := by unfold insd; omega
/-- where pixel (x, y) of a shifted picture comes from -/
def srcI (wd hg mx my : Int) (x y : Nat) : Int := insd (y - my) hg * wd + insd (x - mx) wd
theorem srcI_bd (wd hg mx my : Int) (x y : Nat) (h1 : 1 ≤ wd) (h2 : 1 ≤ hg) : 0 ≤ srcI wd hg mx my x y ∧ srcI wd hg mx my x y < wd * hg := by
  have a := insd_bd (y - my) hg h2
  have b := insd_bd (x - mx) wd h1
  unfold srcI
  have p0 : 0 ≤ insd (y - my) hg * wd := Int.mul_nonneg a.1 (by omega)
  have p1 : insd (y - my) hg * wd ≤ (hg - 1) * wd := Int.mul_le_mul_of_nonneg_right (by omega) (by omega)
  have p2 : (hg - 1) * wd = wd * hg - wd := by rw [Int.sub_mul, Int.one_mul, Int.mul_comm]
  omega
/-- the first k pixels of the shifted picture, row by row -/
def shf (wd hg : Nat) (zs : List Int) (mx my : Int) (k : Nat) : List Int :=
  (List.range k).map fun i => zs.getD (srcI wd hg mx my (i % wd) (i / wd)).toNat 0
theorem shf_length (wd hg : Nat) (zs : List Int) (mx my : Int) (k : Nat) : (shf wd hg zs mx my k).length = k := by simp [shf]
theorem shf_getD (wd hg : Nat) (zs : List Int) (mx my : Int) (k j : Nat) (h : j < k) : (shf wd hg zs mx my k).getD j 0 = zs.getD (srcI wd hg mx my (j % wd) (j / wd)).toNat 0 := by
  rw [List.getD_eq_getElem?_getD, List.getElem?_eq_getElem (by rw [shf_length]; exact h)]
  simp [shf]
theorem shf_succ (wd hg : Nat) (zs : List Int) (mx my : Int) (y x : Nat) (hx : x < wd) :
    shf wd hg zs mx my (y * wd + x + 1) = shf wd hg zs mx my (y * wd + x) ++ [zs.getD (srcI wd hg mx my x y).toNat 0] := by
  unfold shf
  rw [List.range_succ, List.map_append]
  have e1 : (y * wd + x) % wd = x := by rw [Nat.mul_comm, Nat.mul_add_mod, Nat.mod_eq_of_lt hx]
  have e2 : (y * wd + x) / wd = y := by rw [Nat.mul_comm, Nat.mul_add_div (by omega), Nat.div_eq_of_lt hx, Nat.add_zero]
  simp [e1, e2]
theorem shf_mem {wd hg : Nat} {zs : List Int} {mx my : Int} {k : Nat} (h : ∀ z ∈ zs, 0 ≤ z ∧ z ≤ 255) : ∀ z ∈ shf wd hg zs mx my k, 0 ≤ z ∧ z ≤ 255 := by
  intro z hz
  obtain ⟨i, _, rfl⟩ := List.mem_map.1 hz
  exact getD_pix h _
theorem shf_unl (wd hg : Nat) (zs ys : List Int) (mx my : Int) (k m : Nat) (hw : 1 ≤ wd) (hh : 1 ≤ hg) (hm : wd * hg = m) : unl (shf wd hg zs mx my k) (shf wd hg ys mx my k) k ≤ unl zs ys m := by
  rw [unl_le]
  refine ⟨unl_nonneg _ _ _, fun j hj => ?_⟩
  rw [shf_getD _ _ _ _ _ _ _ hj, shf_getD _ _ _ _ _ _ _ hj]
  have hs := srcI_bd wd hg mx my (j % wd) (j / wd) (by omega) (by omega)
  refine unl_at _ _ _ _ ?_
  rw [← Int.natCast_mul, hm] at hs
  omega
theorem insd_id (n side : Nat) (h : n < side) : insd ((n : Int) - 0) side = n := by unfold insd; omega
theorem srcI_none (wd hg : Nat) (j : Nat) (hw : 1 ≤ wd) (hj : j < wd * hg) : (srcI wd hg 0 0 (j % wd) (j / wd)).toNat = j := by
  have h1 := Nat.mod_lt j hw
  have h2 : j / wd < hg := Nat.div_lt_of_lt_mul hj
  unfold srcI
  rw [insd_id _ _ h1, insd_id _ _ h2]
  have h3 := Nat.div_add_mod j wd
  rw [← Int.natCast_mul, Nat.mul_comm, ← Int.natCast_add, h3]
  rfl
theorem shf_none (wd hg : Nat) (zs : List Int) (hw : 1 ≤ wd) (hl : zs.length = wd * hg) : shf wd hg zs 0 0 zs.length = zs := by
  refine getD_ext (shf_length _ _ _ _ _ _) fun j hj => ?_
  rw [shf_length] at hj
  rw [shf_getD _ _ _ _ _ _ _ hj, srcI_none _ _ _ hw (by omega)]
theorem shf_flat (wd hg : Nat) (c : Int) (m : Nat) (mx my : Int) (k : Nat) (hw : 1 ≤ wd) (hh : 1 ≤ hg) (hm : wd * hg = m) : shf wd hg (List.replicate m c) mx my k = List.replicate k c := by
  refine getD_ext (by rw [shf_length, List.length_replicate]) fun j hj => ?_
  rw [shf_length] at hj
  have hs := srcI_bd wd hg mx my (j % wd) (j / wd) (by omega) (by omega)
  rw [← Int.natCast_mul, hm] at hs
  rw [shf_getD _ _ _ _ _ _ _ hj, List.getD_eq_getElem?_getD, List.getD_eq_getElem?_getD, List.getElem?_replicate, List.getElem?_replicate, if_pos (by omega), if_pos hj]

/-- how many steps -/
def nearN (n s : Int) : Int := (n + s / 2) / s
def near (n s : Int) : Int := if n < 0 then - nearN (-n) s else nearN n s
theorem nearN_bd (n s : Int) (hn : 0 ≤ n) (hs : 1 ≤ s) : 0 ≤ nearN n s ∧ - (s / 2) ≤ n - nearN n s * s ∧ n - nearN n s * s ≤ s / 2 := by
  unfold nearN
  obtain ⟨q, hq⟩ : ∃ q, q = (n + s / 2) / s := ⟨_, rfl⟩
  have h1 := Int.emod_add_mul_ediv (n + s / 2) s
  have h2 := Int.emod_nonneg (n + s / 2) (show s ≠ 0 by omega)
  have h3 := Int.emod_lt_of_pos (n + s / 2) (show 0 < s by omega)
  have h4 : 0 ≤ (n + s / 2) / s := Int.ediv_nonneg (by omega) (by omega)
  rw [← hq] at h1 h4 ⊢
  rw [Int.mul_comm] at h1
  generalize q * s = m at *
  omega
theorem near_half (n s : Int) (hs : 1 ≤ s) : - (s / 2) ≤ n - near n s * s ∧ n - near n s * s ≤ s / 2 := by
  unfold near
  split
  · have := nearN_bd (-n) s (by omega) hs
    rw [Int.neg_mul]
    omega
  · have := nearN_bd n s (by omega) hs
    omega
theorem nearN_le (n s : Int) (hn : 0 ≤ n) (hs : 1 ≤ s) (b : Int) (hb : n ≤ b) : nearN n s ≤ b := by
  have h := nearN_bd n s hn hs
  by_cases h0 : nearN n s ≤ 0
  · omega
  · have h1 : nearN n s * 1 ≤ nearN n s * s := Int.mul_le_mul_of_nonneg_left hs h.1
    by_cases h2 : s = 1
    · subst h2; omega
    · have h3 : (nearN n s) * 2 ≤ nearN n s * s := Int.mul_le_mul_of_nonneg_left (by omega) h.1
      have h4 : s ≤ nearN n s * s := by
        have := Int.mul_le_mul_of_nonneg_right (show 1 ≤ nearN n s by omega) (show 0 ≤ s by omega)
        omega
      omega
theorem near_bd (n s : Int) (hs : 1 ≤ s) (b : Int) (h1 : -b ≤ n) (h2 : n ≤ b) : -b ≤ near n s ∧ near n s ≤ b := by
  unfold near
  split
  · have := nearN_le (-n) s (by omega) hs b (by omega)
    have := nearN_bd (-n) s (by omega) hs
    omega
  · have := nearN_le n s (by omega) hs b (by omega)
    have := nearN_bd n s (by omega) hs
    omega
theorem near_one (n : Int) : near n 1 = n := by have := near_half n 1 (by omega); omega
theorem near_zero (s : Int) (hs : 1 ≤ s) : near 0 s = 0 := by have := near_bd 0 s hs 0 (by omega) (by omega); omega
def clamp (n : Int) : Int := max 0 (min 255 n)
theorem clamp_bd (n : Int) : 0 ≤ clamp n ∧ clamp n ≤ 255 := by unfold clamp; omega
theorem clamp_id (n : Int) (h : 0 ≤ n) (h2 : n ≤ 255) : clamp n = n := by unfold clamp; omega
/-- coded by steps, and told: no further than half a step -/
theorem told_near (x g s : Int) (hs : 1 ≤ s) (h0 : 0 ≤ x) (h1 : x ≤ 255) : apt x (clamp (g + near (x - g) s * s)) ≤ s / 2 := by
  have := near_half (x - g) s hs
  unfold apt clamp
  omega
end Go.Proofs.YtooepflfofgnnaaDoor
