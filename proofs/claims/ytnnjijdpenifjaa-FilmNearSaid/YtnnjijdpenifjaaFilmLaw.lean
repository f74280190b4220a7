/- Plain laws of films: what is told by steps of one; a film of one picture; rows of pictures that a law makes itself. -/
import Derived.Test.YtnnjijdpenifjaaFilmRow
namespace Go.Proofs.Ytnnjijdpenifjaa
open Go.ChangeShapes Go.WideShapes Go.ChangeAt Go.RowKit

theorem sht_get (ps : List Pt) (ev s : Int) : ∀ k i, i < k → (sht ps ev s k).1.getD i default = cdS ev s i (sht ps ev s i).2 (ps.getD i default)
  | 0, i, h => by omega
  | k + 1, i, h => by
    rw [sht_succ]
    by_cases he : i < k
    · rw [List.getD_eq_getElem?_getD, List.getElem?_append_left (by rw [sht_len]; exact he), ← List.getD_eq_getElem?_getD]
      exact sht_get ps ev s k i he
    · obtain rfl : i = k := by omega
      rw [List.getD_eq_getElem?_getD, List.getElem?_append_right (by rw [sht_len]; exact Nat.le_refl _), sht_len, Nat.sub_self]; rfl
theorem told_one {W H ev : Int} {i : Nat} {L p : Pt} (h : StepOk W H ev 1 i L p) (hp : PicOk W H p.zs) : (tlS W H 1 L (cdS ev 1 i L p)).zs = p.zs := by
  have hn := h.near
  have h0 := unl_nonneg p.zs (tlS W H 1 L (cdS ev 1 i L p)).zs p.zs.length
  have hl : p.zs.length = (tlS W H 1 L (cdS ev 1 i L p)).zs.length := by have h1 := hp.len; have h2 := h.ok.len; omega
  have : unl p.zs (tlS W H 1 L (cdS ev 1 i L p)).zs p.zs.length = 0 := by omega
  exact ((unl_zero _ _ hl).1 this).symm
theorem menR_self {wd hg s : Int} {zs : List Int} (hp : PicOk wd hg zs) (hs : 1 ≤ s) (hs2 : s ≤ 64) : menR wd hg zs wd hg zs s = List.replicate zs.length 0 := by
  have ha : alkE wd hg zs wd hg zs = 0 := alkE_zero.2 ⟨chkPic_of hp, chkPic_of hp, rfl, rfl⟩
  have hself : shf wd.toNat hg.toNat zs 0 0 zs.length = zs := shf_none _ _ _ (by have := hp.w1; omega) (by
    have h1 := hp.len
    have h2 := hp.w1
    have h3 := hp.h1
    have e : ((wd.toNat * hg.toNat : Nat) : Int) = wd * hg := by rw [Int.natCast_mul, Int.toNat_of_nonneg (by omega), Int.toNat_of_nonneg (by omega)]
    omega)
  have hmoved : shI wd hg zs (mvX (bI wd hg zs zs)) (mvY (bI wd hg zs zs)) = zs := by
    have := bst_moved wd.toNat hg.toNat zs 0 0 (by omega) (by omega) (by omega) (by omega)
    rw [hself] at this
    exact this
  unfold menR
  rw [if_pos (movE_of ha hs hs2), hmoved, mrs_self zs s hs]
/-- OF A FILM OF ONE PICTURE BY STEPS OF ONE only those that stand alone have rests. -/
theorem film_still {P : Pt} {n : Nat} {ev : Int} (h : FOk (List.replicate n P) ev 1) (hn : 1 ≤ n) : ∀ i, i < n →
    ((sht (List.replicate n P) ev 1 n).1.getD i default).al = decide ((i : Int) % ev = 0) ∧ ((i : Int) % ev ≠ 0 → ((sht (List.replicate n P) ev 1 n).1.getD i default).rs = List.replicate P.zs.length 0) := by
  have hg : ∀ j, j < n → (List.replicate n P).getD j default = P := fun j hj => by rw [List.getD_eq_getElem?_getD, List.getElem?_replicate, if_pos hj]; rfl
  have h0 := hg 0 (by omega)
  intro i hi
  have hall := film_ok h n (by rw [List.length_replicate]; exact Nat.le_refl _)
  have hp := (h.pic 0 (by rw [List.length_replicate]; omega)).1
  rw [h0] at hp
  rw [sht_get _ _ _ n i hi, hg i hi]
  refine ⟨?_, fun hne => ?_⟩
  · unfold cdS
    split
    · rename_i hm; rw [decide_eq_true hm]
    · rename_i hm; rw [decide_eq_false hm]
  · have hi0 : i ≠ 0 := fun e => by subst e; exact hne (Int.zero_emod ev)
    have hL := (film_ok h i (by rw [List.length_replicate]; omega)).2 (by omega)
    rw [h0] at hL
    have hz : (sht (List.replicate n P) ev 1 i).2.zs = P.zs := by
      obtain ⟨j, rfl⟩ : ∃ j, i = j + 1 := ⟨i - 1, by omega⟩
      have hst := hall.1 j (by omega)
      rw [hg j (by omega), h0] at hst
      have := told_one hst hp
      rw [sht_succ, hg j (by omega)]
      exact this
    have : (cdS ev 1 i (sht (List.replicate n P) ev 1 i).2 P).rs = menR (sht (List.replicate n P) ev 1 i).2.d (sht (List.replicate n P) ev 1 i).2.g (sht (List.replicate n P) ev 1 i).2.zs P.d P.g P.zs 1 := by unfold cdS; rw [if_neg hne]
    rw [this, hL.1, hL.2.1, hz]
    exact menR_self hp (by omega) (by omega)
theorem fst_same {P : Pt} {n : Nat} (h : chkPic P.d P.g P.zs = 0) : ∀ k, k ≤ n → fstE (List.replicate n P) k = 0
  | 0, _ => rfl
  | k + 1, hk => by
    have hg : ∀ j, j < n → (List.replicate n P).getD j default = P := fun j hj => by rw [List.getD_eq_getElem?_getD, List.getElem?_replicate, if_pos hj]; rfl
    rw [fstE, if_neg (by rw [fst_same h k (by omega)]; simp), hg 0 (by omega), hg k (by omega)]
    unfold pcE
    rw [if_neg (by rw [h]; simp), if_neg (by simp)]
theorem fen_same {P : Pt} {n : Nat} (h : chkPic P.d P.g P.zs = 0) (h1 : 1 ≤ n) (h6 : n ≤ 6) (ev : Int) : fenE (List.replicate n P) ev 1 = if evB ev = false then 1 else 0 := by
  have hc : fchkE n = 0 := by unfold fchkE; rw [if_neg (by omega), if_neg (by omega)]
  unfold fenE
  rw [List.length_replicate, hc, if_neg (by simp), fst_same h n (Nat.le_refl _), if_neg (by simp)]
  simp [show stepB 1 = true by decide]
def Pc.row (p : Pc) : List Value := [.int .i64 p.wd, .int .i64 p.hg, .slice p.a p.n p.cap]
theorem PicsAt.ofRows {w : World} {a : Option Addr} {n cap : Nat} {ps : List Pc} (h : RowsAt w 3 a n cap (ps.map Pc.row)) (hp : ∀ p ∈ ps, PicAt w p.wd p.hg p.a p.n p.cap p.zs) : PicsAt w a n cap ps := by
  refine ⟨by have := h.len; rw [List.length_map] at this; exact this, h.le, h.cap, fun hn => ?_, hp⟩
  obtain ⟨b, o, ha, hc⟩ := h.at_ hn
  refine ⟨b, o, ha, fun j p hj => ?_⟩
  have hrow := (hc j p.row (by rw [List.getElem?_map, hj]; rfl)).2
  refine ⟨hrow 0 _ rfl, ?_, ?_⟩
  · have := hrow 1 _ rfl; rw [← Nat.add_assoc] at this; exact this
  · have := hrow 2 _ rfl; rw [← Nat.add_assoc] at this; exact this
end Go.Proofs.Ytnnjijdpenifjaa
