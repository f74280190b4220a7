/- Films: what is coded, what is told; no program in sight but the pictures' own numbers. -/
import Derived.Test.YtooepflfofgnnaaDoorFilm
import Derived.Test.YtooepflfofgnnaaDoorOpenPics
namespace Go.Proofs.YtooepflfofgnnaaDoor
open Go.ChangeShapes Go.WideShapes Go.ChangeAt Go.RowKit

/-- a picture: how wide, how high, the pixels -/
structure Pt where
  d : Int
  g : Int
  zs : List Int
instance : Inhabited Pt := ⟨⟨0, 0, []⟩⟩
/-- a coded picture -/
structure Ct where
  al : Bool
  x : Int
  y : Int
  rs : List Int
instance : Inhabited Ct := ⟨⟨false, 0, 0, []⟩⟩
def Pc.pt (p : Pc) : Pt := ⟨p.wd, p.hg, p.zs⟩
theorem cod_len1 (zs : List Int) (wd : Nat) (s : Int) (k : Nat) : (cod zs wd s k).1.length = k := (cod_len zs wd s k).1
theorem cod_len2 (zs : List Int) (wd : Nat) (s : Int) (k : Nat) : (cod zs wd s k).2.length = k := (cod_len zs wd s k).2
/-- picture i, coded: alone or behind the last one told -/
def cdS (ev s : Int) (i : Nat) (L p : Pt) : Ct := if (i : Int) % ev = 0 then ⟨true, 0, 0, (cod p.zs p.d.toNat s p.zs.length).1⟩ else ⟨false, menX L.d L.g L.zs p.d p.g p.zs s, menY L.d L.g L.zs p.d p.g p.zs s, menR L.d L.g L.zs p.d p.g p.zs s⟩
/-- what is wrong with a coded picture behind another; what it tells -/
def tlE (W H s : Int) (L : Pt) (c : Ct) : Nat := tldE L.d L.g L.zs W H s c.al c.x c.y c.rs
def tlS (W H s : Int) (L : Pt) (c : Ct) : Pt := ⟨tldD L.d L.g L.zs W H s c.al c.x c.y c.rs, tldG L.d L.g L.zs W H s c.al c.x c.y c.rs, tldR L.d L.g L.zs W H s c.al c.x c.y c.rs⟩
/-- the first k pictures coded, and the last one told -/
def sht (ps : List Pt) (ev s : Int) : Nat → List Ct × Pt
  | 0 => ([], default)
  | k + 1 =>
    let r := sht ps ev s k
    let p := ps.getD k default
    let c := cdS ev s k r.2 p
    (r.1 ++ [c], tlS p.d p.g s r.2 c)
theorem sht_succ (ps : List Pt) (ev s : Int) (k : Nat) : sht ps ev s (k + 1) = ((sht ps ev s k).1 ++ [cdS ev s k (sht ps ev s k).2 (ps.getD k default)], tlS (ps.getD k default).d (ps.getD k default).g s (sht ps ev s k).2 (cdS ev s k (sht ps ev s k).2 (ps.getD k default))) := rfl
theorem sht_len (ps : List Pt) (ev s : Int) : ∀ k, (sht ps ev s k).1.length = k
  | 0 => rfl
  | k + 1 => by rw [sht_succ, List.length_append, sht_len]; rfl
/-- the first fault among the first k pictures -/
def pcE (p0 p : Pt) : Nat := if chkPic p.d p.g p.zs ≠ 0 then chkPic p.d p.g p.zs else if p.d ≠ p0.d ∨ p.g ≠ p0.g then 3 else 0
def fstE (ps : List Pt) : Nat → Nat
  | 0 => 0
  | k + 1 => if fstE ps k ≠ 0 then fstE ps k else pcE (ps.getD 0 default) (ps.getD k default)
theorem fstE_stop (ps : List Pt) (k : Nat) (h : fstE ps k ≠ 0) : ∀ m, k ≤ m → fstE ps m = fstE ps k := by
  intro m hm
  induction m with
  | zero => rw [show k = 0 by omega]
  | succ m ih =>
    by_cases he : k = m + 1
    · rw [he]
    · have := ih (by omega)
      rw [fstE, if_pos (by rw [this]; exact h), this]
theorem fstE_zero {ps : List Pt} {k : Nat} (h : fstE ps k = 0) : ∀ j, j < k → pcE (ps.getD 0 default) (ps.getD j default) = 0 := by
  induction k with
  | zero => intro j hj; omega
  | succ k ih =>
    rw [fstE] at h
    split at h
    · omega
    · rename_i h0
      intro j hj
      by_cases he : j = k
      · subst he; exact h
      · exact ih (by omega) j (by omega)
def evB (ev : Int) : Bool := decide (1 ≤ ev ∧ ev ≤ 6)
def fenE (ps : List Pt) (ev s : Int) : Nat := if fchkE ps.length ≠ 0 then fchkE ps.length else if fstE ps ps.length ≠ 0 then fstE ps ps.length else if evB ev = false ∨ stepB s = false then 1 else 0
def fenL (ps : List Pt) (ev s : Int) : List Ct := if fenE ps ev s = 0 then (sht ps ev s ps.length).1 else []
structure FOk (ps : List Pt) (ev s : Int) : Prop where
  n1 : 1 ≤ ps.length
  n6 : ps.length ≤ 6
  e1 : 1 ≤ ev
  e6 : ev ≤ 6
  s1 : 1 ≤ s
  s64 : s ≤ 64
  pic : ∀ j, j < ps.length → PicOk (ps.getD 0 default).d (ps.getD 0 default).g (ps.getD j default).zs ∧ (ps.getD j default).d = (ps.getD 0 default).d ∧ (ps.getD j default).g = (ps.getD 0 default).g
theorem pcE_zero {p0 p : Pt} (h : pcE p0 p = 0) : PicOk p0.d p0.g p.zs ∧ p.d = p0.d ∧ p.g = p0.g := by
  unfold pcE at h
  split at h
  · omega
  split at h
  · omega
  rename_i h1 h2
  have e1 : p.d = p0.d := by omega
  have e2 : p.g = p0.g := by omega
  have := chkPic_ok (show chkPic p.d p.g p.zs = 0 by omega)
  rw [e1, e2] at this
  exact ⟨this, e1, e2⟩
theorem fenE_ok {ps : List Pt} {ev s : Int} (h : fenE ps ev s = 0) : FOk ps ev s := by
  unfold fenE at h
  split at h
  · omega
  split at h
  · omega
  split at h
  · omega
  rename_i h1 h2 h3
  have hc : fchkE ps.length = 0 := by omega
  unfold fchkE at hc
  split at hc
  · omega
  split at hc
  · omega
  have he : evB ev = true := by cases hq : evB ev with
    | true => rfl
    | false => exact absurd (.inl hq) h3
  have hs : stepB s = true := by cases hq : stepB s with
    | true => rfl
    | false => exact absurd (.inr hq) h3
  have he := of_decide_eq_true he
  have hs := of_decide_eq_true hs
  exact ⟨by omega, by omega, he.1, he.2, hs.1, hs.2, fun j hj => pcE_zero (fstE_zero (show fstE ps ps.length = 0 by omega) j hj)⟩
/-- What holds of a picture behind the last one told: how it is coded, how far it is told. -/
structure StepOk (W H ev s : Int) (i : Nat) (L p : Pt) : Prop where
  mv : (i : Int) % ev ≠ 0 → movE L.d L.g L.zs p.d p.g p.zs s = 0
  tl : tlE W H s L (cdS ev s i L p) = 0
  d : (tlS W H s L (cdS ev s i L p)).d = W
  g : (tlS W H s L (cdS ev s i L p)).g = H
  ok : PicOk W H (tlS W H s L (cdS ev s i L p)).zs
  near : unl p.zs (tlS W H s L (cdS ev s i L p)).zs p.zs.length ≤ s / 2
  wf : ∀ r ∈ (cdS ev s i L p).rs, -255 ≤ r ∧ r ≤ 255
  len : (cdS ev s i L p).rs.length = p.zs.length
theorem step_ok {W H ev s : Int} {i : Nat} {L p : Pt} (hs : 1 ≤ s) (hs2 : s ≤ 64) (hd : p.d = W) (hg : p.g = H) (hp : PicOk W H p.zs) (hL : (i : Int) % ev ≠ 0 → L.d = W ∧ L.g = H ∧ PicOk W H L.zs) : StepOk W H ev s i L p := by
  obtain ⟨pd, pg, zs⟩ := p
  obtain ⟨ld, lg, ls⟩ := L
  simp only at hd hg hp hL
  subst hd hg
  have hlen := hp.len
  by_cases h0 : (i : Int) % ev = 0
  · have hc : cdS ev s i ⟨ld, lg, ls⟩ ⟨pd, pg, zs⟩ = ⟨true, 0, 0, (cod zs pd.toNat s zs.length).1⟩ := by unfold cdS; rw [if_pos h0]
    have hbd := cod_bd zs pd.toNat s hs hp.pix zs.length
    have hl := cod_len1 zs pd.toNat s zs.length
    have hl2 := cod_len2 zs pd.toNat s zs.length
    have he : dcE pd pg s (cod zs pd.toNat s zs.length).1 = 0 := dcE_of hp.w1 hp.w6 hp.h1 hp.h6 hs hs2 (by rw [hl]; exact hlen) hbd
    have e1 : tldE ld lg ls pd pg s true 0 0 (cod zs pd.toNat s zs.length).1 = 0 := by unfold tldE; rw [if_neg (by simp), if_neg (by simp), he]
    have e2 : tldD ld lg ls pd pg s true 0 0 (cod zs pd.toNat s zs.length).1 = pd := by unfold tldD tolD; rw [if_neg (by simp), if_neg (by simp), if_pos he]
    have e3 : tldG ld lg ls pd pg s true 0 0 (cod zs pd.toNat s zs.length).1 = pg := by unfold tldG tolG; rw [if_neg (by simp), if_neg (by simp), if_pos he]
    have e4 : tldR ld lg ls pd pg s true 0 0 (cod zs pd.toNat s zs.length).1 = (cod zs pd.toNat s zs.length).2 := by
      unfold tldR tolR; rw [if_neg (by simp), if_neg (by simp), if_pos he, hl]; exact tel_cod zs pd.toNat s zs.length zs.length (Nat.le_refl _)
    have e4' : (tlS pd pg s ⟨ld, lg, ls⟩ ⟨true, 0, 0, (cod zs pd.toNat s zs.length).1⟩).zs = (cod zs pd.toNat s zs.length).2 := e4
    refine ⟨fun h => absurd h0 h, ?_, ?_, ?_, ?_, ?_, ?_, ?_⟩
    all_goals rw [hc]
    · exact e1
    · exact e2
    · exact e3
    · rw [e4']
      exact ⟨hp.w1, hp.w6, hp.h1, hp.h6, by rw [hl2]; exact hlen, cod_pix zs pd.toNat s zs.length⟩
    · rw [e4']
      exact cod_near zs pd.toNat s hs hp.pix zs.length
    · exact hbd
    · exact hl
  · obtain ⟨h1, h2, hLp⟩ := hL h0
    subst h1 h2
    have hc : cdS ev s i ⟨ld, lg, ls⟩ ⟨ld, lg, zs⟩ = ⟨false, menX ld lg ls ld lg zs s, menY ld lg ls ld lg zs s, menR ld lg ls ld lg zs s⟩ := by unfold cdS; rw [if_neg h0]
    have ha : alkE ld lg ls ld lg zs = 0 := alkE_zero.2 ⟨chkPic_of hLp, chkPic_of hp, rfl, rfl⟩
    have hm : movE ld lg ls ld lg zs s = 0 := movE_of ha hs hs2
    have hll : ls.length = zs.length := by have := hLp.len; omega
    have e1 : menX ld lg ls ld lg zs s = mvX (bI ld lg ls zs) := by unfold menX; rw [if_pos hm]
    have e2 : menY ld lg ls ld lg zs s = mvY (bI ld lg ls zs) := by unfold menY; rw [if_pos hm]
    have e3 : menR ld lg ls ld lg zs s = mrs (shI ld lg ls (mvX (bI ld lg ls zs)) (mvY (bI ld lg ls zs))) zs s ls.length := by unfold menR; rw [if_pos hm]
    rw [e1, e2, e3] at hc
    have hbm := mv_bd (bI ld lg ls zs) (bI_lt ld lg ls zs)
    obtain ⟨mx, hmx⟩ : ∃ m, m = mvX (bI ld lg ls zs) := ⟨_, rfl⟩
    obtain ⟨my, hmy⟩ : ∃ m, m = mvY (bI ld lg ls zs) := ⟨_, rfl⟩
    rw [← hmx, ← hmy] at hc hbm
    have hsl : (shI ld lg ls mx my).length = ls.length := shI_length ld lg ls mx my
    have hsp : ∀ z ∈ shI ld lg ls mx my, 0 ≤ z ∧ z ≤ 255 := fun z hz => shf_mem hLp.pix z hz
    have hbd := mrs_bd (ss := shI ld lg ls mx my) (ys := zs) hs hsp hp.pix ls.length
    have hl : (mrs (shI ld lg ls mx my) zs s ls.length).length = ls.length := mrs_length _ _ _ _
    have he : behE ld lg ls false mx my (mrs (shI ld lg ls mx my) zs s ls.length) s = 0 := behE_of (chkPic_of hLp) hs hs2 hbm (rstE_of (by rw [hl]) hbd)
    have e4 : tldE ld lg ls ld lg s false mx my (mrs (shI ld lg ls mx my) zs s ls.length) = 0 := by unfold tldE; rw [if_pos rfl, he]
    have e5 : tldD ld lg ls ld lg s false mx my (mrs (shI ld lg ls mx my) zs s ls.length) = ld := by unfold tldD behD; rw [if_pos rfl, if_pos he]
    have e6 : tldG ld lg ls ld lg s false mx my (mrs (shI ld lg ls mx my) zs s ls.length) = lg := by unfold tldG behG; rw [if_pos rfl, if_pos he]
    have e7 : tldR ld lg ls ld lg s false mx my (mrs (shI ld lg ls mx my) zs s ls.length) = mtl (shI ld lg ls mx my) (mrs (shI ld lg ls mx my) zs s ls.length) s ls.length := by unfold tldR behR; rw [if_pos rfl, if_pos he]
    have e7' : (tlS ld lg s ⟨ld, lg, ls⟩ ⟨false, mx, my, mrs (shI ld lg ls mx my) zs s ls.length⟩).zs = mtl (shI ld lg ls mx my) (mrs (shI ld lg ls mx my) zs s ls.length) s ls.length := e7
    refine ⟨fun _ => hm, ?_, ?_, ?_, ?_, ?_, ?_, ?_⟩
    all_goals rw [hc]
    · exact e4
    · exact e5
    · exact e6
    · rw [e7']
      exact ⟨hp.w1, hp.w6, hp.h1, hp.h6, by rw [mtl_length, hsl]; exact hLp.len, mtl_pix hsp⟩
    · rw [e7']
      show unl zs _ zs.length ≤ _
      rw [← hll]
      exact mtl_near (shI ld lg ls mx my) zs s hs hp.pix ls.length hsl.symm
    · exact hbd
    · show (mrs _ _ _ _).length = zs.length
      rw [hl, hll]
/-- All pictures of a film. -/
theorem film_ok {ps : List Pt} {ev s : Int} (h : FOk ps ev s) : ∀ k, k ≤ ps.length →
    (∀ i, i < k → StepOk (ps.getD 0 default).d (ps.getD 0 default).g ev s i (sht ps ev s i).2 (ps.getD i default)) ∧
    (1 ≤ k → (sht ps ev s k).2.d = (ps.getD 0 default).d ∧ (sht ps ev s k).2.g = (ps.getD 0 default).g ∧ PicOk (ps.getD 0 default).d (ps.getD 0 default).g (sht ps ev s k).2.zs) := by
  intro k
  induction k with
  | zero => exact fun _ => ⟨fun i hi => by omega, fun h => by omega⟩
  | succ k ih =>
    intro hk
    obtain ⟨h1, h2⟩ := ih (by omega)
    obtain ⟨hp, hd, hg⟩ := h.pic k (by omega)
    have hst := step_ok (ev := ev) (i := k) (L := (sht ps ev s k).2) (p := ps.getD k default) h.s1 h.s64 hd hg hp (fun hne => h2 (by
      by_cases hk0 : k = 0
      · subst hk0; exact absurd (Int.zero_emod ev) hne
      · omega))
    refine ⟨fun i hi => ?_, fun _ => ?_⟩
    · by_cases he : i = k
      · rw [he]; exact hst
      · exact h1 i (by omega)
    · rw [sht_succ]
      show (tlS _ _ _ _ _).d = _ ∧ _
      rw [hd, hg]
      exact ⟨hst.d, hst.g, hst.ok⟩

/-- the first k coded pictures told, and the last one; the first fault among them -/
def dst (W H s : Int) (cs : List Ct) : Nat → List Pt × Pt
  | 0 => ([], default)
  | k + 1 => ((dst W H s cs k).1 ++ [tlS W H s (dst W H s cs k).2 (cs.getD k default)], tlS W H s (dst W H s cs k).2 (cs.getD k default))
def dstE (W H s : Int) (cs : List Ct) : Nat → Nat
  | 0 => 0
  | k + 1 => if dstE W H s cs k ≠ 0 then dstE W H s cs k else tlE W H s (dst W H s cs k).2 (cs.getD k default)
theorem dst_succ (W H s : Int) (cs : List Ct) (k : Nat) : dst W H s cs (k + 1) = ((dst W H s cs k).1 ++ [tlS W H s (dst W H s cs k).2 (cs.getD k default)], tlS W H s (dst W H s cs k).2 (cs.getD k default)) := rfl
theorem dst_len (W H s : Int) (cs : List Ct) : ∀ k, (dst W H s cs k).1.length = k
  | 0 => rfl
  | k + 1 => by rw [dst_succ, List.length_append, dst_len]; rfl
theorem dstE_stop (W H s : Int) (cs : List Ct) (k : Nat) (h : dstE W H s cs k ≠ 0) : ∀ m, k ≤ m → dstE W H s cs m = dstE W H s cs k := by
  intro m hm
  induction m with
  | zero => rw [show k = 0 by omega]
  | succ m ih =>
    by_cases he : k = m + 1
    · rw [he]
    · have := ih (by omega)
      rw [dstE, if_pos (by rw [this]; exact h), this]
def fdE (W H s : Int) (cs : List Ct) : Nat := if fchkE cs.length ≠ 0 then fchkE cs.length else if sideB W = false ∨ sideB H = false ∨ stepB s = false then 1 else if (cs.getD 0 default).al = false then 3 else dstE W H s cs cs.length
def fdL (W H s : Int) (cs : List Ct) : List Pt := if fdE W H s cs = 0 then (dst W H s cs cs.length).1 else []
end Go.Proofs.YtooepflfofgnnaaDoor
