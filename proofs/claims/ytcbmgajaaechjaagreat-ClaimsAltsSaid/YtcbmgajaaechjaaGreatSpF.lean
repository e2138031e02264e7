/- intervals and sets of numbers, in plain words: what the code and the reference make of them. -/
import Derived.Test.YtcbmgajaaechjaaGreatSpD
import Derived.Test.YtcbmgajaaechjaaGreatSpE
import Derived.Test.YtcbmgajaaechjaaGreatRatio2
namespace Go.Proofs.YtcbmgajaaechjaaGreat
set_option linter.unusedVariables false
set_option linter.unusedSimpArgs false
structure Itv where
  lo : Rat2
  hi : Rat2
  loO : Bool
  hiO : Bool
  loI : Bool
  hiI : Bool
  deriving DecidableEq
def smallB (r : Rat2) : Bool := decide (RatOk r) && decide (r.num.natAbs ≤ 1073741824) && decide (r.den ≤ 32768)
theorem smallB_iff {r : Rat2} : smallB r = true ↔ RatOk r ∧ r.num.natAbs ≤ 1073741824 ∧ r.den ≤ 32768 := by
  simp [smallB, and_assoc]
theorem RatOk.ok {r : Rat2} (h : RatOk r) : r.ok := ⟨by have := h.1; omega, h.2.2.2⟩
theorem smallB_ok {r : Rat2} (h : smallB r = true) : r.ok := (smallB_iff.1 h).1.ok
def botE : En := ⟨-1, ⟨0, 0⟩, false⟩
def topE : En := ⟨1, ⟨0, 0⟩, false⟩
def loE (x : Itv) : En := if x.loI then botE else ⟨0, x.lo, x.loO⟩
def hiE (x : Itv) : En := if x.hiI then topE else ⟨0, x.hi, !x.hiO⟩
def betw (lo hi : En) : Itv := ⟨if lo.far ≠ 0 then ⟨0, 0⟩ else lo.at', if hi.far ≠ 0 then ⟨0, 0⟩ else hi.at', if lo.far ≠ 0 then false else lo.aft, if hi.far ≠ 0 then false else !hi.aft, decide (lo.far ≠ 0), decide (hi.far ≠ 0)⟩
def limB (r : Rat2) (o inf : Bool) : Bool := if inf then r == ⟨0, 0⟩ && !o else smallB r
def goodB (x : Itv) : Bool := limB x.lo x.loO x.loI && limB x.hi x.hiO x.hiI && lessE (loE x) (hiE x)
/-- an end that is small -/
def En.sm (e : En) : Prop := (e.far = 0 ∧ smallB e.at' = true) ∨ e = botE ∨ e = topE
theorem En.sm.ok {e : En} (h : e.sm) : e.ok := by
  rcases h with ⟨h1, h2⟩ | rfl | rfl
  · exact .inl ⟨h1, smallB_ok h2⟩
  · exact .inr ⟨.inl rfl, rfl, rfl⟩
  · exact .inr ⟨.inr rfl, rfl, rfl⟩
theorem limB_lo {x : Itv} (h : limB x.lo x.loO x.loI = true) : (loE x).sm := by
  unfold loE
  unfold limB at h
  split
  · exact .inr (.inl rfl)
  · rename_i hi
    rw [if_neg hi] at h
    exact .inl ⟨rfl, h⟩
theorem limB_hi {x : Itv} (h : limB x.hi x.hiO x.hiI = true) : (hiE x).sm := by
  unfold hiE
  unfold limB at h
  split
  · exact .inr (.inr rfl)
  · rename_i hi
    rw [if_neg hi] at h
    exact .inl ⟨rfl, h⟩
theorem goodB_iff {x : Itv} : goodB x = true ↔ limB x.lo x.loO x.loI = true ∧ limB x.hi x.hiO x.hiI = true ∧ lessE (loE x) (hiE x) = true := by
  simp [goodB, and_assoc]
theorem goodB.lo {x : Itv} (h : goodB x = true) : (loE x).sm := limB_lo (goodB_iff.1 h).1
theorem goodB.hi {x : Itv} (h : goodB x = true) : (hiE x).sm := limB_hi (goodB_iff.1 h).2.1
theorem goodB.lt {x : Itv} (h : goodB x = true) : lessE (loE x) (hiE x) = true := (goodB_iff.1 h).2.2
theorem betw_ends {x : Itv} (h : goodB x = true) : betw (loE x) (hiE x) = x := by
  obtain ⟨h1, h2, -⟩ := goodB_iff.1 h
  obtain ⟨lo, hi, lO, hO, lI, hI⟩ := x
  unfold limB at h1 h2
  unfold betw loE hiE
  cases lI <;> cases hI <;> simp_all [botE, topE]
theorem lessE_far {a b : En} (h : lessE a b = true) : a.far ≤ b.far := by
  unfold lessE at h
  split at h
  · have := of_decide_eq_true h; omega
  · rename_i h1; omega
theorem lessE_inf {a b : En} (h : lessE a b = true) (h0 : a.far = b.far) : a.far = 0 := by
  unfold lessE at h
  rw [if_neg (by omega)] at h
  split at h
  · cases h
  · omega
theorem betw_good {a b : En} (ha : a.sm) (hb : b.sm) (h : lessE a b = true) : goodB (betw a b) = true ∧ loE (betw a b) = a ∧ hiE (betw a b) = b := by
  have h1 := lessE_far h
  have h2 := lessE_inf h
  have ea : loE (betw a b) = a := by
    rcases ha with ⟨h3, h4⟩ | rfl | rfl
    · obtain ⟨f, r, t⟩ := a
      simp only at h3; subst h3
      simp [loE, betw]
    · simp [loE, betw, botE]
    · exfalso
      rcases hb with ⟨h3, -⟩ | rfl | rfl
      · rw [h3] at h1; simp [topE] at h1
      · simp [topE, botE] at h1
      · exact absurd (h2 rfl) (by simp [topE])
  have eb : hiE (betw a b) = b := by
    rcases hb with ⟨h3, h4⟩ | rfl | rfl
    · obtain ⟨f, r, t⟩ := b
      simp only at h3; subst h3
      simp [hiE, betw]
    · exfalso
      rcases ha with ⟨h3, -⟩ | rfl | rfl
      · rw [h3] at h1; simp [botE] at h1
      · exact absurd (h2 rfl) (by simp [botE])
      · simp [topE, botE] at h1
    · simp [hiE, betw, topE]
  refine ⟨goodB_iff.2 ⟨?_, ?_, by rw [ea, eb]; exact h⟩, ea, eb⟩
  · rcases ha with ⟨h3, h4⟩ | rfl | rfl
    · simp [limB, betw, h3, h4]
    · simp [limB, betw, botE]
    · simp [limB, betw, topE]
  · rcases hb with ⟨h3, h4⟩ | rfl | rfl
    · simp [limB, betw, h3, h4]
    · simp [limB, betw, botE]
    · simp [limB, betw, topE]
/-- what begins at e is in the interval, in the set -/
def insB (x : Itv) (e : En) : Bool := !lessE e (loE x) && lessE e (hiE x)
def covB (l : List Itv) (e : En) : Bool := l.any fun x => insB x e
/-- the error of a set -/
def setF : Option Itv → List Itv → Bool
  | _, [] => true
  | p, x :: r => goodB x && (match p with | none => true | some y => lessE (hiE y) (loE x)) && setF (some x) r
def setE (l : List Itv) : Int := if setF none l = false then 1 else if 32 < l.length then 4 else 0
/-- whether a ratio is a number of an interval -/
def hasB (x : Itv) (r : Rat2) : Bool := insB x ⟨0, r, false⟩
/-- the marks along a list of ends -/
def marks (keep : List Bool → Bool) (ls : List (List Itv)) (E : List En) : List (En × Bool) := E.map fun e => (e, decide (e.far ≠ 1) && keep (ls.map fun l => covB l e))
def pairs (l : List (En × En)) : List Itv := l.map fun i => betw i.1 i.2
def lessR (a b : Rat2) : Bool := decide (a.num * b.den < b.num * a.den)
def putR : List Rat2 → Rat2 → List Rat2
  | [], r => [r]
  | p :: l, r => if lessR p r then p :: putR l r else if p = r then p :: l else r :: p :: l
def ptsX (a : List Rat2) (x : Itv) : List Rat2 :=
  let b := if x.loI then a else putR a x.lo
  if x.hiI then b else putR b x.hi
def ptsL (l : List Itv) : List Rat2 := l.foldl ptsX []
def starts (ps : List Rat2) : List En := botE :: ps.flatMap fun p => [⟨0, p, false⟩, ⟨0, p, true⟩]
/-- the set of the ends for which keep says so -/
def combF (keep : List Bool → Bool) (ls : List (List Itv)) : List Itv := pairs (runZ none (marks keep ls (starts (ptsL ls.flatten) ++ [topE])))
/-- what comes back -/
def fewE (l : List Itv) : List Itv × Int := if 32 < l.length then ([], 4) else (l, 0)
noncomputable def toT (e : En) : EnT := @dite _ e.ok (Classical.propDecidable _) (fun h => ⟨e, h⟩) (fun _ => ⟨botE, En.sm.ok (.inr (.inl rfl))⟩)
theorem toT_val {e : En} (h : e.ok) : (toT e).1 = e := by unfold toT; rw [dif_pos h]
theorem toT_lt {a b : En} (ha : a.ok) (hb : b.ok) : ltE (toT a) (toT b) ↔ lessE a b = true := by unfold ltE; rw [toT_val ha, toT_val hb]
theorem ltE_top {x : EnT} (h : ¬ ltE x (toT topE)) : x.1.far = 1 := by
  have ht : (topE).ok := En.sm.ok (.inr (.inr rfl))
  by_cases hf : x.1.far = 1
  · exact hf
  · exfalso
    apply h
    unfold ltE lessE
    have he : topE.far = 1 := rfl
    rw [toT_val ht, he, if_pos hf]
    have : x.1.far < 1 := by
      rcases x.2 with h1 | ⟨h1, -⟩
      · omega
      · omega
    simpa using this
theorem ltE_ntop {a b : EnT} (h : ltE a b) : a.1.far ≠ 1 := by
  intro h1
  have h2 := lessE_far h
  have h3 := lessE_inf h
  rcases b.2 with h4 | ⟨h4, -⟩
  · omega
  · have := h3 (by omega); omega
theorem ltE_bot {x : EnT} : ¬ ltE x (toT botE) := by
  have ht : (botE).ok := En.sm.ok (.inr (.inl rfl))
  intro h
  have h1 := lessE_far h
  have h3 := lessE_inf h
  rw [toT_val ht] at h1 h3
  have : botE.far = -1 := rfl
  rcases x.2 with h4 | ⟨h4, -⟩
  · omega
  · have := h3 (by omega); omega
/-- E is a list of ends that tells all of the ends of ls -/
structure Ends (ls : List (List Itv)) (E : List En) : Prop where
  shape : ∃ es, E = botE :: es ++ [topE]
  sm : ∀ e ∈ E, e.sm
  asc : E.Pairwise fun a b => lessE a b = true
  all : ∀ l ∈ ls, ∀ x ∈ l, loE x ∈ E ∧ hiE x ∈ E
def setP (keep : List Bool → Bool) (ls : List (List Itv)) (x : EnT) : Prop := x.1.far ≠ 1 ∧ keep (ls.map fun l => covB l x.1) = true
theorem Ends.seg {keep : List Bool → Bool} {ls : List (List Itv)} {E : List En} (h : Ends ls E) : ∃ b r, (marks keep ls E).map (fun z => (toT z.1, z.2)) = (toT botE, b) :: r ∧ Seg ltE (setP keep ls) ((toT botE, b) :: r) := by
  obtain ⟨es, hE⟩ := h.shape
  have hok : ∀ e ∈ E, e.ok := fun e he => (h.sm e he).ok
  have e1 : (marks keep ls E).map (fun z => (toT z.1, z.2)) = (((botE :: es).map toT) ++ [toT topE]).map fun e => (e, decide (e.1.far ≠ 1) && keep (ls.map fun l => covB l e.1)) := by
    have : ((botE :: es).map toT) ++ [toT topE] = E.map toT := by rw [hE]; simp
    rw [this]
    unfold marks
    rw [List.map_map, List.map_map]
    refine List.map_congr_left fun e he => ?_
    simp only [Function.comp, toT_val (hok e he)]
  have hmem : ∀ y ∈ E, toT y ∈ ((botE :: es).map toT) ++ [toT topE] := by
    intro y hy
    rw [hE] at hy
    rcases List.mem_append.1 hy with hy | hy
    · exact List.mem_append_left _ (List.mem_map_of_mem hy)
    · rw [List.mem_singleton.1 hy]; simp
  have hseg := seg_of stoE (P := setP keep ls) (fun e => decide (e.1.far ≠ 1) && keep (ls.map fun l => covB l e.1)) ((botE :: es).map toT) (toT topE) ?_ ?_ ?_ ?_ ?_
  · rw [e1]
    exact ⟨_, _, rfl, hseg⟩
  · have : ((botE :: es).map toT) ++ [toT topE] = E.map toT := by rw [hE]; simp
    rw [this, List.pairwise_map]
    exact h.asc.imp_of_mem fun ha hb hab => (toT_lt (hok _ ha) (hok _ hb)).2 hab
  · intro a ha
    unfold setP
    simp
  · intro x hx hp
    exact hp.1 (ltE_top hx)
  · have : (toT topE).1.far = 1 := by rw [toT_val (En.sm.ok (.inr (.inr rfl)))]; rfl
    simp [this]
  · intro a x ha hax hnx
    have hxt : ltE x (toT topE) := by
      refine hnx _ (by simp) ?_
      obtain ⟨e, he, rfl⟩ := List.mem_map.1 ha
      have hasc := h.asc
      rw [hE] at hasc
      have := (List.pairwise_append.1 hasc).2.2 e he topE (by simp)
      exact (toT_lt (hok e (by rw [hE]; exact List.mem_append_left _ he)) (En.sm.ok (.inr (.inr rfl)))).2 this
    have h1 := ltE_ntop hxt
    have h2 := ltE_ntop hax
    have hcov : ls.map (fun l => covB l x.1) = ls.map (fun l => covB l a.1) := by
      refine List.map_congr_left fun l hl => ?_
      unfold covB
      refine Bool.eq_iff_iff.2 ?_
      simp only [List.any_eq_true]
      have hsame : ∀ e ∈ E, lessE x.1 e = lessE a.1 e := by
        intro e he
        have hv := toT_val (hok e he)
        rw [Bool.eq_iff_iff]
        have r1 : lessE x.1 e = true ↔ ltE x (toT e) := by unfold ltE; rw [hv]
        have r2 : lessE a.1 e = true ↔ ltE a (toT e) := by unfold ltE; rw [hv]
        rw [r1, r2]
        exact ⟨fun hx => stoE.trans _ _ _ hax hx, fun hx => hnx _ (hmem e he) hx⟩
      have hi : ∀ y ∈ l, insB y x.1 = insB y a.1 := by
        intro y hy
        obtain ⟨m1, m2⟩ := h.all l hl y hy
        unfold insB
        rw [hsame _ m1, hsame _ m2]
      constructor
      · rintro ⟨y, hy, hyy⟩; exact ⟨y, hy, by rw [← hi y hy]; exact hyy⟩
      · rintro ⟨y, hy, hyy⟩; exact ⟨y, hy, by rw [hi y hy]; exact hyy⟩
    unfold setP
    rw [hcov]
    simp [h1, h2]
theorem pairs_T {zs : List (En × Bool)} (hz : ∀ z ∈ zs, z.1.ok) : pairs (runZ none zs) = (runZ none (zs.map fun z => (toT z.1, z.2))).map fun i => betw i.1.1 i.2.1 := by
  have := runZ_map toT zs none
  rw [Option.map_none] at this
  rw [this, List.map_map]
  unfold pairs
  refine List.map_congr_left fun i hi => ?_
  obtain ⟨h1, z2, hz2, e2⟩ := runZ_mem zs none i hi
  rcases h1 with ⟨z1, hz1, e1⟩ | h1
  · have k1 := hz z1 hz1
    have k2 := hz z2 hz2
    rw [e1] at k1
    rw [e2] at k2
    simp only [Function.comp, toT_val k1, toT_val k2]
  · cases h1
theorem marks_ok {keep : List Bool → Bool} {ls : List (List Itv)} {E : List En} (h : ∀ e ∈ E, e.sm) : ∀ z ∈ marks keep ls E, z.1.ok := by
  intro z hz
  obtain ⟨e, he, rfl⟩ := List.mem_map.1 hz
  exact (h e he).ok
/-- two lists of ends make the same set -/
theorem Ends.uniq {keep : List Bool → Bool} {ls : List (List Itv)} {E F : List En} (h : Ends ls E) (k : Ends ls F) : pairs (runZ none (marks keep ls E)) = pairs (runZ none (marks keep ls F)) := by
  rw [pairs_T (marks_ok h.sm), pairs_T (marks_ok k.sm)]
  obtain ⟨b, r, e1, s1⟩ := h.seg (keep := keep)
  obtain ⟨c, s, e2, s2⟩ := k.seg (keep := keep)
  rw [e1, e2, runZ_uniq stoE (fun x => ltE_bot) s1 s2]
end Go.Proofs.YtcbmgajaaechjaaGreat
