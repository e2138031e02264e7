/- plain laws of lists of claims: what is valid, meanings, alternatives. -/
import Derived.Test.YtcbmgajaaechjaaGreatFmL
namespace Go.Proofs.YtcbmgajaaechjaaGreat
open Go.RowKit
set_option linter.unusedSimpArgs false
set_option linter.unusedVariables false
structure Cl where
  refs : List Int
  body : Fm
/-- references: strictly increasing, above last, below i -/
def refsB (i : Int) : Int → List Int → Bool
  | _, [] => true
  | last, r :: rs => decide (last < r) && decide (r < i) && refsB i r rs
theorem refsB_mem {i : Int} : ∀ {l : List Int} {last : Int}, refsB i last l = true → ∀ r ∈ l, last < r ∧ r < i
  | [], _, _, r, hr => by cases hr
  | x :: xs, last, h, r, hr => by
    simp only [refsB, Bool.and_eq_true, decide_eq_true_eq] at h
    rcases List.mem_cons.1 hr with rfl | hr
    · exact h.1
    · have := refsB_mem h.2 r hr; omega
theorem refsB_asc {i : Int} : ∀ {l : List Int} {last : Int}, refsB i last l = true → l.Pairwise (· < ·)
  | [], _, _ => .nil
  | x :: xs, last, h => by
    simp only [refsB, Bool.and_eq_true, decide_eq_true_eq] at h
    exact .cons (fun y hy => (refsB_mem h.2 y hy).1) (refsB_asc h.2)
theorem refsB_of {i : Int} : ∀ {l : List Int} {last : Int}, (∀ r ∈ l, last < r ∧ r < i) → l.Pairwise (· < ·) → refsB i last l = true
  | [], _, _, _ => rfl
  | x :: xs, last, h, hp => by
    simp only [refsB, Bool.and_eq_true, decide_eq_true_eq]
    obtain ⟨h1, h2⟩ := List.pairwise_cons.1 hp
    exact ⟨h x (by simp), refsB_of (fun r hr => ⟨h1 r hr, (h r (by simp [hr])).2⟩) h2⟩
def clErr (c : Cl) (i : Nat) : Int := if 8 < c.refs.length then 4 else if refsB i (-1) c.refs then validF c.body else 1
def clErrs : Nat → List Cl → Int
  | _, [] => 0
  | i, c :: cs => if clErr c i ≠ 0 then clErr c i else clErrs (i + 1) cs
def validC (l : List Cl) : Int := if 32 < l.length then 4 else clErrs 0 l
theorem clErrs_0 : ∀ {l : List Cl} {n : Nat}, clErrs n l = 0 ↔ ∀ i (h : i < l.length), clErr l[i] (n + i) = 0
  | [], n => by simp [clErrs]
  | c :: cs, n => by
    rw [clErrs]
    split
    · rename_i h
      constructor
      · intro h2; exact absurd h2 h
      · intro h2; exact absurd (h2 0 (by simp)) (by simpa using h)
    · rename_i h
      rw [clErrs_0]
      constructor
      · intro h2 i hi
        cases i with
        | zero => simpa using h
        | succ i => have := h2 i (by simpa using hi); rw [show n + 1 + i = n + (i + 1) by omega] at this; simpa using this
      · intro h2 i hi
        have := h2 (i + 1) (by simpa using hi); rw [show n + (i + 1) = n + 1 + i by omega] at this; simpa using this
/-- the first error among the claims -/
theorem clErrs_at : ∀ {l : List Cl} {n : Nat} (k : Nat) (h : k < l.length), (∀ i (h : i < l.length), i < k → clErr l[i] (n + i) = 0) → clErr l[k] (n + k) ≠ 0 → clErrs n l = clErr l[k] (n + k)
  | [], n, k, h, _, _ => by simp at h
  | c :: cs, n, 0, h, _, h2 => by rw [clErrs, if_pos (by simpa using h2)]; rfl
  | c :: cs, n, k + 1, h, h1, h2 => by
    have h0 := h1 0 (by simp) (by omega)
    rw [clErrs, if_neg (by simpa using h0)]
    have h3 : n + (k + 1) = n + 1 + k := by omega
    rw [h3] at h2 ⊢
    rw [clErrs_at k (by simpa using h) (fun i hi hik => ?_) (by simpa using h2)]
    · rfl
    · have := h1 (i + 1) (by simpa using hi) (by omega)
      rw [show n + (i + 1) = n + 1 + i by omega] at this
      simpa using this
theorem clErr_0 {c : Cl} {i : Nat} : clErr c i = 0 ↔ c.refs.length ≤ 8 ∧ refsB i (-1) c.refs = true ∧ validF c.body = 0 := by
  unfold clErr
  constructor
  · intro h
    split at h
    · cases h
    · split at h
      · rename_i h1 h2; exact ⟨by omega, h2, h⟩
      · cases h
  · rintro ⟨h1, h2, h3⟩; rw [if_neg (by omega), if_pos h2, h3]
theorem validC_0 {l : List Cl} (h : validC l = 0) : l.length ≤ 32 ∧ ∀ i (h : i < l.length), l[i].refs.length ≤ 8 ∧ refsB i (-1) l[i].refs = true ∧ validF l[i].body = 0 := by
  unfold validC at h
  split at h
  · cases h
  · refine ⟨by omega, fun i hi => ?_⟩
    have := clErrs_0.1 h i hi
    rw [Nat.zero_add] at this
    exact clErr_0.1 this
theorem validC_of {l : List Cl} (h : l.length ≤ 32) (h2 : ∀ i (h : i < l.length), l[i].refs.length ≤ 8 ∧ refsB i (-1) l[i].refs = true ∧ validF l[i].body = 0) : validC l = 0 := by
  unfold validC
  rw [if_neg (by omega)]
  exact clErrs_0.2 fun i hi => by rw [Nat.zero_add]; exact clErr_0.2 (h2 i hi)
/-- the errors of a list and an index -/
def checkC (l : List Cl) (i : Int) : Int := if validC l ≠ 0 then validC l else if i < 0 ∨ (l.length : Int) ≤ i then 7 else 0
theorem checkC_0 {l : List Cl} {i : Int} (h : checkC l i = 0) : validC l = 0 ∧ 0 ≤ i ∧ i < l.length := by
  unfold checkC at h
  split at h
  · rename_i h1; exact absurd h h1
  · split at h
    · cases h
    · exact ⟨by omega, by omega, by omega⟩
def noF : Fm := .mk 0 0 [] []
def andF (b : Fm) (ms : List Fm) : Fm := .mk 4 0 [] [b, .mk 5 0 [] ms]
def at? {α : Type} (acc : List (Option α)) (r : Int) : Option α := (acc[r.toNat]?).join
def kidsOf (acc : List (Option Fm)) (refs : List Int) : List Fm := refs.map fun r => (at? acc r).getD noF
def goodOf {α : Type} (acc : List (Option α)) (refs : List Int) : Bool := refs.all fun r => (at? acc r).isSome
/-- the meaning of a claim, by those of earlier ones -/
def meanOf (acc : List (Option Fm)) (c : Cl) : Option Fm :=
  if c.refs = [] then some c.body else if goodOf acc c.refs = true ∧ validF (andF c.body (kidsOf acc c.refs)) = 0 then some (andF c.body (kidsOf acc c.refs)) else none
theorem snoc_ind {α : Type} {P : List α → Prop} (h0 : P []) (h1 : ∀ l x, P l → P (l ++ [x])) (l : List α) : P l := by
  have h : ∀ m : List α, P m.reverse := by
    intro m
    induction m with
    | nil => exact h0
    | cons x m ih => rw [List.reverse_cons]; exact h1 _ _ ih
  have := h l.reverse
  rwa [List.reverse_reverse] at this
/-- a table that is filled from left to right -/
def tabl {α : Type} (f : List (Option α) → Cl → Option α) (l : List Cl) : List (Option α) := l.foldl (fun acc c => acc ++ [f acc c]) []
section
variable {α : Type} {f : List (Option α) → Cl → Option α}
theorem tabl_snoc (l : List Cl) (c : Cl) : tabl f (l ++ [c]) = tabl f l ++ [f (tabl f l) c] := by simp [tabl, List.foldl_append]
theorem tabl_len (l : List Cl) : (tabl f l).length = l.length := by
  induction l using snoc_ind with
  | h0 => rfl
  | h1 l c ih => rw [tabl_snoc, List.length_append, ih]; simp
theorem tabl_app (l m : List Cl) : ∃ r, tabl f (l ++ m) = tabl f l ++ r := by
  induction m using snoc_ind with
  | h0 => exact ⟨[], by simp⟩
  | h1 m c ih =>
    obtain ⟨r, hr⟩ := ih
    rw [← List.append_assoc, tabl_snoc, hr]
    exact ⟨_, List.append_assoc ..⟩
theorem tabl_take (l : List Cl) (k : Nat) : tabl f (l.take k) = (tabl f l).take k := by
  obtain ⟨r, hr⟩ := tabl_app (f := f) (l.take k) (l.drop k)
  rw [List.take_append_drop] at hr
  have h := tabl_len (f := f) (l.take k)
  by_cases hk : k ≤ l.length
  · rw [hr, List.take_left' (by rw [h, List.length_take]; omega)]
  · rw [List.take_of_length_le (by omega), List.take_of_length_le (by rw [tabl_len]; omega)]
theorem tabl_get (l : List Cl) (k : Nat) (h : k < l.length) : (tabl f l)[k]? = some (f (tabl f (l.take k)) l[k]) := by
  have h1 := tabl_take (f := f) l (k + 1)
  rw [List.take_succ_eq_append_getElem h, tabl_snoc] at h1
  have h2 : (tabl f l)[k]? = ((tabl f l).take (k + 1))[k]? := by rw [List.getElem?_take_of_lt (by omega)]
  rw [h2, ← h1]
  have h3 := tabl_len (f := f) (l.take k)
  rw [List.length_take] at h3
  rw [List.getElem?_append_right (by omega)]
  have : k - (tabl f (l.take k)).length = 0 := by omega
  rw [this]; rfl
theorem tabl_pre (l m : List Cl) (k : Nat) (h : k < l.length) : (tabl f (l ++ m))[k]? = (tabl f l)[k]? := by
  obtain ⟨r, hr⟩ := tabl_app (f := f) l m
  rw [hr, List.getElem?_append_left (by rw [tabl_len]; exact h)]
theorem at?_take (acc : List (Option α)) (k : Nat) (r : Int) (h0 : 0 ≤ r) (h : r < k) : at? (acc.take k) r = at? acc r := by
  unfold at?
  rw [List.getElem?_take_of_lt (by omega)]
end
def meansL : List Cl → List (Option Fm) := tabl meanOf
def meanC (l : List Cl) (i : Nat) : Option Fm := at? (meansL l) i
theorem meanOf_congr {acc acc' : List (Option Fm)} {c : Cl} (h : ∀ r ∈ c.refs, at? acc r = at? acc' r) : meanOf acc c = meanOf acc' c := by
  have h1 : goodOf acc c.refs = goodOf acc' c.refs := by
    unfold goodOf
    rw [Bool.eq_iff_iff, List.all_eq_true, List.all_eq_true]
    exact ⟨fun h2 r hr => by rw [← h r hr]; exact h2 r hr, fun h2 r hr => by rw [h r hr]; exact h2 r hr⟩
  have h2 : kidsOf acc c.refs = kidsOf acc' c.refs := List.map_congr_left fun r hr => by rw [h r hr]
  unfold meanOf
  rw [h1, h2]
/-- each meaning by the meanings of its references -/
theorem meanC_eq {l : List Cl} (hv : validC l = 0) (i : Nat) (h : i < l.length) : meanC l i = meanOf (meansL l) l[i] := by
  unfold meanC at? meansL
  have := tabl_get (f := meanOf) l i h
  simp only [Int.toNat_natCast, this, Option.join_some]
  refine meanOf_congr fun r hr => ?_
  have h1 := refsB_mem ((validC_0 hv).2 i h).2.1 r hr
  rw [tabl_take, at?_take _ _ _ (by omega) h1.2]
theorem meanC_app {l m : List Cl} (i : Nat) (h : i < l.length) : meanC (l ++ m) i = meanC l i := by
  unfold meanC at? meansL
  simp only [Int.toNat_natCast]
  rw [tabl_pre l m i h]
theorem meanC_valid {l : List Cl} (hv : validC l = 0) (i : Nat) (h : i < l.length) {f : Fm} (hf : meanC l i = some f) : validF f = 0 := by
  rw [meanC_eq hv i h] at hf
  unfold meanOf at hf
  split at hf
  · cases hf; exact ((validC_0 hv).2 i h).2.2
  · split at hf
    · rename_i h1; cases hf; exact h1.2
    · cases hf
/-! alternatives -/
mutual
def topsF : Fm → List Fm
  | .mk op n inn kids => if op = 5 then topsFs kids else [.mk op n inn kids]
def topsFs : List Fm → List Fm
  | [] => []
  | x :: xs => topsF x ++ topsFs xs
end
theorem topsFs_eq : ∀ l : List Fm, topsFs l = l.flatMap topsF
  | [] => rfl
  | x :: xs => by simp [topsFs, topsFs_eq xs]
theorem topsF_eq (f : Fm) : topsF f = if f.op = 5 then f.kids.flatMap topsF else [f] := by
  cases f; rw [topsF, topsFs_eq]; rfl
theorem flat_le {α β : Type} (g : α → List β) (s : α → Nat) : ∀ l : List α, (∀ x ∈ l, (g x).length ≤ s x) → (l.flatMap g).length ≤ sumN s l
  | [], _ => Nat.le_refl _
  | x :: xs, h => by
    rw [List.flatMap_cons, List.length_append, sumN]
    have := h x (by simp)
    have := flat_le g s xs fun y hy => h y (by simp [hy])
    omega
theorem topsF_len (f : Fm) : (topsF f).length ≤ f.size := by
  induction f using Fm.ind with
  | h f ih =>
    rw [topsF_eq]
    split
    · have := flat_le topsF Fm.size f.kids ih
      rw [Fm.size_eq]; omega
    · have := f.size_pos; simpa using this
/-- the tops are nodes -/
theorem topsF_mem (f : Fm) : ∀ g ∈ topsF f, g ∈ f.pre := by
  induction f using Fm.ind with
  | h f ih =>
    intro g hg
    rw [topsF_eq] at hg
    rw [Fm.pre_eq]
    split at hg
    · obtain ⟨x, hx, hg⟩ := List.mem_flatMap.1 hg
      exact List.mem_cons_of_mem _ (List.mem_flatMap.2 ⟨x, hx, ih x hx g hg⟩)
    · rw [List.mem_singleton.1 hg]; exact List.mem_cons_self
def partsF (f : Fm) : List Fm := if f.op = 4 then f.kids else [f]
def bothF (a b : Fm) : Fm := .mk 4 0 [] (partsF a ++ partsF b)
def prodsF (l own : List Fm) : List Fm := l.flatMap fun a => own.map fun b => bothF a b
def altGo (acc : List (Option (List Fm))) (own : List Fm) : List Fm → List Int → Option (List Fm)
  | out, [] => some out
  | out, r :: rs => match at? acc r with
    | none => none
    | some l => if 64 < out.length + l.length * own.length then none else if (prodsF l own).all (fun f => decide (validF f = 0)) then altGo acc own (out ++ prodsF l own) rs else none
def altOf (acc : List (Option (List Fm))) (c : Cl) : Option (List Fm) :=
  if c.refs = [] then (if (topsF c.body).length ≤ 64 then some (topsF c.body) else none) else altGo acc (topsF c.body) [] c.refs
def altsL : List Cl → List (Option (List Fm)) := tabl altOf
def altC (l : List Cl) (i : Nat) : Option (List Fm) := at? (altsL l) i
theorem altGo_congr {acc acc' : List (Option (List Fm))} {own : List Fm} : ∀ {rs : List Int} {out : List Fm}, (∀ r ∈ rs, at? acc r = at? acc' r) → altGo acc own out rs = altGo acc' own out rs
  | [], _, _ => rfl
  | r :: rs, out, h => by
    rw [altGo, altGo, h r (by simp)]
    cases at? acc' r with
    | none => rfl
    | some l =>
      have e : ∀ out, altGo acc own out rs = altGo acc' own out rs := fun out => altGo_congr fun x hx => h x (by simp [hx])
      simp only [e]
theorem altOf_congr {acc acc' : List (Option (List Fm))} {c : Cl} (h : ∀ r ∈ c.refs, at? acc r = at? acc' r) : altOf acc c = altOf acc' c := by
  unfold altOf
  rw [altGo_congr h]
theorem altC_eq {l : List Cl} (hv : validC l = 0) (i : Nat) (h : i < l.length) : altC l i = altOf (altsL l) l[i] := by
  unfold altC at? altsL
  have := tabl_get (f := altOf) l i h
  simp only [Int.toNat_natCast, this, Option.join_some]
  refine altOf_congr fun r hr => ?_
  have h1 := refsB_mem ((validC_0 hv).2 i h).2.1 r hr
  rw [tabl_take, at?_take _ _ _ (by omega) h1.2]
theorem altC_app {l m : List Cl} (i : Nat) (h : i < l.length) : altC (l ++ m) i = altC l i := by
  unfold altC at? altsL
  simp only [Int.toNat_natCast]
  rw [tabl_pre l m i h]
theorem prodsF_len (l own : List Fm) : (prodsF l own).length = l.length * own.length := by
  unfold prodsF
  induction l with
  | nil => simp
  | cons x xs ih => rw [List.flatMap_cons, List.length_append, ih, List.length_map, List.length_cons, Nat.succ_mul]; omega
theorem altGo_len {acc : List (Option (List Fm))} {own : List Fm} : ∀ {rs : List Int} {out l : List Fm}, out.length ≤ 64 → altGo acc own out rs = some l → l.length ≤ 64
  | [], out, l, h, he => by cases he; exact h
  | r :: rs, out, l, h, he => by
    rw [altGo] at he
    split at he
    · cases he
    · split at he
      · cases he
      · split at he
        · rename_i h1 h2 h3
          refine altGo_len ?_ he
          rw [List.length_append, prodsF_len]; omega
        · cases he
theorem altC_len {l : List Cl} (hv : validC l = 0) (i : Nat) (h : i < l.length) {fs : List Fm} (hf : altC l i = some fs) : fs.length ≤ 64 := by
  rw [altC_eq hv i h] at hf
  unfold altOf at hf
  split at hf
  · split at hf
    · cases hf; assumption
    · cases hf
  · exact altGo_len (by simp) hf
/-- all alternatives are valid -/
theorem wholeB_pre {f g : Fm} (hf : wholeB f = true) : g ∈ f.pre → wholeB g = true := by
  induction f using Fm.ind with
  | h f ih =>
    intro hg
    rw [Fm.pre_eq] at hg
    rw [wholeB_eq, Bool.and_eq_true, List.all_eq_true] at hf
    rcases List.mem_cons.1 hg with rfl | hg
    · rw [wholeB_eq, Bool.and_eq_true, List.all_eq_true]; exact hf
    · obtain ⟨x, hx, hg⟩ := List.mem_flatMap.1 hg
      exact ih x hx (hf.2 x hx) hg
theorem pre_size {f g : Fm} : g ∈ f.pre → g.size ≤ f.size ∧ g.deep ≤ f.deep := by
  induction f using Fm.ind with
  | h f ih =>
    intro hg
    rw [Fm.pre_eq] at hg
    rcases List.mem_cons.1 hg with rfl | hg
    · exact ⟨Nat.le_refl _, Nat.le_refl _⟩
    · obtain ⟨x, hx, hg⟩ := List.mem_flatMap.1 hg
      have h1 := ih x hx hg
      have h2 := sumN_mem Fm.size hx
      have h3 := maxN_mem Fm.deep hx
      rw [Fm.size_eq f, Fm.deep_eq f]
      omega
theorem validF_of {f : Fm} (h1 : f.size ≤ 96) (h2 : f.deep ≤ 8) (h3 : wholeB f = true) : validF f = 0 := by
  unfold validF
  rw [if_neg (by omega), if_pos h3]
theorem validF_pre {f g : Fm} (hf : validF f = 0) (hg : g ∈ f.pre) : validF g = 0 := by
  obtain ⟨h1, h2, h3⟩ := validF_0 hf
  have h4 := pre_size hg
  exact validF_of (by omega) (by omega) (wholeB_pre h3 hg)
theorem altGo_valid {acc : List (Option (List Fm))} {own : List Fm} : ∀ {rs : List Int} {out l : List Fm}, (∀ f ∈ out, validF f = 0) → altGo acc own out rs = some l → ∀ f ∈ l, validF f = 0
  | [], out, l, h, he => by cases he; exact h
  | r :: rs, out, l, h, he => by
    rw [altGo] at he
    split at he
    · cases he
    · split at he
      · cases he
      · split at he
        · rename_i h1 h2 h3
          refine altGo_valid (fun f hf => ?_) he
          rcases List.mem_append.1 hf with hf | hf
          · exact h f hf
          · have := List.all_eq_true.1 h3 f hf; simpa using this
        · cases he
theorem altC_valid {l : List Cl} (hv : validC l = 0) (i : Nat) (h : i < l.length) {fs : List Fm} (hf : altC l i = some fs) : ∀ f ∈ fs, validF f = 0 := by
  rw [altC_eq hv i h] at hf
  unfold altOf at hf
  split at hf
  · split at hf
    · cases hf
      intro f hf
      exact validF_pre ((validC_0 hv).2 i h).2.2 (topsF_mem _ f hf)
    · cases hf
  · exact altGo_valid (by simp) hf
end Go.Proofs.YtcbmgajaaechjaaGreat
