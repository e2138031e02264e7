/- plain laws of formulas: what is formed, and the order of package priorartref07. -/
import Derived.Test.YtcbmgajaaechjaaGreatForm
namespace Go.Proofs.YtcbmgajaaechjaaGreat
open Go.RowKit
set_option linter.unusedSimpArgs false
set_option linter.unusedVariables false
/-- a node is as it should be -/
def formed1 (f : Fm) : Bool :=
  if (f.op ≠ 2 ∧ f.inn ≠ []) ∨ (f.op ≠ 2 ∧ f.op ≠ 1 ∧ f.n ≠ 0) then false
  else if f.op = 0 then f.kids.isEmpty
  else if f.op = 1 then f.kids.isEmpty && decide (0 ≤ f.n) && decide (f.n < 64)
  else if f.op = 2 then f.kids.isEmpty && decide (0 ≤ f.n) && decide (f.n < 32) && decide (setE f.inn = 0)
  else if f.op = 3 ∨ f.op = 6 then decide (f.kids.length = 1)
  else decide (f.op = 4) || decide (f.op = 5)
def wholeB (f : Fm) : Bool := f.pre.all formed1
theorem wholeB_eq (f : Fm) : wholeB f = (formed1 f && f.kids.all wholeB) := by
  unfold wholeB
  rw [Fm.pre_eq, List.all_cons]
  congr 1
  induction f.kids with
  | nil => rfl
  | cons x xs ih => rw [List.flatMap_cons, List.all_append, List.all_cons, ih]
def validF (f : Fm) : Int := if 96 < f.size ∨ 8 < f.deep then 4 else if wholeB f then 0 else 1
theorem validF_0 {f : Fm} (h : validF f = 0) : f.size ≤ 96 ∧ f.deep ≤ 8 ∧ wholeB f = true := by
  unfold validF at h
  split at h
  · cases h
  · split at h
    · rename_i h1 h2; exact ⟨by omega, by omega, h2⟩
    · cases h
def oneI (b : Bool) : Int := if b then 1 else 0
def ordI (x : Itv) : List Int := [oneI x.loI, oneI x.loO, x.lo.num, x.lo.den, oneI x.hiI, oneI x.hiO, x.hi.num, x.hi.den]
def ordF (f : Fm) : List Int := [f.op, f.n, (f.inn.length : Int)] ++ f.inn.flatMap ordI ++ [(f.kids.length : Int)]
def cmpZ : List Int → List Int → Int
  | x :: xs, y :: ys => if x < y then -1 else if y < x then 1 else cmpZ xs ys
  | _, _ => 0
mutual
def cmpF : Fm → Fm → Int
  | .mk o n i k, .mk o' n' i' k' => if cmpZ (ordF (.mk o n i k)) (ordF (.mk o' n' i' k')) ≠ 0 then cmpZ (ordF (.mk o n i k)) (ordF (.mk o' n' i' k')) else cmpFs k k'
def cmpFs : List Fm → List Fm → Int
  | x :: xs, y :: ys => if cmpF x y ≠ 0 then cmpF x y else cmpFs xs ys
  | _, _ => 0
end
theorem cmpF_eq (a b : Fm) : cmpF a b = if cmpZ (ordF a) (ordF b) ≠ 0 then cmpZ (ordF a) (ordF b) else cmpFs a.kids b.kids := by
  cases a; cases b; rfl
theorem cmpZ_self : ∀ l : List Int, cmpZ l l = 0
  | [] => rfl
  | x :: xs => by simp [cmpZ, cmpZ_self xs]
theorem cmpZ_0 : ∀ {a b : List Int}, cmpZ a b = 0 → a.length = b.length → a = b
  | [], [], _, _ => rfl
  | [], _ :: _, _, h => by simp at h
  | _ :: _, [], _, h => by simp at h
  | x :: xs, y :: ys, h, hl => by
    rw [cmpZ] at h
    split at h
    · cases h
    · split at h
      · cases h
      · rename_i h1 h2
        have : x = y := by omega
        rw [this, cmpZ_0 h (by simpa using hl)]
theorem cmpZ_pre : ∀ {a b c d : List Int}, cmpZ (a ++ c) (b ++ d) = 0 → a.length = b.length → a = b
  | [], [], _, _, _, _ => rfl
  | [], _ :: _, _, _, _, h => by simp at h
  | _ :: _, [], _, _, _, h => by simp at h
  | x :: xs, y :: ys, c, d, h, hl => by
    rw [List.cons_append, List.cons_append, cmpZ] at h
    split at h
    · cases h
    · split at h
      · cases h
      · rename_i h1 h2
        have : x = y := by omega
        rw [this, cmpZ_pre h (by simpa using hl)]
theorem oneI_inj {a b : Bool} (h : oneI a = oneI b) : a = b := by cases a <;> cases b <;> first | rfl | cases h
theorem ordI_inj {x y : Itv} (h : ordI x = ordI y) : x = y := by
  obtain ⟨⟨a, b⟩, ⟨c, d⟩, p, q, r, s⟩ := x
  obtain ⟨⟨a', b'⟩, ⟨c', d'⟩, p', q', r', s'⟩ := y
  simp only [ordI, List.cons.injEq, and_true] at h
  obtain ⟨h1, h2, h3, h4, h5, h6, h7, h8⟩ := h
  have := oneI_inj h1; have := oneI_inj h2; have := oneI_inj h5; have := oneI_inj h6
  subst_vars; rfl
theorem ordIs_len : ∀ l : List Itv, (l.flatMap ordI).length = 8 * l.length
  | [] => rfl
  | x :: xs => by rw [List.flatMap_cons, List.length_append, ordIs_len xs]; simp [ordI]; omega
theorem ordIs_inj : ∀ {l m : List Itv}, l.length = m.length → l.flatMap ordI = m.flatMap ordI → l = m
  | [], [], _, _ => rfl
  | [], _ :: _, h, _ => by simp at h
  | _ :: _, [], h, _ => by simp at h
  | x :: xs, y :: ys, hl, h => by
    rw [List.flatMap_cons, List.flatMap_cons] at h
    obtain ⟨h1, h2⟩ := List.append_inj h (by simp [ordI])
    rw [ordI_inj h1, ordIs_inj (by simpa using hl) h2]
theorem ordF_len (f : Fm) : (ordF f).length = 4 + 8 * f.inn.length := by
  unfold ordF
  rw [List.length_append, List.length_append, ordIs_len]
  simp; omega
theorem ordF_0 {a b : Fm} (h : cmpZ (ordF a) (ordF b) = 0) : a.op = b.op ∧ a.n = b.n ∧ a.inn = b.inn ∧ a.kids.length = b.kids.length := by
  have h1 : [a.op, a.n, (a.inn.length : Int)] = [b.op, b.n, (b.inn.length : Int)] := by
    unfold ordF at h
    rw [List.append_assoc, List.append_assoc] at h
    exact cmpZ_pre h rfl
  simp only [List.cons.injEq, and_true] at h1
  obtain ⟨h2, h3, h4⟩ := h1
  have h5 : a.inn.length = b.inn.length := by omega
  have h6 := cmpZ_0 h (by rw [ordF_len, ordF_len, h5])
  unfold ordF at h6
  obtain ⟨h7, h8⟩ := List.append_inj h6 (by rw [List.length_append, List.length_append, ordIs_len, ordIs_len, h5]; rfl)
  obtain ⟨-, h9⟩ := List.append_inj h7 rfl
  refine ⟨h2, h3, ordIs_inj h5 h9, ?_⟩
  simp at h8; omega
theorem cmpFs_0 : ∀ {l m : List Fm}, (∀ x ∈ l, ∀ y, cmpF x y = 0 ↔ x = y) → l.length = m.length → (cmpFs l m = 0 ↔ l = m)
  | [], [], _, _ => by simp [cmpFs]
  | [], _ :: _, _, h => by simp at h
  | _ :: _, [], _, h => by simp at h
  | x :: xs, y :: ys, hx, hl => by
    have ih := cmpFs_0 (l := xs) (m := ys) (fun z hz => hx z (by simp [hz])) (by simpa using hl)
    have h1 := hx x (by simp) y
    rw [cmpFs]
    split
    · rename_i h
      constructor
      · intro h2; exact absurd h2 h
      · intro h2; cases h2; exact absurd (h1.2 rfl) h
    · rename_i h
      rw [ih]
      have : x = y := h1.1 (by omega)
      subst this
      simp
theorem cmpF_0 (a : Fm) : ∀ b, cmpF a b = 0 ↔ a = b := by
  induction a using Fm.ind with
  | h a ih =>
    intro b
    rw [cmpF_eq]
    by_cases h : cmpZ (ordF a) (ordF b) = 0
    · obtain ⟨h1, h2, h3, h4⟩ := ordF_0 h
      rw [if_neg (by simpa using h), cmpFs_0 ih h4]
      constructor
      · intro h5
        rw [a.eta, b.eta, h1, h2, h3, h5]
      · intro h5; rw [h5]
    · rw [if_pos h]
      constructor
      · intro h5; exact absurd h5 h
      · intro h5; rw [h5] at h; exact absurd (cmpZ_self _) h
end Go.Proofs.YtcbmgajaaechjaaGreat
