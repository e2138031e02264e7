/- Things as plain data, and how they lie in memory. -/
import Derived.Test.YtebhdjeognpljaaBase
namespace Go.Proofs.Ytebhdjeognpljaa
open Go.RowKit
set_option linter.unusedSimpArgs false
set_option linter.unusedVariables false
structure Rat2 where
  num : Int
  den : Int
  deriving DecidableEq
structure Val where
  attr : Int
  n : Rat2
  deriving DecidableEq
inductive Thing where
  | mk (cls : List Int) (vals : List Val) (parts : List Thing)
def Thing.cls : Thing → List Int | .mk c _ _ => c
def Thing.vals : Thing → List Val | .mk _ v _ => v
def Thing.parts : Thing → List Thing | .mk _ _ p => p
theorem Thing.ind {P : Thing → Prop} (h : ∀ t, (∀ p ∈ t.parts, P p) → P t) (t : Thing) : P t := by
  induction t using Thing.rec (motive_2 := fun xs => ∀ x ∈ xs, P x) with
  | mk cls vals parts ih => exact h _ ih
  | nil => intros; contradiction
  | cons x xs h1 h2 =>
    rename_i y hy
    rcases List.mem_cons.1 hy with rfl | hy
    · exact h1
    · exact h2 y hy
def RatR (_ : PH) (cs : List Value) (r : Rat2) : Prop := cs = [.int .i64 r.num, .int .i64 r.den] ∧ I64 r.num ∧ I64 r.den
def ValR (_ : PH) (cs : List Value) (v : Val) : Prop := cs = [.int .i64 v.attr, .int .i64 v.n.num, .int .i64 v.n.den] ∧ I64 v.attr ∧ I64 v.n.num ∧ I64 v.n.den
abbrev ValsR : PH → Value → List Val → Prop := SliceRep ValR 3
theorem mono_RatR : Mono RatR := fun _ _ _ _ _ h => h
theorem mono_ValR : Mono ValR := fun _ _ _ _ _ h => h
mutual
def ThingR (h : PH) : List Value → Thing → Prop
  | cs, .mk cls vals parts => ∃ v1 v2 a3 c3, cs = [v1, v2, .slice a3 parts.length c3] ∧ IntsR h v1 cls ∧ ValsR h v2 vals ∧
      parts.length ≤ c3 ∧ c3 ≤ maxLen ∧ (parts = [] ∨ ∃ b o, a3 = some ⟨b, o, none⟩ ∧ ThingsAt h b o parts)
def ThingsAt (h : PH) (b : Nat) : Nat → List Thing → Prop
  | _, [] => True
  | o, x :: xs => (∃ cs, cs.length = 3 ∧ (∀ j, j < 3 → cellAt h b (o + j) = some (cs.getD j undef)) ∧ ThingR h cs x) ∧ ThingsAt h b (o + 3) xs
end
abbrev ThingsR : PH → Value → List Thing → Prop := SliceRep ThingR 3
theorem thingsAt_eq {h : PH} {b : Nat} : ∀ {xs : List Thing} {o : Nat}, ThingsAt h b o xs ↔ RowRep h ThingR 3 b o xs
  | [], o => by simp [ThingsAt, RowRep]
  | x :: xs, o => by simp [ThingsAt, RowRep, thingsAt_eq]
theorem thingR_iff {h : PH} {cs : List Value} {t : Thing} : ThingR h cs t ↔ ∃ v1 v2 v3, cs = [v1, v2, v3] ∧ IntsR h v1 t.cls ∧ ValsR h v2 t.vals ∧ ThingsR h v3 t.parts := by
  cases t with
  | mk cls vals parts =>
    simp only [ThingR, thingsAt_eq, Thing.cls, Thing.vals, Thing.parts]
    constructor
    · rintro ⟨v1, v2, a3, c3, rfl, h1, h2, h3, h4, h5⟩
      exact ⟨v1, v2, _, rfl, h1, h2, a3, c3, rfl, h3, h4, h5⟩
    · rintro ⟨v1, v2, v3, rfl, h1, h2, a3, c3, rfl, h3, h4, h5⟩
      exact ⟨v1, v2, a3, c3, rfl, h1, h2, h3, h4, h5⟩
theorem mono_ThingR : Mono ThingR := by
  intro h h' cs x hl
  induction x using Thing.ind generalizing cs with
  | h t ih =>
    rw [thingR_iff, thingR_iff]
    rintro ⟨v1, v2, v3, h1, h2, h3, h4⟩
    exact ⟨v1, v2, v3, h1, h2.mono mono_IntR hl, h3.mono mono_ValR hl, h4.mono' hl fun cs x hx => ih x hx cs⟩
/-- a thing, its cells as three slices -/
theorem ThingR.form {h : PH} {cs : List Value} {t : Thing} (hr : ThingR h cs t) : ∃ a1 c1 a2 c2 a3 c3, cs = [.slice a1 t.cls.length c1, .slice a2 t.vals.length c2, .slice a3 t.parts.length c3] ∧
    t.cls.length ≤ 9223372036854775807 ∧ t.vals.length ≤ 9223372036854775807 ∧ t.parts.length ≤ 9223372036854775807 ∧
    IntsR h (.slice a1 t.cls.length c1) t.cls ∧ ValsR h (.slice a2 t.vals.length c2) t.vals ∧ ThingsR h (.slice a3 t.parts.length c3) t.parts := by
  rw [thingR_iff] at hr
  obtain ⟨v1, v2, v3, rfl, h1, h2, h3⟩ := hr
  obtain ⟨a1, c1, rfl, b1, h1⟩ := h1.form
  obtain ⟨a2, c2, rfl, b2, h2⟩ := h2.form
  obtain ⟨a3, c3, rfl, b3, h3⟩ := h3.form
  exact ⟨a1, c1, a2, c2, a3, c3, rfl, b1, b2, b3, h1, h2, h3⟩
theorem ThingsR.at {w : World} {a : Option Addr} {n cap : Nat} {xs : List Thing} (hr : ThingsR (ph w) (.slice a n cap) xs) (k : Nat) (hk : k < xs.length) :
    ∃ b o a1 c1 a2 c2 a3 c3, a = some ⟨b, o, none⟩ ∧ w.cell? ⟨b, o + k * 3, none⟩ = some (.slice a1 xs[k].cls.length c1) ∧ w.cell? ⟨b, o + k * 3 + 1, none⟩ = some (.slice a2 xs[k].vals.length c2) ∧
      w.cell? ⟨b, o + k * 3 + 2, none⟩ = some (.slice a3 xs[k].parts.length c3) ∧ ThingR (ph w) [.slice a1 xs[k].cls.length c1, .slice a2 xs[k].vals.length c2, .slice a3 xs[k].parts.length c3] xs[k] ∧ b < w.heap.size := by
  obtain ⟨b, o, c, d, e, h1, h2, h3, h4, h5⟩ := SliceRep.get3 hr k hk
  obtain ⟨a1, c1, a2, c2, a3, c3, h6, -⟩ := h5.form
  injection h6 with h7 h8
  injection h8 with h8 h9
  injection h9 with h9 _
  subst h7 h8 h9
  exact ⟨b, o, a1, c1, a2, c2, a3, c3, h1, h2, h3, h4, h5, cell_lt h2⟩
theorem ValsR.at {w : World} {a : Option Addr} {n cap : Nat} {xs : List Val} (hr : ValsR (ph w) (.slice a n cap) xs) (k : Nat) (hk : k < xs.length) :
    ∃ b o, a = some ⟨b, o, none⟩ ∧ w.cell? ⟨b, o + k * 3, none⟩ = some (.int .i64 xs[k].attr) ∧ w.cell? ⟨b, o + k * 3 + 1, none⟩ = some (.int .i64 xs[k].n.num) ∧
      w.cell? ⟨b, o + k * 3 + 2, none⟩ = some (.int .i64 xs[k].n.den) ∧ I64 xs[k].attr ∧ I64 xs[k].n.num ∧ I64 xs[k].n.den ∧ b < w.heap.size := by
  obtain ⟨b, o, c, d, e, h1, h2, h3, h4, h5, h6⟩ := SliceRep.get3 hr k hk
  injection h5 with h7 h8
  injection h8 with h8 h9
  injection h9 with h9 _
  subst h7 h8 h9
  exact ⟨b, o, h1, h2, h3, h4, h6.1, h6.2.1, h6.2.2, cell_lt h2⟩
/-- sums over lists -/
def sumN {α : Type} (f : α → Nat) : List α → Nat
  | [] => 0
  | x :: xs => f x + sumN f xs
theorem sumN_take {α : Type} (f : α → Nat) (l : List α) (k : Nat) (h : k < l.length) : sumN f (l.take (k+1)) = sumN f (l.take k) + f l[k] := by
  induction l generalizing k with
  | nil => simp at h
  | cons x xs ih =>
    cases k with
    | zero => simp [sumN]
    | succ k => simp [sumN, ih k (by simpa using h)]; omega
theorem sumN_take_le {α : Type} (f : α → Nat) (l : List α) (k : Nat) : sumN f (l.take k) ≤ sumN f l := by
  induction l generalizing k with
  | nil => simp
  | cons x xs ih => cases k with
    | zero => simp [sumN]
    | succ k => simp [sumN]; exact ih k
theorem sumN_mem {α : Type} (f : α → Nat) {l : List α} {x : α} (h : x ∈ l) : f x ≤ sumN f l := by
  induction l with
  | nil => cases h
  | cons y ys ih =>
    rcases List.mem_cons.1 h with rfl | h
    · simp [sumN]
    · have := ih h; simp only [sumN]; omega
mutual
def Thing.size : Thing → Nat
  | .mk _ _ parts => 1 + sizes parts
def sizes : List Thing → Nat
  | [] => 0
  | x :: xs => x.size + sizes xs
end
theorem sizes_eq : ∀ l : List Thing, sizes l = sumN Thing.size l
  | [] => rfl
  | x :: xs => by simp [sizes, sumN, sizes_eq xs]
theorem Thing.size_eq (t : Thing) : t.size = 1 + sumN Thing.size t.parts := by
  cases t with
  | mk c v p => simp [Thing.size, Thing.parts, sizes_eq]
def maxN {α : Type} (f : α → Nat) : List α → Nat
  | [] => 0
  | x :: xs => max (f x) (maxN f xs)
theorem maxN_take {α : Type} (f : α → Nat) (l : List α) (k : Nat) (h : k < l.length) : maxN f (l.take (k+1)) = max (maxN f (l.take k)) (f l[k]) := by
  induction l generalizing k with
  | nil => simp at h
  | cons x xs ih =>
    cases k with
    | zero => simp [maxN]
    | succ k => have := ih k (by simpa using h); simp only [List.take_succ_cons, maxN, List.getElem_cons_succ, this]; omega
theorem maxN_take_le {α : Type} (f : α → Nat) (l : List α) (k : Nat) : maxN f (l.take k) ≤ maxN f l := by
  induction l generalizing k with
  | nil => simp
  | cons x xs ih => cases k with
    | zero => simp [maxN]
    | succ k => have := ih k; simp [maxN]; omega
theorem maxN_mem {α : Type} (f : α → Nat) {l : List α} {x : α} (h : x ∈ l) : f x ≤ maxN f l := by
  induction l with
  | nil => cases h
  | cons y ys ih =>
    rcases List.mem_cons.1 h with rfl | h
    · simp only [maxN]; omega
    · have := ih h; simp only [maxN]; omega
theorem maxN_le {α : Type} {f : α → Nat} {l : List α} {n : Nat} (h : ∀ x ∈ l, f x ≤ n) : maxN f l ≤ n := by
  induction l with
  | nil => simp [maxN]
  | cons x xs ih =>
    have := ih fun y hy => h y (by simp [hy])
    have := h x (by simp)
    simp only [maxN]; omega
mutual
def Thing.deep : Thing → Nat
  | .mk _ _ parts => 1 + deeps parts
def deeps : List Thing → Nat
  | [] => 0
  | x :: xs => max x.deep (deeps xs)
end
theorem deeps_eq : ∀ l : List Thing, deeps l = maxN Thing.deep l
  | [] => rfl
  | x :: xs => by simp [deeps, maxN, deeps_eq xs]
theorem Thing.deep_eq (t : Thing) : t.deep = 1 + maxN Thing.deep t.parts := by
  cases t with
  | mk c v p => simp [Thing.deep, Thing.parts, deeps_eq]
theorem maxN_le_sumN {α : Type} (f g : α → Nat) (l : List α) (h : ∀ x ∈ l, f x ≤ g x) : maxN f l ≤ sumN g l := by
  induction l with
  | nil => simp [maxN]
  | cons x xs ih =>
    have := ih fun y hy => h y (by simp [hy])
    have := h x (by simp)
    simp only [maxN, sumN]; omega
theorem Thing.deep_le_size (t : Thing) : t.deep ≤ t.size := by
  induction t using Thing.ind with
  | h t ih => rw [Thing.deep_eq, Thing.size_eq]; have := maxN_le_sumN Thing.deep Thing.size t.parts ih; omega
mutual
def Thing.bulk : Thing → Nat
  | .mk c v parts => 1 + c.length + v.length + bulks parts
def bulks : List Thing → Nat
  | [] => 0
  | x :: xs => x.bulk + bulks xs
end
theorem bulks_eq : ∀ l : List Thing, bulks l = sumN Thing.bulk l
  | [] => rfl
  | x :: xs => by simp [bulks, sumN, bulks_eq xs]
theorem Thing.bulk_eq (t : Thing) : t.bulk = 1 + t.cls.length + t.vals.length + sumN Thing.bulk t.parts := by
  cases t with
  | mk c v p => simp [Thing.bulk, Thing.parts, Thing.cls, Thing.vals, bulks_eq]
theorem Thing.bulk_pos (t : Thing) : 1 ≤ t.bulk := by rw [Thing.bulk_eq]; omega
theorem sumN_le {α : Type} (f g : α → Nat) (l : List α) (h : ∀ x ∈ l, f x ≤ g x) : sumN f l ≤ sumN g l := by
  induction l with
  | nil => simp [sumN]
  | cons x xs ih =>
    have := ih fun y hy => h y (by simp [hy])
    have := h x (by simp)
    simp only [sumN]; omega
theorem Thing.size_le_bulk (t : Thing) : t.size ≤ t.bulk := by
  induction t using Thing.ind with
  | h t ih => rw [Thing.bulk_eq, Thing.size_eq]; have := sumN_le Thing.size Thing.bulk t.parts ih; omega
theorem length_le_sumN {α : Type} (f : α → Nat) (l : List α) (h : ∀ x ∈ l, 1 ≤ f x) : l.length ≤ sumN f l := by
  induction l with
  | nil => simp
  | cons x xs ih =>
    have := ih fun y hy => h y (by simp [hy])
    have := h x (by simp)
    simp only [sumN, List.length_cons]; omega
theorem Thing.parts_le (t : Thing) : t.parts.length ≤ t.bulk := by
  have := length_le_sumN Thing.bulk t.parts fun x _ => x.bulk_pos
  rw [Thing.bulk_eq]; omega
theorem Thing.part_le {t p : Thing} (h : p ∈ t.parts) : p.bulk ≤ t.bulk := by
  have := sumN_mem Thing.bulk h
  rw [Thing.bulk_eq t]; omega
end Go.Proofs.Ytebhdjeognpljaa
