/- Formulas as plain data, and how they lie in memory. -/
import Derived.Test.YtcbmgajaaechjaaGreatSums
import Derived.Test.YtcbmgajaaechjaaGreatSpV
namespace Go.Proofs.YtcbmgajaaechjaaGreat
open Go.RowKit
set_option linter.unusedSimpArgs false
set_option linter.unusedVariables false
inductive Fm where
  | mk (op n : Int) (inn : List Itv) (kids : List Fm)
def Fm.op : Fm → Int | .mk o _ _ _ => o
def Fm.n : Fm → Int | .mk _ n _ _ => n
def Fm.inn : Fm → List Itv | .mk _ _ i _ => i
def Fm.kids : Fm → List Fm | .mk _ _ _ k => k
theorem Fm.eta (f : Fm) : f = .mk f.op f.n f.inn f.kids := by cases f; rfl
theorem Fm.ind {P : Fm → Prop} (h : ∀ f, (∀ g ∈ f.kids, P g) → P f) (f : Fm) : P f := by
  induction f using Fm.rec (motive_2 := fun xs => ∀ x ∈ xs, P x) with
  | mk o n i kids ih => exact h _ ih
  | nil => intros; contradiction
  | cons x xs h1 h2 =>
    rename_i y hy
    rcases List.mem_cons.1 hy with rfl | hy
    · exact h1
    · exact h2 y hy
mutual
def FmR (h : PH) : List Value → Fm → Prop
  | cs, .mk op n inn kids => ∃ v3 a4 c4, cs = [.int .i64 op, .int .i64 n, v3, .slice a4 kids.length c4] ∧ I64 op ∧ I64 n ∧ ItvsR h v3 inn ∧
      kids.length ≤ c4 ∧ c4 ≤ maxLen ∧ (kids = [] ∨ ∃ b o, a4 = some ⟨b, o, none⟩ ∧ FmsAt h b o kids)
def FmsAt (h : PH) (b : Nat) : Nat → List Fm → Prop
  | _, [] => True
  | o, x :: xs => (∃ cs, cs.length = 4 ∧ (∀ j, j < 4 → cellAt h b (o + j) = some (cs.getD j undef)) ∧ FmR h cs x) ∧ FmsAt h b (o + 4) xs
end
abbrev FmsR : PH → Value → List Fm → Prop := SliceRep FmR 4
theorem fmsAt_eq {h : PH} {b : Nat} : ∀ {xs : List Fm} {o : Nat}, FmsAt h b o xs ↔ RowRep h FmR 4 b o xs
  | [], o => by simp [FmsAt, RowRep]
  | x :: xs, o => by simp [FmsAt, RowRep, fmsAt_eq]
theorem fmR_iff {h : PH} {cs : List Value} {f : Fm} : FmR h cs f ↔ ∃ v3 v4, cs = [.int .i64 f.op, .int .i64 f.n, v3, v4] ∧ I64 f.op ∧ I64 f.n ∧ ItvsR h v3 f.inn ∧ FmsR h v4 f.kids := by
  cases f with
  | mk op n inn kids =>
    simp only [FmR, fmsAt_eq, Fm.op, Fm.n, Fm.inn, Fm.kids]
    constructor
    · rintro ⟨v3, a4, c4, rfl, h1, h2, h3, h4, h5, h6⟩
      exact ⟨v3, _, rfl, h1, h2, h3, a4, c4, rfl, h4, h5, h6⟩
    · rintro ⟨v3, v4, rfl, h1, h2, h3, a4, c4, rfl, h4, h5, h6⟩
      exact ⟨v3, a4, c4, rfl, h1, h2, h3, h4, h5, h6⟩
theorem mono_FmR : Mono FmR := by
  intro h h' cs x hl
  induction x using Fm.ind generalizing cs with
  | h f ih =>
    rw [fmR_iff, fmR_iff]
    rintro ⟨v3, v4, h1, h2, h3, h4, h5⟩
    exact ⟨v3, v4, h1, h2, h3, h4.mono mono_ItvR hl, h5.mono' hl fun cs x hx => ih x hx cs⟩
/-- a formula's value: its four cells -/
def fmC (f : Fm) (a3 : Option Addr) (c3 : Nat) (a4 : Option Addr) (c4 : Nat) : List Value := [.int .i64 f.op, .int .i64 f.n, .slice a3 f.inn.length c3, .slice a4 f.kids.length c4]
theorem FmR.form {h : PH} {cs : List Value} {f : Fm} (hr : FmR h cs f) : ∃ a3 c3 a4 c4, cs = fmC f a3 c3 a4 c4 ∧ I64 f.op ∧ I64 f.n ∧
    f.inn.length ≤ 9223372036854775807 ∧ f.kids.length ≤ 9223372036854775807 ∧
    ItvsR h (.slice a3 f.inn.length c3) f.inn ∧ FmsR h (.slice a4 f.kids.length c4) f.kids := by
  rw [fmR_iff] at hr
  obtain ⟨v3, v4, rfl, h1, h2, h3, h4⟩ := hr
  obtain ⟨a3, c3, rfl, b3, h3⟩ := h3.form
  obtain ⟨a4, c4, rfl, b4, h4⟩ := h4.form
  exact ⟨a3, c3, a4, c4, rfl, h1, h2, b3, b4, h3, h4⟩
theorem FmR.of {h : PH} {f : Fm} {a3 : Option Addr} {c3 : Nat} {a4 : Option Addr} {c4 : Nat} (h1 : I64 f.op) (h2 : I64 f.n) (h3 : ItvsR h (.slice a3 f.inn.length c3) f.inn) (h4 : FmsR h (.slice a4 f.kids.length c4) f.kids) : FmR h (fmC f a3 c3 a4 c4) f :=
  fmR_iff.2 ⟨_, _, rfl, h1, h2, h3, h4⟩
theorem FmsR.at {w : World} {a : Option Addr} {n cap : Nat} {xs : List Fm} (hr : FmsR (ph w) (.slice a n cap) xs) (k : Nat) (hk : k < xs.length) :
    ∃ b o a3 c3 a4 c4, a = some ⟨b, o, none⟩ ∧ w.cell? ⟨b, o + k * 4, none⟩ = some (.int .i64 xs[k].op) ∧ w.cell? ⟨b, o + k * 4 + 1, none⟩ = some (.int .i64 xs[k].n) ∧
      w.cell? ⟨b, o + k * 4 + 2, none⟩ = some (.slice a3 xs[k].inn.length c3) ∧ w.cell? ⟨b, o + k * 4 + 3, none⟩ = some (.slice a4 xs[k].kids.length c4) ∧
      FmR (ph w) (fmC xs[k] a3 c3 a4 c4) xs[k] ∧ b < w.heap.size := by
  obtain ⟨b, o, cs, h1, h2, h3, h4⟩ := hr.get k hk
  obtain ⟨a3, c3, a4, c4, rfl, -⟩ := h4.form
  have h : ∀ j, j < 4 → w.cell? ⟨b, o + k * 4 + j, none⟩ = some ((fmC xs[k] a3 c3 a4 c4).getD j undef) := fun j hj => by rw [cell_ph]; exact h3 j hj
  exact ⟨b, o, a3, c3, a4, c4, h1, h 0 (by omega), h 1 (by omega), h 2 (by omega), h 3 (by omega), h4, cell_lt (h 0 (by omega))⟩
mutual
def Fm.size : Fm → Nat
  | .mk _ _ _ kids => 1 + fsizes kids
def fsizes : List Fm → Nat
  | [] => 0
  | x :: xs => x.size + fsizes xs
end
theorem fsizes_eq : ∀ l : List Fm, fsizes l = sumN Fm.size l
  | [] => rfl
  | x :: xs => by simp [fsizes, sumN, fsizes_eq xs]
theorem Fm.size_eq (f : Fm) : f.size = 1 + sumN Fm.size f.kids := by
  cases f; simp [Fm.size, Fm.kids, fsizes_eq]
mutual
def Fm.deep : Fm → Nat
  | .mk _ _ _ kids => 1 + fdeeps kids
def fdeeps : List Fm → Nat
  | [] => 0
  | x :: xs => max x.deep (fdeeps xs)
end
theorem fdeeps_eq : ∀ l : List Fm, fdeeps l = maxN Fm.deep l
  | [] => rfl
  | x :: xs => by simp [fdeeps, maxN, fdeeps_eq xs]
theorem Fm.deep_eq (f : Fm) : f.deep = 1 + maxN Fm.deep f.kids := by
  cases f; simp [Fm.deep, Fm.kids, fdeeps_eq]
theorem Fm.deep_le_size (f : Fm) : f.deep ≤ f.size := by
  induction f using Fm.ind with
  | h f ih => rw [Fm.deep_eq, Fm.size_eq]; have := maxN_le_sumN Fm.deep Fm.size f.kids ih; omega
mutual
def Fm.bulk : Fm → Nat
  | .mk _ _ inn kids => 1 + inn.length + fbulks kids
def fbulks : List Fm → Nat
  | [] => 0
  | x :: xs => x.bulk + fbulks xs
end
theorem fbulks_eq : ∀ l : List Fm, fbulks l = sumN Fm.bulk l
  | [] => rfl
  | x :: xs => by simp [fbulks, sumN, fbulks_eq xs]
theorem Fm.bulk_eq (f : Fm) : f.bulk = 1 + f.inn.length + sumN Fm.bulk f.kids := by
  cases f; simp [Fm.bulk, Fm.kids, Fm.inn, fbulks_eq]
theorem Fm.bulk_pos (f : Fm) : 1 ≤ f.bulk := by rw [Fm.bulk_eq]; omega
theorem Fm.size_pos (f : Fm) : 1 ≤ f.size := by rw [Fm.size_eq]; omega
theorem Fm.size_le_bulk (f : Fm) : f.size ≤ f.bulk := by
  induction f using Fm.ind with
  | h f ih => rw [Fm.bulk_eq, Fm.size_eq]; have := sumN_le Fm.size Fm.bulk f.kids ih; omega
theorem Fm.kids_le (f : Fm) : f.kids.length ≤ f.bulk := by
  have := length_le_sumN Fm.bulk f.kids fun x _ => x.bulk_pos
  rw [Fm.bulk_eq]; omega
theorem Fm.kid_le {f g : Fm} (h : g ∈ f.kids) : g.bulk ≤ f.bulk := by
  have := sumN_mem Fm.bulk h
  rw [Fm.bulk_eq f]; omega
theorem Fm.kid_size {f g : Fm} (h : g ∈ f.kids) : g.size ≤ f.size := by
  have := sumN_mem Fm.size h
  rw [Fm.size_eq f]; omega
-- the nodes, each before its kids
mutual
def Fm.pre : Fm → List Fm
  | .mk o n i kids => .mk o n i kids :: fpres kids
def fpres : List Fm → List Fm
  | [] => []
  | x :: xs => x.pre ++ fpres xs
end
theorem fpres_eq : ∀ l : List Fm, fpres l = l.flatMap Fm.pre
  | [] => rfl
  | x :: xs => by simp [fpres, fpres_eq xs]
theorem Fm.pre_eq (f : Fm) : f.pre = f :: f.kids.flatMap Fm.pre := by
  cases f; simp [Fm.pre, Fm.kids, fpres_eq]
theorem flat_len : ∀ l : List Fm, (∀ x ∈ l, x.pre.length = x.size) → (l.flatMap Fm.pre).length = sumN Fm.size l
  | [], _ => rfl
  | x :: xs, h => by rw [List.flatMap_cons, List.length_append, h x (by simp), flat_len xs (fun y hy => h y (by simp [hy])), sumN]
theorem Fm.pre_len (f : Fm) : f.pre.length = f.size := by
  induction f using Fm.ind with
  | h f ih => rw [Fm.pre_eq, Fm.size_eq, List.length_cons, flat_len _ ih]; omega
end Go.Proofs.YtcbmgajaaechjaaGreat
