/- Formulas as plain data, and how they lie in memory.; the generator Range of priorartref07.; plain laws of formulas: what is formed, and the order of package priorartref07.; plain laws of lists of claims: what is valid, meanings, alternatives.; both limits of a good interval are small.; formed, of package formula and of the reference.; Deep of package formula; Size and Deep of the reference.; the library's searches at formulas; the iterators over formulas: what a round keeps.; package formula: the iterator over the nodes of a formula.; a function value is stored.; package formula: the iterator over nodes as a whole, Size. -/
import Derived.Deep.CutBlock
import Derived.TacticsInMore
import Derived.WalkMore
import Derived.WideLaws
import Derived.Test.YtbpilielamjnoaaGreatFN00
import Derived.Test.YtbpilielamjnoaaGreatFN02
import Derived.Test.YtbpilielamjnoaaGreatFN03
namespace Go.Proofs.YtbpilielamjnoaaGreat
open Go.RowKit
set_option linter.unusedSimpArgs false
set_option linter.unusedVariables false
inductive Fm where
  | mk (op n : Int) (inn : List Itv) (kids : List Fm)
def Fm.op : Fm → Int | .mk o _ _ _ => o
def Fm.n : Fm → Int | .mk _ n _ _ => n
def Fm.inn : Fm → List Itv | .mk _ _ i _ => i
def Fm.kids : Fm → List Fm | .mk _ _ _ k => k
theorem Fm.eta (f : Fm) : f = .mk f.op f.n f.inn f.kids := by cases f; rfl
theorem Fm.ind {P : Fm → Prop} (h : ∀ f, (∀ g ∈ f.kids, P g) → P f) (f : Fm) : P f := by
  induction f using Fm.rec (motive_2 := fun xs => ∀ x ∈ xs, P x) with
  | mk o n i kids ih => exact h _ ih
  | nil => intros; contradiction
  | cons x xs h1 h2 =>
    rename_i y hy
    rcases List.mem_cons.1 hy with rfl | hy
    · exact h1
    · exact h2 y hy
mutual
def FmR (h : PH) : List Value → Fm → Prop
  | cs, .mk op n inn kids => ∃ v3 a4 c4, cs = [.int .i64 op, .int .i64 n, v3, .slice a4 kids.length c4] ∧ I64 op ∧ I64 n ∧ ItvsR h v3 inn ∧
      kids.length ≤ c4 ∧ c4 ≤ maxLen ∧ (kids = [] ∨ ∃ b o, a4 = some ⟨b, o, none⟩ ∧ FmsAt h b o kids)
def FmsAt (h : PH) (b : Nat) : Nat → List Fm → Prop
  | _, [] => True
  | o, x :: xs => (∃ cs, cs.length = 4 ∧ (∀ j, j < 4 → cellAt h b (o + j) = some (cs.getD j undef)) ∧ FmR h cs x) ∧ FmsAt h b (o + 4) xs
end
abbrev FmsR : PH → Value → List Fm → Prop := SliceRep FmR 4
theorem fmsAt_eq {h : PH} {b : Nat} : ∀ {xs : List Fm} {o : Nat}, FmsAt h b o xs ↔ RowRep h FmR 4 b o xs
  | [], o => by simp [FmsAt, RowRep]
  | x :: xs, o => by simp [FmsAt, RowRep, fmsAt_eq]
theorem fmR_iff {h : PH} {cs : List Value} {f : Fm} : FmR h cs f ↔ ∃ v3 v4, cs = [.int .i64 f.op, .int .i64 f.n, v3, v4] ∧ I64 f.op ∧ I64 f.n ∧ ItvsR h v3 f.inn ∧ FmsR h v4 f.kids := by
  cases f with
  | mk op n inn kids =>
    simp only [FmR, fmsAt_eq, Fm.op, Fm.n, Fm.inn, Fm.kids]
    constructor
    · rintro ⟨v3, a4, c4, rfl, h1, h2, h3, h4, h5, h6⟩
      exact ⟨v3, _, rfl, h1, h2, h3, a4, c4, rfl, h4, h5, h6⟩
    · rintro ⟨v3, v4, rfl, h1, h2, h3, a4, c4, rfl, h4, h5, h6⟩
      exact ⟨v3, a4, c4, rfl, h1, h2, h3, h4, h5, h6⟩
theorem mono_FmR : Mono FmR := by
  intro h h' cs x hl
  induction x using Fm.ind generalizing cs with
  | h f ih =>
    rw [fmR_iff, fmR_iff]
    rintro ⟨v3, v4, h1, h2, h3, h4, h5⟩
    exact ⟨v3, v4, h1, h2, h3, h4.mono mono_ItvR hl, h5.mono' hl fun cs x hx => ih x hx cs⟩
def fmC (f : Fm) (a3 : Option Addr) (c3 : Nat) (a4 : Option Addr) (c4 : Nat) : List Value := [.int .i64 f.op, .int .i64 f.n, .slice a3 f.inn.length c3, .slice a4 f.kids.length c4]
theorem FmR.form {h : PH} {cs : List Value} {f : Fm} (hr : FmR h cs f) : ∃ a3 c3 a4 c4, cs = fmC f a3 c3 a4 c4 ∧ I64 f.op ∧ I64 f.n ∧
    f.inn.length ≤ 9223372036854775807 ∧ f.kids.length ≤ 9223372036854775807 ∧
    ItvsR h (.slice a3 f.inn.length c3) f.inn ∧ FmsR h (.slice a4 f.kids.length c4) f.kids := by
  rw [fmR_iff] at hr
  obtain ⟨v3, v4, rfl, h1, h2, h3, h4⟩ := hr
  obtain ⟨a3, c3, rfl, b3, h3⟩ := h3.form
  obtain ⟨a4, c4, rfl, b4, h4⟩ := h4.form
  exact ⟨a3, c3, a4, c4, rfl, h1, h2, b3, b4, h3, h4⟩
theorem FmR.of {h : PH} {f : Fm} {a3 : Option Addr} {c3 : Nat} {a4 : Option Addr} {c4 : Nat} (h1 : I64 f.op) (h2 : I64 f.n) (h3 : ItvsR h (.slice a3 f.inn.length c3) f.inn) (h4 : FmsR h (.slice a4 f.kids.length c4) f.kids) : FmR h (fmC f a3 c3 a4 c4) f :=
  fmR_iff.2 ⟨_, _, rfl, h1, h2, h3, h4⟩
theorem FmsR.at {w : World} {a : Option Addr} {n cap : Nat} {xs : List Fm} (hr : FmsR (ph w) (.slice a n cap) xs) (k : Nat) (hk : k < xs.length) :
    ∃ b o a3 c3 a4 c4, a = some ⟨b, o, none⟩ ∧ w.cell? ⟨b, o + k * 4, none⟩ = some (.int .i64 xs[k].op) ∧ w.cell? ⟨b, o + k * 4 + 1, none⟩ = some (.int .i64 xs[k].n) ∧
      w.cell? ⟨b, o + k * 4 + 2, none⟩ = some (.slice a3 xs[k].inn.length c3) ∧ w.cell? ⟨b, o + k * 4 + 3, none⟩ = some (.slice a4 xs[k].kids.length c4) ∧
      FmR (ph w) (fmC xs[k] a3 c3 a4 c4) xs[k] ∧ b < w.heap.size := by
  obtain ⟨b, o, cs, h1, h2, h3, h4⟩ := hr.get k hk
  obtain ⟨a3, c3, a4, c4, rfl, -⟩ := h4.form
  have h : ∀ j, j < 4 → w.cell? ⟨b, o + k * 4 + j, none⟩ = some ((fmC xs[k] a3 c3 a4 c4).getD j undef) := fun j hj => by rw [cell_ph]; exact h3 j hj
  exact ⟨b, o, a3, c3, a4, c4, h1, h 0 (by omega), h 1 (by omega), h 2 (by omega), h 3 (by omega), h4, cell_lt (h 0 (by omega))⟩
mutual
def Fm.size : Fm → Nat
  | .mk _ _ _ kids => 1 + fsizes kids
def fsizes : List Fm → Nat
  | [] => 0
  | x :: xs => x.size + fsizes xs
end
theorem fsizes_eq : ∀ l : List Fm, fsizes l = sumN Fm.size l
  | [] => rfl
  | x :: xs => by simp [fsizes, sumN, fsizes_eq xs]
theorem Fm.size_eq (f : Fm) : f.size = 1 + sumN Fm.size f.kids := by
  cases f; simp [Fm.size, Fm.kids, fsizes_eq]
mutual
def Fm.deep : Fm → Nat
  | .mk _ _ _ kids => 1 + fdeeps kids
def fdeeps : List Fm → Nat
  | [] => 0
  | x :: xs => max x.deep (fdeeps xs)
end
theorem fdeeps_eq : ∀ l : List Fm, fdeeps l = maxN Fm.deep l
  | [] => rfl
  | x :: xs => by simp [fdeeps, maxN, fdeeps_eq xs]
theorem Fm.deep_eq (f : Fm) : f.deep = 1 + maxN Fm.deep f.kids := by
  cases f; simp [Fm.deep, Fm.kids, fdeeps_eq]
theorem Fm.deep_le_size (f : Fm) : f.deep ≤ f.size := by
  induction f using Fm.ind with
  | h f ih => rw [Fm.deep_eq, Fm.size_eq]; have := maxN_le_sumN Fm.deep Fm.size f.kids ih; omega
mutual
def Fm.bulk : Fm → Nat
  | .mk _ _ inn kids => 1 + inn.length + fbulks kids
def fbulks : List Fm → Nat
  | [] => 0
  | x :: xs => x.bulk + fbulks xs
end
theorem fbulks_eq : ∀ l : List Fm, fbulks l = sumN Fm.bulk l
  | [] => rfl
  | x :: xs => by simp [fbulks, sumN, fbulks_eq xs]
theorem Fm.bulk_eq (f : Fm) : f.bulk = 1 + f.inn.length + sumN Fm.bulk f.kids := by
  cases f; simp [Fm.bulk, Fm.kids, Fm.inn, fbulks_eq]
theorem Fm.bulk_pos (f : Fm) : 1 ≤ f.bulk := by rw [Fm.bulk_eq]; omega
theorem Fm.size_pos (f : Fm) : 1 ≤ f.size := by rw [Fm.size_eq]; omega
theorem Fm.size_le_bulk (f : Fm) : f.size ≤ f.bulk := by
  induction f using Fm.ind with
  | h f ih => rw [Fm.bulk_eq, Fm.size_eq]; have := sumN_le Fm.size Fm.bulk f.kids ih; omega
theorem Fm.kids_le (f : Fm) : f.kids.length ≤ f.bulk := by
  have := length_le_sumN Fm.bulk f.kids fun x _ => x.bulk_pos
  rw [Fm.bulk_eq]; omega
theorem Fm.kid_le {f g : Fm} (h : g ∈ f.kids) : g.bulk ≤ f.bulk := by
  have := sumN_mem Fm.bulk h
  rw [Fm.bulk_eq f]; omega
theorem Fm.kid_size {f g : Fm} (h : g ∈ f.kids) : g.size ≤ f.size := by
  have := sumN_mem Fm.size h
  rw [Fm.size_eq f]; omega
-- the nodes, each before its kids
mutual
def Fm.pre : Fm → List Fm
  | .mk o n i kids => .mk o n i kids :: fpres kids
def fpres : List Fm → List Fm
  | [] => []
  | x :: xs => x.pre ++ fpres xs
end
theorem fpres_eq : ∀ l : List Fm, fpres l = l.flatMap Fm.pre
  | [] => rfl
  | x :: xs => by simp [fpres, fpres_eq xs]
theorem Fm.pre_eq (f : Fm) : f.pre = f :: f.kids.flatMap Fm.pre := by
  cases f; simp [Fm.pre, Fm.kids, fpres_eq]
theorem flat_len : ∀ l : List Fm, (∀ x ∈ l, x.pre.length = x.size) → (l.flatMap Fm.pre).length = sumN Fm.size l
  | [], _ => rfl
  | x :: xs, h => by rw [List.flatMap_cons, List.length_append, h x (by simp), flat_len xs (fun y hy => h y (by simp [hy])), sumN]
theorem Fm.pre_len (f : Fm) : f.pre.length = f.size := by
  induction f using Fm.ind with
  | h f ih => rw [Fm.pre_eq, Fm.size_eq, List.length_cons, flat_len _ ih]; omega
end Go.Proofs.YtbpilielamjnoaaGreat
namespace Go.Proofs.YtbpilielamjnoaaGreat
open Go.RowKit Go.Shelf
set_option linter.unusedSimpArgs false
set_option linter.unusedVariables false
def RngP (w : World) (e : Ending) (w' : World) : Prop := ∃ v l, e = .returned v ∧ Ext w w' ∧ ItvsR (up noH w w') v l ∧ setE l = 0 ∧ l.length ≤ 2
def loOk (p q : Int) : Prop := (q = 1 ∧ 0 ≤ p ∧ p ≤ 4) ∨ (q = 2 ∧ (p = -1 ∨ p = 1 ∨ p = 3 ∨ p = 5))
def hiR (p q d : Int) : Rat2 := ⟨p + q * d, q⟩
theorem loOk_cases {p q : Int} (h : loOk p q) : (p, q) ∈ [((0 : Int), (1 : Int)), (1, 1), (2, 1), (3, 1), (4, 1), (-1, 2), (1, 2), (3, 2), (5, 2)] := by
  rcases h with ⟨rfl, h1, h2⟩ | ⟨rfl, rfl | rfl | rfl | rfl⟩
  · have : p = 0 ∨ p = 1 ∨ p = 2 ∨ p = 3 ∨ p = 4 := by omega
    rcases this with rfl | rfl | rfl | rfl | rfl <;> simp
  · simp
  · simp
  · simp
  · simp
theorem rng_all : ∀ x ∈ [((0 : Int), (1 : Int)), (1, 1), (2, 1), (3, 1), (4, 1), (-1, 2), (1, 2), (3, 2), (5, 2)], ∀ d ∈ [(1 : Int), 2, 3], ∀ a ∈ [true, false], ∀ b ∈ [true, false],
    setE [⟨⟨0, 0⟩, hiR x.1 x.2 d, false, a, true, false⟩] = 0 ∧ setE [⟨⟨x.1, x.2⟩, ⟨0, 0⟩, a, false, false, true⟩] = 0 ∧ setE [⟨⟨x.1, x.2⟩, ⟨x.1, x.2⟩, false, false, false, false⟩] = 0 ∧
    setE [⟨⟨x.1, x.2⟩, hiR x.1 x.2 d, a, b, false, false⟩] = 0 ∧ setE [⟨⟨0, 0⟩, ⟨x.1, x.2⟩, false, true, true, false⟩, ⟨hiR x.1 x.2 d, ⟨0, 0⟩, a, false, false, true⟩] = 0 ∧
    setE [⟨⟨x.1, x.2⟩, ⟨x.1, x.2⟩, false, false, false, false⟩, ⟨hiR x.1 x.2 d, hiR x.1 x.2 d, false, false, false, false⟩] = 0 := by
  decide +kernel
theorem bmem (b : Bool) : b ∈ [true, false] := by cases b <;> simp
set_option maxRecDepth 100000 in
set_option maxHeartbeats 8000000 in
theorem range_c (n : Int) (w : World) (hn : I64 n) : Calls Tryz.prog 134 #[.int .i64 n] w (RngP w) := by
  obtain ⟨k0, k1⟩ := aroundV_range (n := n) (m := 1048576) hn (by omega)
  go_enter Tryz.func134, Tryz.ntmps134
  go_wp2_with fail
  refine RetV_at (around_c n 1048576 _ hn (by omega) (by omega)) ?_
  intro w1 hx1
  generalize aroundV n 1048576 = k at *
  have hdm : 1 + k / 40 % 3 ∈ [(1 : Int), 2, 3] := by
    have : k / 40 % 3 = 0 ∨ k / 40 % 3 = 1 ∨ k / 40 % 3 = 2 := by omega
    rcases this with h | h | h <;> rw [h] <;> simp
  have hkd : 0 ≤ k / 40 % 3 ∧ k / 40 % 3 ≤ 2 := by omega
  by_cases h16 : k % 16 = 3
  · have b0 : (k % 16 == 3) = true := by simpa using h16
    have hlm := loOk_cases (p := 2 * (k / 8 % 4) - 1) (q := 2) (by unfold loOk; omega)
    have hall := rng_all _ hlm _ hdm
    have hpb : -1 ≤ 2 * (k / 8 % 4) - 1 ∧ 2 * (k / 8 % 4) - 1 ≤ 5 := by omega
    have h8 : k % 8 = 0 ∨ k % 8 = 1 ∨ k % 8 = 2 ∨ k % 8 = 3 ∨ k % 8 = 4 ∨ k % 8 = 5 ∨ k % 8 = 6 ∨ k % 8 = 7 := by omega
    have h83 : k % 8 = 3 := by omega
    rcases h8 with h8 | h8 | h8 | h8 | h8 | h8 | h8 | h8
    · omega
    · omega
    · omega
    · have e0 : (k % 8 == 0) = false := by rw [h8]; rfl
      have e1 : (k % 8 == 1) = false := by rw [h8]; rfl
      have e2 : (k % 8 == 2) = false := by rw [h8]; rfl
      have e3 : (k % 8 == 3) = true := by rw [h8]; rfl
      have e4 : (k % 8 == 4) = false := by rw [h8]; rfl
      have e5 : (k % 8 == 5) = false := by rw [h8]; rfl
      have e6 : (k % 8 == 6) = false := by rw [h8]; rfl
      go_wp2_with fail
      have hI1 : Itv.I ⟨⟨2 * (k / 8 % 4) - 1, 2⟩, ⟨2 * (k / 8 % 4) - 1 + 2 * (1 + k / 40 % 3), 2⟩, (k / 64 % 2 == 0), (k / 128 % 2 == 0), false, false⟩ := by unfold Itv.I Rat2.I I64; dsimp only; omega
      have hM := (((Mem.start w noH (noH_le _)).ext (w' := (w1.alloc (.cells #[.int .i64 (2 * (k / 8 % 4) - 1), .int .i64 2] 81)).alloc (.cells #[.int .i64 (2 * (k / 8 % 4) - 1 + 2 * (1 + k / 40 % 3)), .int .i64 2] 81)) (by with_reducible repeat (first | assumption | exact Ext.rfl' _ | exact Ext.new _ _ | refine Ext.alloc' ?_ _ | refine Ext.drew' ?_ | refine Ext.drewN' ?_ _ | (refine Ext.set' ?_ ?_ _; rotate_left; focus (first | omega | (simp; done) | (simp; omega))) | (refine Ext.then (b := ?_) ?_ ?_; rotate_left; rotate_left; assumption)))).new' #[.int .i64 (2 * (k / 8 % 4) - 1), .int .i64 (2), .int .i64 (2 * (k / 8 % 4) - 1 + 2 * (1 + k / 40 % 3)), .int .i64 (2), .bool (k / 64 % 2 == 0), .bool (k / 128 % 2 == 0), .bool false, .bool false] 96 (n := w1.heap.size + 1 + 1) (by simp)).asOwn 0 rfl mono_ItvR (sz := 8) (xs := [⟨⟨2 * (k / 8 % 4) - 1, 2⟩, ⟨2 * (k / 8 % 4) - 1 + 2 * (1 + k / 40 % 3), 2⟩, (k / 64 % 2 == 0), (k / 128 % 2 == 0), false, false⟩]) (n := 1) (by simp) (by simp [maxLen]) rfl ⟨_, [], rfl, rfl, ⟨rfl, hI1⟩, rfl⟩
      go_ret
      exact ⟨_, _, rfl, (by with_reducible repeat (first | assumption | exact Ext.rfl' _ | exact Ext.new _ _ | refine Ext.alloc' ?_ _ | refine Ext.drew' ?_ | refine Ext.drewN' ?_ _ | (refine Ext.set' ?_ ?_ _; rotate_left; focus (first | omega | (simp; done) | (simp; omega))) | (refine Ext.then (b := ?_) ?_ ?_; rotate_left; rotate_left; assumption))), hM.repUp 0 rfl, (hall _ (bmem (k / 64 % 2 == 0)) _ (bmem (k / 128 % 2 == 0))).2.2.2.1, by simp⟩
    · omega
    · omega
    · omega
    · omega
  · have b0 : (k % 16 == 3) = false := by simpa using h16
    have hlm := loOk_cases (p := k / 8 % 5) (q := 1) (by unfold loOk; omega)
    have hall := rng_all _ hlm _ hdm
    have hpb : -1 ≤ k / 8 % 5 ∧ k / 8 % 5 ≤ 5 := by omega
    have h8 : k % 8 = 0 ∨ k % 8 = 1 ∨ k % 8 = 2 ∨ k % 8 = 3 ∨ k % 8 = 4 ∨ k % 8 = 5 ∨ k % 8 = 6 ∨ k % 8 = 7 := by omega
    rcases h8 with h8 | h8 | h8 | h8 | h8 | h8 | h8 | h8
    · have e0 : (k % 8 == 0) = true := by rw [h8]; rfl
      have e1 : (k % 8 == 1) = false := by rw [h8]; rfl
      have e2 : (k % 8 == 2) = false := by rw [h8]; rfl
      have e3 : (k % 8 == 3) = false := by rw [h8]; rfl
      have e4 : (k % 8 == 4) = false := by rw [h8]; rfl
      have e5 : (k % 8 == 5) = false := by rw [h8]; rfl
      have e6 : (k % 8 == 6) = false := by rw [h8]; rfl
      go_wp2_with fail
      have hI1 : Itv.I ⟨⟨0, 0⟩, ⟨k / 8 % 5 + (1 + k / 40 % 3), 1⟩, false, (k / 64 % 2 == 0), true, false⟩ := by unfold Itv.I Rat2.I I64; dsimp only; omega
      have hM := (((Mem.start w noH (noH_le _)).ext (w' := (w1.alloc (.cells #[.int .i64 (k / 8 % 5), .int .i64 1] 81)).alloc (.cells #[.int .i64 (k / 8 % 5 + (1 + k / 40 % 3)), .int .i64 1] 81)) (by with_reducible repeat (first | assumption | exact Ext.rfl' _ | exact Ext.new _ _ | refine Ext.alloc' ?_ _ | refine Ext.drew' ?_ | refine Ext.drewN' ?_ _ | (refine Ext.set' ?_ ?_ _; rotate_left; focus (first | omega | (simp; done) | (simp; omega))) | (refine Ext.then (b := ?_) ?_ ?_; rotate_left; rotate_left; assumption)))).new' #[.int .i64 (0), .int .i64 (0), .int .i64 (k / 8 % 5 + (1 + k / 40 % 3)), .int .i64 (1), .bool false, .bool (k / 64 % 2 == 0), .bool true, .bool false] 96 (n := w1.heap.size + 1 + 1) (by simp)).asOwn 0 rfl mono_ItvR (sz := 8) (xs := [⟨⟨0, 0⟩, ⟨k / 8 % 5 + (1 + k / 40 % 3), 1⟩, false, (k / 64 % 2 == 0), true, false⟩]) (n := 1) (by simp) (by simp [maxLen]) rfl ⟨_, [], rfl, rfl, ⟨rfl, hI1⟩, rfl⟩
      go_ret
      exact ⟨_, _, rfl, (by with_reducible repeat (first | assumption | exact Ext.rfl' _ | exact Ext.new _ _ | refine Ext.alloc' ?_ _ | refine Ext.drew' ?_ | refine Ext.drewN' ?_ _ | (refine Ext.set' ?_ ?_ _; rotate_left; focus (first | omega | (simp; done) | (simp; omega))) | (refine Ext.then (b := ?_) ?_ ?_; rotate_left; rotate_left; assumption))), hM.repUp 0 rfl, (by have h := (hall _ (bmem (k / 64 % 2 == 0)) _ (bmem true)).1; simpa [hiR] using h), by simp⟩
    · have e0 : (k % 8 == 0) = false := by rw [h8]; rfl
      have e1 : (k % 8 == 1) = true := by rw [h8]; rfl
      have e2 : (k % 8 == 2) = false := by rw [h8]; rfl
      have e3 : (k % 8 == 3) = false := by rw [h8]; rfl
      have e4 : (k % 8 == 4) = false := by rw [h8]; rfl
      have e5 : (k % 8 == 5) = false := by rw [h8]; rfl
      have e6 : (k % 8 == 6) = false := by rw [h8]; rfl
      go_wp2_with fail
      have hI1 : Itv.I ⟨⟨k / 8 % 5, 1⟩, ⟨0, 0⟩, (k / 64 % 2 == 0), false, false, true⟩ := by unfold Itv.I Rat2.I I64; dsimp only; omega
      have hM := (((Mem.start w noH (noH_le _)).ext (w' := (w1.alloc (.cells #[.int .i64 (k / 8 % 5), .int .i64 1] 81)).alloc (.cells #[.int .i64 (k / 8 % 5 + (1 + k / 40 % 3)), .int .i64 1] 81)) (by with_reducible repeat (first | assumption | exact Ext.rfl' _ | exact Ext.new _ _ | refine Ext.alloc' ?_ _ | refine Ext.drew' ?_ | refine Ext.drewN' ?_ _ | (refine Ext.set' ?_ ?_ _; rotate_left; focus (first | omega | (simp; done) | (simp; omega))) | (refine Ext.then (b := ?_) ?_ ?_; rotate_left; rotate_left; assumption)))).new' #[.int .i64 (k / 8 % 5), .int .i64 (1), .int .i64 (0), .int .i64 (0), .bool (k / 64 % 2 == 0), .bool false, .bool false, .bool true] 96 (n := w1.heap.size + 1 + 1) (by simp)).asOwn 0 rfl mono_ItvR (sz := 8) (xs := [⟨⟨k / 8 % 5, 1⟩, ⟨0, 0⟩, (k / 64 % 2 == 0), false, false, true⟩]) (n := 1) (by simp) (by simp [maxLen]) rfl ⟨_, [], rfl, rfl, ⟨rfl, hI1⟩, rfl⟩
      go_ret
      exact ⟨_, _, rfl, (by with_reducible repeat (first | assumption | exact Ext.rfl' _ | exact Ext.new _ _ | refine Ext.alloc' ?_ _ | refine Ext.drew' ?_ | refine Ext.drewN' ?_ _ | (refine Ext.set' ?_ ?_ _; rotate_left; focus (first | omega | (simp; done) | (simp; omega))) | (refine Ext.then (b := ?_) ?_ ?_; rotate_left; rotate_left; assumption))), hM.repUp 0 rfl, (by have h := (hall _ (bmem (k / 64 % 2 == 0)) _ (bmem true)).2.1; simpa [hiR] using h), by simp⟩
    · have e0 : (k % 8 == 0) = false := by rw [h8]; rfl
      have e1 : (k % 8 == 1) = false := by rw [h8]; rfl
      have e2 : (k % 8 == 2) = true := by rw [h8]; rfl
      have e3 : (k % 8 == 3) = false := by rw [h8]; rfl
      have e4 : (k % 8 == 4) = false := by rw [h8]; rfl
      have e5 : (k % 8 == 5) = false := by rw [h8]; rfl
      have e6 : (k % 8 == 6) = false := by rw [h8]; rfl
      go_wp2_with fail
      have hI1 : Itv.I ⟨⟨k / 8 % 5, 1⟩, ⟨k / 8 % 5, 1⟩, false, false, false, false⟩ := by unfold Itv.I Rat2.I I64; dsimp only; omega
      have hM := (((Mem.start w noH (noH_le _)).ext (w' := (w1.alloc (.cells #[.int .i64 (k / 8 % 5), .int .i64 1] 81)).alloc (.cells #[.int .i64 (k / 8 % 5 + (1 + k / 40 % 3)), .int .i64 1] 81)) (by with_reducible repeat (first | assumption | exact Ext.rfl' _ | exact Ext.new _ _ | refine Ext.alloc' ?_ _ | refine Ext.drew' ?_ | refine Ext.drewN' ?_ _ | (refine Ext.set' ?_ ?_ _; rotate_left; focus (first | omega | (simp; done) | (simp; omega))) | (refine Ext.then (b := ?_) ?_ ?_; rotate_left; rotate_left; assumption)))).new' #[.int .i64 (k / 8 % 5), .int .i64 (1), .int .i64 (k / 8 % 5), .int .i64 (1), .bool false, .bool false, .bool false, .bool false] 96 (n := w1.heap.size + 1 + 1) (by simp)).asOwn 0 rfl mono_ItvR (sz := 8) (xs := [⟨⟨k / 8 % 5, 1⟩, ⟨k / 8 % 5, 1⟩, false, false, false, false⟩]) (n := 1) (by simp) (by simp [maxLen]) rfl ⟨_, [], rfl, rfl, ⟨rfl, hI1⟩, rfl⟩
      go_ret
      exact ⟨_, _, rfl, (by with_reducible repeat (first | assumption | exact Ext.rfl' _ | exact Ext.new _ _ | refine Ext.alloc' ?_ _ | refine Ext.drew' ?_ | refine Ext.drewN' ?_ _ | (refine Ext.set' ?_ ?_ _; rotate_left; focus (first | omega | (simp; done) | (simp; omega))) | (refine Ext.then (b := ?_) ?_ ?_; rotate_left; rotate_left; assumption))), hM.repUp 0 rfl, (by have h := (hall _ (bmem true) _ (bmem true)).2.2.1; simpa [hiR] using h), by simp⟩
    · have e0 : (k % 8 == 0) = false := by rw [h8]; rfl
      have e1 : (k % 8 == 1) = false := by rw [h8]; rfl
      have e2 : (k % 8 == 2) = false := by rw [h8]; rfl
      have e3 : (k % 8 == 3) = true := by rw [h8]; rfl
      have e4 : (k % 8 == 4) = false := by rw [h8]; rfl
      have e5 : (k % 8 == 5) = false := by rw [h8]; rfl
      have e6 : (k % 8 == 6) = false := by rw [h8]; rfl
      go_wp2_with fail
      have hI1 : Itv.I ⟨⟨k / 8 % 5, 1⟩, ⟨k / 8 % 5 + (1 + k / 40 % 3), 1⟩, (k / 64 % 2 == 0), (k / 128 % 2 == 0), false, false⟩ := by unfold Itv.I Rat2.I I64; dsimp only; omega
      have hM := (((Mem.start w noH (noH_le _)).ext (w' := (w1.alloc (.cells #[.int .i64 (k / 8 % 5), .int .i64 1] 81)).alloc (.cells #[.int .i64 (k / 8 % 5 + (1 + k / 40 % 3)), .int .i64 1] 81)) (by with_reducible repeat (first | assumption | exact Ext.rfl' _ | exact Ext.new _ _ | refine Ext.alloc' ?_ _ | refine Ext.drew' ?_ | refine Ext.drewN' ?_ _ | (refine Ext.set' ?_ ?_ _; rotate_left; focus (first | omega | (simp; done) | (simp; omega))) | (refine Ext.then (b := ?_) ?_ ?_; rotate_left; rotate_left; assumption)))).new' #[.int .i64 (k / 8 % 5), .int .i64 (1), .int .i64 (k / 8 % 5 + (1 + k / 40 % 3)), .int .i64 (1), .bool (k / 64 % 2 == 0), .bool (k / 128 % 2 == 0), .bool false, .bool false] 96 (n := w1.heap.size + 1 + 1) (by simp)).asOwn 0 rfl mono_ItvR (sz := 8) (xs := [⟨⟨k / 8 % 5, 1⟩, ⟨k / 8 % 5 + (1 + k / 40 % 3), 1⟩, (k / 64 % 2 == 0), (k / 128 % 2 == 0), false, false⟩]) (n := 1) (by simp) (by simp [maxLen]) rfl ⟨_, [], rfl, rfl, ⟨rfl, hI1⟩, rfl⟩
      go_ret
      exact ⟨_, _, rfl, (by with_reducible repeat (first | assumption | exact Ext.rfl' _ | exact Ext.new _ _ | refine Ext.alloc' ?_ _ | refine Ext.drew' ?_ | refine Ext.drewN' ?_ _ | (refine Ext.set' ?_ ?_ _; rotate_left; focus (first | omega | (simp; done) | (simp; omega))) | (refine Ext.then (b := ?_) ?_ ?_; rotate_left; rotate_left; assumption))), hM.repUp 0 rfl, (by have h := (hall _ (bmem (k / 64 % 2 == 0)) _ (bmem (k / 128 % 2 == 0))).2.2.2.1; simpa [hiR] using h), by simp⟩
    · have e0 : (k % 8 == 0) = false := by rw [h8]; rfl
      have e1 : (k % 8 == 1) = false := by rw [h8]; rfl
      have e2 : (k % 8 == 2) = false := by rw [h8]; rfl
      have e3 : (k % 8 == 3) = false := by rw [h8]; rfl
      have e4 : (k % 8 == 4) = true := by rw [h8]; rfl
      have e5 : (k % 8 == 5) = false := by rw [h8]; rfl
      have e6 : (k % 8 == 6) = false := by rw [h8]; rfl
      go_wp2_with fail
      have hI1 : Itv.I ⟨⟨k / 8 % 5, 1⟩, ⟨k / 8 % 5 + (1 + k / 40 % 3), 1⟩, (k / 64 % 2 == 0), (k / 128 % 2 == 0), false, false⟩ := by unfold Itv.I Rat2.I I64; dsimp only; omega
      have hM := (((Mem.start w noH (noH_le _)).ext (w' := (w1.alloc (.cells #[.int .i64 (k / 8 % 5), .int .i64 1] 81)).alloc (.cells #[.int .i64 (k / 8 % 5 + (1 + k / 40 % 3)), .int .i64 1] 81)) (by with_reducible repeat (first | assumption | exact Ext.rfl' _ | exact Ext.new _ _ | refine Ext.alloc' ?_ _ | refine Ext.drew' ?_ | refine Ext.drewN' ?_ _ | (refine Ext.set' ?_ ?_ _; rotate_left; focus (first | omega | (simp; done) | (simp; omega))) | (refine Ext.then (b := ?_) ?_ ?_; rotate_left; rotate_left; assumption)))).new' #[.int .i64 (k / 8 % 5), .int .i64 (1), .int .i64 (k / 8 % 5 + (1 + k / 40 % 3)), .int .i64 (1), .bool (k / 64 % 2 == 0), .bool (k / 128 % 2 == 0), .bool false, .bool false] 96 (n := w1.heap.size + 1 + 1) (by simp)).asOwn 0 rfl mono_ItvR (sz := 8) (xs := [⟨⟨k / 8 % 5, 1⟩, ⟨k / 8 % 5 + (1 + k / 40 % 3), 1⟩, (k / 64 % 2 == 0), (k / 128 % 2 == 0), false, false⟩]) (n := 1) (by simp) (by simp [maxLen]) rfl ⟨_, [], rfl, rfl, ⟨rfl, hI1⟩, rfl⟩
      go_ret
      exact ⟨_, _, rfl, (by with_reducible repeat (first | assumption | exact Ext.rfl' _ | exact Ext.new _ _ | refine Ext.alloc' ?_ _ | refine Ext.drew' ?_ | refine Ext.drewN' ?_ _ | (refine Ext.set' ?_ ?_ _; rotate_left; focus (first | omega | (simp; done) | (simp; omega))) | (refine Ext.then (b := ?_) ?_ ?_; rotate_left; rotate_left; assumption))), hM.repUp 0 rfl, (by have h := (hall _ (bmem (k / 64 % 2 == 0)) _ (bmem (k / 128 % 2 == 0))).2.2.2.1; simpa [hiR] using h), by simp⟩
    · have e0 : (k % 8 == 0) = false := by rw [h8]; rfl
      have e1 : (k % 8 == 1) = false := by rw [h8]; rfl
      have e2 : (k % 8 == 2) = false := by rw [h8]; rfl
      have e3 : (k % 8 == 3) = false := by rw [h8]; rfl
      have e4 : (k % 8 == 4) = false := by rw [h8]; rfl
      have e5 : (k % 8 == 5) = true := by rw [h8]; rfl
      have e6 : (k % 8 == 6) = false := by rw [h8]; rfl
      go_wp2_with fail
      have hI1 : Itv.I ⟨⟨0, 0⟩, ⟨0, 0⟩, false, false, true, true⟩ := by unfold Itv.I Rat2.I I64; dsimp only; omega
      have hM := (((Mem.start w noH (noH_le _)).ext (w' := (w1.alloc (.cells #[.int .i64 (k / 8 % 5), .int .i64 1] 81)).alloc (.cells #[.int .i64 (k / 8 % 5 + (1 + k / 40 % 3)), .int .i64 1] 81)) (by with_reducible repeat (first | assumption | exact Ext.rfl' _ | exact Ext.new _ _ | refine Ext.alloc' ?_ _ | refine Ext.drew' ?_ | refine Ext.drewN' ?_ _ | (refine Ext.set' ?_ ?_ _; rotate_left; focus (first | omega | (simp; done) | (simp; omega))) | (refine Ext.then (b := ?_) ?_ ?_; rotate_left; rotate_left; assumption)))).new' #[.int .i64 (0), .int .i64 (0), .int .i64 (0), .int .i64 (0), .bool false, .bool false, .bool true, .bool true] 96 (n := w1.heap.size + 1 + 1) (by simp)).asOwn 0 rfl mono_ItvR (sz := 8) (xs := [⟨⟨0, 0⟩, ⟨0, 0⟩, false, false, true, true⟩]) (n := 1) (by simp) (by simp [maxLen]) rfl ⟨_, [], rfl, rfl, ⟨rfl, hI1⟩, rfl⟩
      go_ret
      exact ⟨_, _, rfl, (by with_reducible repeat (first | assumption | exact Ext.rfl' _ | exact Ext.new _ _ | refine Ext.alloc' ?_ _ | refine Ext.drew' ?_ | refine Ext.drewN' ?_ _ | (refine Ext.set' ?_ ?_ _; rotate_left; focus (first | omega | (simp; done) | (simp; omega))) | (refine Ext.then (b := ?_) ?_ ?_; rotate_left; rotate_left; assumption))), hM.repUp 0 rfl, (by decide +kernel), by simp⟩
    · have e0 : (k % 8 == 0) = false := by rw [h8]; rfl
      have e1 : (k % 8 == 1) = false := by rw [h8]; rfl
      have e2 : (k % 8 == 2) = false := by rw [h8]; rfl
      have e3 : (k % 8 == 3) = false := by rw [h8]; rfl
      have e4 : (k % 8 == 4) = false := by rw [h8]; rfl
      have e5 : (k % 8 == 5) = false := by rw [h8]; rfl
      have e6 : (k % 8 == 6) = true := by rw [h8]; rfl
      go_wp2_with fail
      have hI1 : Itv.I ⟨⟨0, 0⟩, ⟨k / 8 % 5, 1⟩, false, true, true, false⟩ := by unfold Itv.I Rat2.I I64; dsimp only; omega
      have hI2 : Itv.I ⟨⟨k / 8 % 5 + (1 + k / 40 % 3), 1⟩, ⟨0, 0⟩, (k / 64 % 2 == 0), false, false, true⟩ := by unfold Itv.I Rat2.I I64; dsimp only; omega
      have hM := (((Mem.start w noH (noH_le _)).ext (w' := (w1.alloc (.cells #[.int .i64 (k / 8 % 5), .int .i64 1] 81)).alloc (.cells #[.int .i64 (k / 8 % 5 + (1 + k / 40 % 3)), .int .i64 1] 81)) (by with_reducible repeat (first | assumption | exact Ext.rfl' _ | exact Ext.new _ _ | refine Ext.alloc' ?_ _ | refine Ext.drew' ?_ | refine Ext.drewN' ?_ _ | (refine Ext.set' ?_ ?_ _; rotate_left; focus (first | omega | (simp; done) | (simp; omega))) | (refine Ext.then (b := ?_) ?_ ?_; rotate_left; rotate_left; assumption)))).new' #[.int .i64 (0), .int .i64 (0), .int .i64 (k / 8 % 5), .int .i64 (1), .bool false, .bool true, .bool true, .bool false, .int .i64 (k / 8 % 5 + (1 + k / 40 % 3)), .int .i64 (1), .int .i64 (0), .int .i64 (0), .bool (k / 64 % 2 == 0), .bool false, .bool false, .bool true] 96 (n := w1.heap.size + 1 + 1) (by simp)).asOwn 0 rfl mono_ItvR (sz := 8) (xs := [⟨⟨0, 0⟩, ⟨k / 8 % 5, 1⟩, false, true, true, false⟩, ⟨⟨k / 8 % 5 + (1 + k / 40 % 3), 1⟩, ⟨0, 0⟩, (k / 64 % 2 == 0), false, false, true⟩]) (n := 2) (by simp) (by simp [maxLen]) rfl ⟨_, _, rfl, rfl, ⟨rfl, hI1⟩, _, [], rfl, rfl, ⟨rfl, hI2⟩, rfl⟩
      go_ret
      exact ⟨_, _, rfl, (by with_reducible repeat (first | assumption | exact Ext.rfl' _ | exact Ext.new _ _ | refine Ext.alloc' ?_ _ | refine Ext.drew' ?_ | refine Ext.drewN' ?_ _ | (refine Ext.set' ?_ ?_ _; rotate_left; focus (first | omega | (simp; done) | (simp; omega))) | (refine Ext.then (b := ?_) ?_ ?_; rotate_left; rotate_left; assumption))), hM.repUp 0 rfl, (by have h := (hall _ (bmem (k / 64 % 2 == 0)) _ (bmem true)).2.2.2.2.1; simpa [hiR] using h), by simp⟩
    · have e0 : (k % 8 == 0) = false := by rw [h8]; rfl
      have e1 : (k % 8 == 1) = false := by rw [h8]; rfl
      have e2 : (k % 8 == 2) = false := by rw [h8]; rfl
      have e3 : (k % 8 == 3) = false := by rw [h8]; rfl
      have e4 : (k % 8 == 4) = false := by rw [h8]; rfl
      have e5 : (k % 8 == 5) = false := by rw [h8]; rfl
      have e6 : (k % 8 == 6) = false := by rw [h8]; rfl
      by_cases h64 : k / 64 % 4 = 0
      · have b1 : (k / 64 % 4 == 0) = true := by simpa using h64
        go_wp2_with fail
        go_ret
        exact ⟨_, [], rfl, (by with_reducible repeat (first | assumption | exact Ext.rfl' _ | exact Ext.new _ _ | refine Ext.alloc' ?_ _ | refine Ext.drew' ?_ | refine Ext.drewN' ?_ _ | (refine Ext.set' ?_ ?_ _; rotate_left; focus (first | omega | (simp; done) | (simp; omega))) | (refine Ext.then (b := ?_) ?_ ?_; rotate_left; rotate_left; assumption))), SliceRep.nil _ _ _, by rfl, by simp⟩
      · have b1 : (k / 64 % 4 == 0) = false := by simpa using h64
        go_wp2_with fail
        have hI1 : Itv.I ⟨⟨k / 8 % 5, 1⟩, ⟨k / 8 % 5, 1⟩, false, false, false, false⟩ := by unfold Itv.I Rat2.I I64; dsimp only; omega
        have hI2 : Itv.I ⟨⟨k / 8 % 5 + (1 + k / 40 % 3), 1⟩, ⟨k / 8 % 5 + (1 + k / 40 % 3), 1⟩, false, false, false, false⟩ := by unfold Itv.I Rat2.I I64; dsimp only; omega
        have hM := (((Mem.start w noH (noH_le _)).ext (w' := (w1.alloc (.cells #[.int .i64 (k / 8 % 5), .int .i64 1] 81)).alloc (.cells #[.int .i64 (k / 8 % 5 + (1 + k / 40 % 3)), .int .i64 1] 81)) (by with_reducible repeat (first | assumption | exact Ext.rfl' _ | exact Ext.new _ _ | refine Ext.alloc' ?_ _ | refine Ext.drew' ?_ | refine Ext.drewN' ?_ _ | (refine Ext.set' ?_ ?_ _; rotate_left; focus (first | omega | (simp; done) | (simp; omega))) | (refine Ext.then (b := ?_) ?_ ?_; rotate_left; rotate_left; assumption)))).new' #[.int .i64 (k / 8 % 5), .int .i64 (1), .int .i64 (k / 8 % 5), .int .i64 (1), .bool false, .bool false, .bool false, .bool false, .int .i64 (k / 8 % 5 + (1 + k / 40 % 3)), .int .i64 (1), .int .i64 (k / 8 % 5 + (1 + k / 40 % 3)), .int .i64 (1), .bool false, .bool false, .bool false, .bool false] 96 (n := w1.heap.size + 1 + 1) (by simp)).asOwn 0 rfl mono_ItvR (sz := 8) (xs := [⟨⟨k / 8 % 5, 1⟩, ⟨k / 8 % 5, 1⟩, false, false, false, false⟩, ⟨⟨k / 8 % 5 + (1 + k / 40 % 3), 1⟩, ⟨k / 8 % 5 + (1 + k / 40 % 3), 1⟩, false, false, false, false⟩]) (n := 2) (by simp) (by simp [maxLen]) rfl ⟨_, _, rfl, rfl, ⟨rfl, hI1⟩, _, [], rfl, rfl, ⟨rfl, hI2⟩, rfl⟩
        go_ret
        exact ⟨_, _, rfl, (by with_reducible repeat (first | assumption | exact Ext.rfl' _ | exact Ext.new _ _ | refine Ext.alloc' ?_ _ | refine Ext.drew' ?_ | refine Ext.drewN' ?_ _ | (refine Ext.set' ?_ ?_ _; rotate_left; focus (first | omega | (simp; done) | (simp; omega))) | (refine Ext.then (b := ?_) ?_ ?_; rotate_left; rotate_left; assumption))), hM.repUp 0 rfl, (by have h := (hall _ (bmem true) _ (bmem true)).2.2.2.2.2; simpa [hiR] using h), by simp⟩
end Go.Proofs.YtbpilielamjnoaaGreat
namespace Go.Proofs.YtbpilielamjnoaaGreat
open Go.RowKit
set_option linter.unusedSimpArgs false
set_option linter.unusedVariables false
def formed1 (f : Fm) : Bool :=
  if (f.op ≠ 2 ∧ f.inn ≠ []) ∨ (f.op ≠ 2 ∧ f.op ≠ 1 ∧ f.n ≠ 0) then false
  else if f.op = 0 then f.kids.isEmpty
  else if f.op = 1 then f.kids.isEmpty && decide (0 ≤ f.n) && decide (f.n < 64)
  else if f.op = 2 then f.kids.isEmpty && decide (0 ≤ f.n) && decide (f.n < 32) && decide (setE f.inn = 0)
  else if f.op = 3 ∨ f.op = 6 then decide (f.kids.length = 1)
  else decide (f.op = 4) || decide (f.op = 5)
def wholeB (f : Fm) : Bool := f.pre.all formed1
theorem wholeB_eq (f : Fm) : wholeB f = (formed1 f && f.kids.all wholeB) := by
  unfold wholeB
  rw [Fm.pre_eq, List.all_cons]
  congr 1
  induction f.kids with
  | nil => rfl
  | cons x xs ih => rw [List.flatMap_cons, List.all_append, List.all_cons, ih]
def validF (f : Fm) : Int := if 96 < f.size ∨ 8 < f.deep then 4 else if wholeB f then 0 else 1
theorem validF_0 {f : Fm} (h : validF f = 0) : f.size ≤ 96 ∧ f.deep ≤ 8 ∧ wholeB f = true := by
  unfold validF at h
  split at h
  · cases h
  · split at h
    · rename_i h1 h2; exact ⟨by omega, by omega, h2⟩
    · cases h
def oneI (b : Bool) : Int := if b then 1 else 0
def ordI (x : Itv) : List Int := [oneI x.loI, oneI x.loO, x.lo.num, x.lo.den, oneI x.hiI, oneI x.hiO, x.hi.num, x.hi.den]
def ordF (f : Fm) : List Int := [f.op, f.n, (f.inn.length : Int)] ++ f.inn.flatMap ordI ++ [(f.kids.length : Int)]
def cmpZ : List Int → List Int → Int
  | x :: xs, y :: ys => if x < y then -1 else if y < x then 1 else cmpZ xs ys
  | _, _ => 0
mutual
def cmpF : Fm → Fm → Int
  | .mk o n i k, .mk o' n' i' k' => if cmpZ (ordF (.mk o n i k)) (ordF (.mk o' n' i' k')) ≠ 0 then cmpZ (ordF (.mk o n i k)) (ordF (.mk o' n' i' k')) else cmpFs k k'
def cmpFs : List Fm → List Fm → Int
  | x :: xs, y :: ys => if cmpF x y ≠ 0 then cmpF x y else cmpFs xs ys
  | _, _ => 0
end
theorem cmpF_eq (a b : Fm) : cmpF a b = if cmpZ (ordF a) (ordF b) ≠ 0 then cmpZ (ordF a) (ordF b) else cmpFs a.kids b.kids := by
  cases a; cases b; rfl
theorem cmpZ_self : ∀ l : List Int, cmpZ l l = 0
  | [] => rfl
  | x :: xs => by simp [cmpZ, cmpZ_self xs]
theorem cmpZ_0 : ∀ {a b : List Int}, cmpZ a b = 0 → a.length = b.length → a = b
  | [], [], _, _ => rfl
  | [], _ :: _, _, h => by simp at h
  | _ :: _, [], _, h => by simp at h
  | x :: xs, y :: ys, h, hl => by
    rw [cmpZ] at h
    split at h
    · cases h
    · split at h
      · cases h
      · rename_i h1 h2
        have : x = y := by omega
        rw [this, cmpZ_0 h (by simpa using hl)]
theorem cmpZ_pre : ∀ {a b c d : List Int}, cmpZ (a ++ c) (b ++ d) = 0 → a.length = b.length → a = b
  | [], [], _, _, _, _ => rfl
  | [], _ :: _, _, _, _, h => by simp at h
  | _ :: _, [], _, _, _, h => by simp at h
  | x :: xs, y :: ys, c, d, h, hl => by
    rw [List.cons_append, List.cons_append, cmpZ] at h
    split at h
    · cases h
    · split at h
      · cases h
      · rename_i h1 h2
        have : x = y := by omega
        rw [this, cmpZ_pre h (by simpa using hl)]
theorem oneI_inj {a b : Bool} (h : oneI a = oneI b) : a = b := by cases a <;> cases b <;> first | rfl | cases h
theorem ordI_inj {x y : Itv} (h : ordI x = ordI y) : x = y := by
  obtain ⟨⟨a, b⟩, ⟨c, d⟩, p, q, r, s⟩ := x
  obtain ⟨⟨a', b'⟩, ⟨c', d'⟩, p', q', r', s'⟩ := y
  simp only [ordI, List.cons.injEq, and_true] at h
  obtain ⟨h1, h2, h3, h4, h5, h6, h7, h8⟩ := h
  have := oneI_inj h1; have := oneI_inj h2; have := oneI_inj h5; have := oneI_inj h6
  subst_vars; rfl
theorem ordIs_len : ∀ l : List Itv, (l.flatMap ordI).length = 8 * l.length
  | [] => rfl
  | x :: xs => by rw [List.flatMap_cons, List.length_append, ordIs_len xs]; simp [ordI]; omega
theorem ordIs_inj : ∀ {l m : List Itv}, l.length = m.length → l.flatMap ordI = m.flatMap ordI → l = m
  | [], [], _, _ => rfl
  | [], _ :: _, h, _ => by simp at h
  | _ :: _, [], h, _ => by simp at h
  | x :: xs, y :: ys, hl, h => by
    rw [List.flatMap_cons, List.flatMap_cons] at h
    obtain ⟨h1, h2⟩ := List.append_inj h (by simp [ordI])
    rw [ordI_inj h1, ordIs_inj (by simpa using hl) h2]
theorem ordF_len (f : Fm) : (ordF f).length = 4 + 8 * f.inn.length := by
  unfold ordF
  rw [List.length_append, List.length_append, ordIs_len]
  simp; omega
theorem ordF_0 {a b : Fm} (h : cmpZ (ordF a) (ordF b) = 0) : a.op = b.op ∧ a.n = b.n ∧ a.inn = b.inn ∧ a.kids.length = b.kids.length := by
  have h1 : [a.op, a.n, (a.inn.length : Int)] = [b.op, b.n, (b.inn.length : Int)] := by
    unfold ordF at h
    rw [List.append_assoc, List.append_assoc] at h
    exact cmpZ_pre h rfl
  simp only [List.cons.injEq, and_true] at h1
  obtain ⟨h2, h3, h4⟩ := h1
  have h5 : a.inn.length = b.inn.length := by omega
  have h6 := cmpZ_0 h (by rw [ordF_len, ordF_len, h5])
  unfold ordF at h6
  obtain ⟨h7, h8⟩ := List.append_inj h6 (by rw [List.length_append, List.length_append, ordIs_len, ordIs_len, h5]; rfl)
  obtain ⟨-, h9⟩ := List.append_inj h7 rfl
  refine ⟨h2, h3, ordIs_inj h5 h9, ?_⟩
  simp at h8; omega
theorem cmpFs_0 : ∀ {l m : List Fm}, (∀ x ∈ l, ∀ y, cmpF x y = 0 ↔ x = y) → l.length = m.length → (cmpFs l m = 0 ↔ l = m)
  | [], [], _, _ => by simp [cmpFs]
  | [], _ :: _, _, h => by simp at h
  | _ :: _, [], _, h => by simp at h
  | x :: xs, y :: ys, hx, hl => by
    have ih := cmpFs_0 (l := xs) (m := ys) (fun z hz => hx z (by simp [hz])) (by simpa using hl)
    have h1 := hx x (by simp) y
    rw [cmpFs]
    split
    · rename_i h
      constructor
      · intro h2; exact absurd h2 h
      · intro h2; cases h2; exact absurd (h1.2 rfl) h
    · rename_i h
      rw [ih]
      have : x = y := h1.1 (by omega)
      subst this
      simp
theorem cmpF_0 (a : Fm) : ∀ b, cmpF a b = 0 ↔ a = b := by
  induction a using Fm.ind with
  | h a ih =>
    intro b
    rw [cmpF_eq]
    by_cases h : cmpZ (ordF a) (ordF b) = 0
    · obtain ⟨h1, h2, h3, h4⟩ := ordF_0 h
      rw [if_neg (by simpa using h), cmpFs_0 ih h4]
      constructor
      · intro h5
        rw [a.eta, b.eta, h1, h2, h3, h5]
      · intro h5; rw [h5]
    · rw [if_pos h]
      constructor
      · intro h5; exact absurd h5 h
      · intro h5; rw [h5] at h; exact absurd (cmpZ_self _) h
end Go.Proofs.YtbpilielamjnoaaGreat
namespace Go.Proofs.YtbpilielamjnoaaGreat
open Go.RowKit
set_option linter.unusedSimpArgs false
set_option linter.unusedVariables false
structure Cl where
  refs : List Int
  body : Fm
def noF : Fm := .mk 0 0 [] []
def at? {α : Type} (acc : List (Option α)) (r : Int) : Option α := (acc[r.toNat]?).join
section
variable {α : Type} {f : List (Option α) → Cl → Option α}
end
/-! alternatives -/
theorem validF_of {f : Fm} (h1 : f.size ≤ 96) (h2 : f.deep ≤ 8) (h3 : wholeB f = true) : validF f = 0 := by
  unfold validF
  rw [if_neg (by omega), if_pos h3]
end Go.Proofs.YtbpilielamjnoaaGreat
namespace Go.Proofs.YtbpilielamjnoaaGreat
set_option linter.unusedSimpArgs false
set_option linter.unusedVariables false
theorem goodB.smlo {x : Itv} (h : goodB x = true) (hi : x.loI = false) : smallB x.lo = true := by
  have := (goodB_iff.1 h).1
  unfold limB at this
  rwa [if_neg (by rw [hi]; simp)] at this
theorem goodB.smhi {x : Itv} (h : goodB x = true) (hi : x.hiI = false) : smallB x.hi = true := by
  have := (goodB_iff.1 h).2.1
  unfold limB at this
  rwa [if_neg (by rw [hi]; simp)] at this
end Go.Proofs.YtbpilielamjnoaaGreat
namespace Go.Proofs.YtbpilielamjnoaaGreat
open Go.RowKit
set_option linter.unusedSimpArgs false
set_option linter.unusedVariables false
theorem formed1_mk (op n : Int) (inn : List Itv) (kids : List Fm) : formed1 (.mk op n inn kids) = if (op ≠ 2 ∧ inn ≠ []) ∨ (op ≠ 2 ∧ op ≠ 1 ∧ n ≠ 0) then false
  else if op = 0 then kids.isEmpty
  else if op = 1 then kids.isEmpty && decide (0 ≤ n) && decide (n < 64)
  else if op = 2 then kids.isEmpty && decide (0 ≤ n) && decide (n < 32) && decide (setE inn = 0)
  else if op = 3 ∨ op = 6 then decide (kids.length = 1)
  else decide (op = 4) || decide (op = 5) := rfl
theorem emp_len {α : Type} (l : List α) : l.isEmpty = ((l.length : Int) == 0) := by
  rw [Bool.eq_iff_iff, List.isEmpty_iff, ← List.length_eq_zero_iff]; simp; 
theorem len1 {α : Type} (l : List α) : decide (l.length = 1) = ((l.length : Int) == 1) := by
  rw [Bool.eq_iff_iff]; simp; omega
set_option maxHeartbeats 1000000 in
theorem formed_c (f : Fm) (cs : List Value) (w : World) (hr : FmR (ph w) cs f) : Calls Tryz.prog 44 #[.agg cs.toArray] w (RetV w (.bool (formed1 f))) := by
  obtain ⟨a3, c3, a4, c4, rfl, -, -, hil, hkl, hi, hk⟩ := hr.form
  unfold fmC
  obtain ⟨op, n, inn, kids⟩ := f
  simp only [Fm.op, Fm.n, Fm.inn, Fm.kids] at *
  clear hr
  by_cases h2 : op = 2
  · subst h2
    by_cases hk0 : kids.length = 0
    · by_cases hn0 : 0 ≤ n
      · by_cases hn1 : n < 32
        · have hv : Hid (formed1 (.mk 2 n inn kids) = (setE inn == 0)) := by
            show _ = _
            rw [formed1_mk]
            have : kids.isEmpty = true := by rw [List.isEmpty_iff]; exact List.eq_nil_of_length_eq_zero hk0
            simp [this, hn0, hn1]
            rfl
          have hc := Lib.hid hi
          clear hi hk
          have b1 : decide (0 ≤ n) = true := by simpa using hn0
          have b2 : decide (n < 32) = true := by simpa using hn1
          have b3 : ((kids.length : Int) == 0) = true := by simpa using hk0
          go_enter Tryz.func44, Tryz.ntmps44
          go_wp2_with fail
          refine RetV_at (valid_c _ inn _ (hc.out.mono mono_ItvR (Ext.ple (by with_reducible repeat (first | assumption | exact Ext.rfl' _ | exact Ext.new _ _ | refine Ext.alloc' ?_ _ | refine Ext.drew' ?_ | refine Ext.drewN' ?_ _ | (refine Ext.then (b := ?_) ?_ ?_; rotate_left; rotate_left; assumption)))))) ?_
          intro w1 hx1
          generalize setE inn = e at *
          go_wp2_with fail
          go_ret
          exact ⟨ret_bool hv.out.symm, (by with_reducible repeat (first | assumption | exact Ext.rfl' _ | exact Ext.new _ _ | refine Ext.alloc' ?_ _ | refine Ext.drew' ?_ | refine Ext.drewN' ?_ _ | (refine Ext.then (b := ?_) ?_ ?_; rotate_left; rotate_left; assumption)))⟩
        · have hv : Hid (formed1 (.mk 2 n inn kids) = false) := by
            show _ = _
            rw [formed1_mk]
            simp [hn1]
          have b1 : decide (0 ≤ n) = true := by simpa using hn0
          have b2 : decide (n < 32) = false := by simpa using hn1
          have b3 : ((kids.length : Int) == 0) = true := by simpa using hk0
          clear hi hk
          go_enter Tryz.func44, Tryz.ntmps44
          go_wp2_with fail
          go_ret
          exact ⟨ret_bool hv.out.symm, (by with_reducible repeat (first | assumption | exact Ext.rfl' _ | exact Ext.new _ _ | refine Ext.alloc' ?_ _ | refine Ext.drew' ?_ | refine Ext.drewN' ?_ _ | (refine Ext.then (b := ?_) ?_ ?_; rotate_left; rotate_left; assumption)))⟩
      · have hv : Hid (formed1 (.mk 2 n inn kids) = false) := by
          show _ = _
          rw [formed1_mk]
          simp [hn0]
        have b1 : decide (0 ≤ n) = false := by simpa using hn0
        have b3 : ((kids.length : Int) == 0) = true := by simpa using hk0
        clear hi hk
        go_enter Tryz.func44, Tryz.ntmps44
        go_wp2_with fail
        go_ret
        exact ⟨ret_bool hv.out.symm, (by with_reducible repeat (first | assumption | exact Ext.rfl' _ | exact Ext.new _ _ | refine Ext.alloc' ?_ _ | refine Ext.drew' ?_ | refine Ext.drewN' ?_ _ | (refine Ext.then (b := ?_) ?_ ?_; rotate_left; rotate_left; assumption)))⟩
    · have hv : Hid (formed1 (.mk 2 n inn kids) = false) := by
        show _ = _
        rw [formed1_mk]
        have : kids.isEmpty = false := by cases kids <;> simp_all
        simp [this]
      have b3 : ((kids.length : Int) == 0) = false := by simpa using hk0
      clear hi hk
      go_enter Tryz.func44, Tryz.ntmps44
      go_wp2_with fail
      go_ret
      exact ⟨ret_bool hv.out.symm, (by with_reducible repeat (first | assumption | exact Ext.rfl' _ | exact Ext.new _ _ | refine Ext.alloc' ?_ _ | refine Ext.drew' ?_ | refine Ext.drewN' ?_ _ | (refine Ext.then (b := ?_) ?_ ?_; rotate_left; rotate_left; assumption)))⟩
  have a2 : (op == 2) = false := by simpa using h2
  have c2' : (op != 2) = true := by simpa using h2
  by_cases hin : 0 < inn.length
  · have hv : Hid (formed1 (.mk op n inn kids) = false) := by
      show _ = _
      rw [formed1_mk]
      have : inn ≠ [] := by intro e; subst e; simp at hin
      simp [h2, this]
    have b1 : decide (0 < (inn.length : Int)) = true := by simpa using hin
    clear hi hk
    go_enter Tryz.func44, Tryz.ntmps44
    go_wp2_with fail
    go_ret
    exact ⟨ret_bool hv.out.symm, (by with_reducible repeat (first | assumption | exact Ext.rfl' _ | exact Ext.new _ _ | refine Ext.alloc' ?_ _ | refine Ext.drew' ?_ | refine Ext.drewN' ?_ _ | (refine Ext.then (b := ?_) ?_ ?_; rotate_left; rotate_left; assumption)))⟩
  have hin' : inn = [] := List.eq_nil_of_length_eq_zero (by omega)
  subst hin'
  have b1 : decide (0 < (([] : List Itv).length : Int)) = false := by simp
  by_cases h1 : op = 1
  · subst h1
    by_cases hk0 : kids.length = 0
    · have b3 : ((kids.length : Int) == 0) = true := by simpa using hk0
      by_cases hn0 : 0 ≤ n
      · have hv : Hid (formed1 (.mk 1 n [] kids) = decide (n < 64)) := by
          show _ = _
          rw [formed1_mk]
          have : kids.isEmpty = true := by rw [List.isEmpty_iff]; exact List.eq_nil_of_length_eq_zero hk0
          simp [this, hn0]
        have b2 : decide (0 ≤ n) = true := by simpa using hn0
        clear hi hk
        go_enter Tryz.func44, Tryz.ntmps44
        go_wp2_with fail
        go_ret
        exact ⟨ret_bool hv.out.symm, (by with_reducible repeat (first | assumption | exact Ext.rfl' _ | exact Ext.new _ _ | refine Ext.alloc' ?_ _ | refine Ext.drew' ?_ | refine Ext.drewN' ?_ _ | (refine Ext.then (b := ?_) ?_ ?_; rotate_left; rotate_left; assumption)))⟩
      · have hv : Hid (formed1 (.mk 1 n [] kids) = false) := by
          show _ = _
          rw [formed1_mk]
          simp [hn0]
        have b2 : decide (0 ≤ n) = false := by simpa using hn0
        clear hi hk
        go_enter Tryz.func44, Tryz.ntmps44
        go_wp2_with fail
        go_ret
        exact ⟨ret_bool hv.out.symm, (by with_reducible repeat (first | assumption | exact Ext.rfl' _ | exact Ext.new _ _ | refine Ext.alloc' ?_ _ | refine Ext.drew' ?_ | refine Ext.drewN' ?_ _ | (refine Ext.then (b := ?_) ?_ ?_; rotate_left; rotate_left; assumption)))⟩
    · have hv : Hid (formed1 (.mk 1 n [] kids) = false) := by
        show _ = _
        rw [formed1_mk]
        have : kids.isEmpty = false := by cases kids <;> simp_all
        simp [this]
      have b3 : ((kids.length : Int) == 0) = false := by simpa using hk0
      clear hi hk
      go_enter Tryz.func44, Tryz.ntmps44
      go_wp2_with fail
      go_ret
      exact ⟨ret_bool hv.out.symm, (by with_reducible repeat (first | assumption | exact Ext.rfl' _ | exact Ext.new _ _ | refine Ext.alloc' ?_ _ | refine Ext.drew' ?_ | refine Ext.drewN' ?_ _ | (refine Ext.then (b := ?_) ?_ ?_; rotate_left; rotate_left; assumption)))⟩
  have a1 : (op == 1) = false := by simpa using h1
  have c1' : (op != 1) = true := by simpa using h1
  by_cases hn : n = 0
  · subst hn
    clear hi hk
    by_cases h0 : op = 0
    · subst h0
      have hv : Hid (formed1 (.mk 0 0 [] kids) = ((kids.length : Int) == 0)) := by show _ = _; rw [formed1_mk, ← emp_len]; simp
      go_enter Tryz.func44, Tryz.ntmps44
      go_wp2_with fail
      go_ret
      exact ⟨ret_bool hv.out.symm, (by with_reducible repeat (first | assumption | exact Ext.rfl' _ | exact Ext.new _ _ | refine Ext.alloc' ?_ _ | refine Ext.drew' ?_ | refine Ext.drewN' ?_ _ | (refine Ext.then (b := ?_) ?_ ?_; rotate_left; rotate_left; assumption)))⟩
    have a0 : (op == 0) = false := by simpa using h0
    by_cases h3 : op = 3
    · subst h3
      have hv : Hid (formed1 (.mk 3 0 [] kids) = ((kids.length : Int) == 1)) := by show _ = _; rw [formed1_mk, ← len1]; simp
      go_enter Tryz.func44, Tryz.ntmps44
      go_wp2_with fail
      go_ret
      exact ⟨ret_bool hv.out.symm, (by with_reducible repeat (first | assumption | exact Ext.rfl' _ | exact Ext.new _ _ | refine Ext.alloc' ?_ _ | refine Ext.drew' ?_ | refine Ext.drewN' ?_ _ | (refine Ext.then (b := ?_) ?_ ?_; rotate_left; rotate_left; assumption)))⟩
    have a3' : (op == 3) = false := by simpa using h3
    by_cases h6 : op = 6
    · subst h6
      have hv : Hid (formed1 (.mk 6 0 [] kids) = ((kids.length : Int) == 1)) := by show _ = _; rw [formed1_mk, ← len1]; simp
      go_enter Tryz.func44, Tryz.ntmps44
      go_wp2_with fail
      go_ret
      exact ⟨ret_bool hv.out.symm, (by with_reducible repeat (first | assumption | exact Ext.rfl' _ | exact Ext.new _ _ | refine Ext.alloc' ?_ _ | refine Ext.drew' ?_ | refine Ext.drewN' ?_ _ | (refine Ext.then (b := ?_) ?_ ?_; rotate_left; rotate_left; assumption)))⟩
    have a6 : (op == 6) = false := by simpa using h6
    by_cases h4 : op = 4
    · subst h4
      have hv : Hid (formed1 (.mk 4 0 [] kids) = true) := by show _ = _; rw [formed1_mk]; simp
      go_enter Tryz.func44, Tryz.ntmps44
      go_wp2_with fail
      go_ret
      exact ⟨ret_bool hv.out.symm, (by with_reducible repeat (first | assumption | exact Ext.rfl' _ | exact Ext.new _ _ | refine Ext.alloc' ?_ _ | refine Ext.drew' ?_ | refine Ext.drewN' ?_ _ | (refine Ext.then (b := ?_) ?_ ?_; rotate_left; rotate_left; assumption)))⟩
    have a4' : (op == 4) = false := by simpa using h4
    have hv : Hid (formed1 (.mk op 0 [] kids) = (op == 5)) := by show _ = _; rw [formed1_mk, if_neg (by simp), if_neg h0, if_neg h1, if_neg h2, if_neg (by omega), decide_eq_false h4, Bool.false_or, Bool.eq_iff_iff]; simp
    go_enter Tryz.func44, Tryz.ntmps44
    go_wp2_with fail
    go_ret
    exact ⟨ret_bool hv.out.symm, (by with_reducible repeat (first | assumption | exact Ext.rfl' _ | exact Ext.new _ _ | refine Ext.alloc' ?_ _ | refine Ext.drew' ?_ | refine Ext.drewN' ?_ _ | (refine Ext.then (b := ?_) ?_ ?_; rotate_left; rotate_left; assumption)))⟩
  · have hv : Hid (formed1 (.mk op n [] kids) = false) := by
      show _ = _
      rw [formed1_mk]
      simp [h2, h1, hn]
    have b2 : (n == 0) = false := by simpa using hn
    have b4 : (n != 0) = true := by simpa using hn
    clear hi hk
    go_enter Tryz.func44, Tryz.ntmps44
    go_wp2_with fail
    go_ret
    exact ⟨ret_bool hv.out.symm, (by with_reducible repeat (first | assumption | exact Ext.rfl' _ | exact Ext.new _ _ | refine Ext.alloc' ?_ _ | refine Ext.drew' ?_ | refine Ext.drewN' ?_ _ | (refine Ext.then (b := ?_) ?_ ?_; rotate_left; rotate_left; assumption)))⟩
end Go.Proofs.YtbpilielamjnoaaGreat
namespace Go.Proofs.YtbpilielamjnoaaGreat
open Go.RowKit
set_option linter.unusedSimpArgs false
set_option linter.unusedVariables false
set_option maxHeartbeats 400000 in
theorem fdeep_c (f : Fm) : ∀ (cs : List Value) (w : World), FmR (ph w) cs f → f.deep < 1000000 →
    Calls Tryz.prog 15 #[.agg cs.toArray] w (RetV w (.int .i64 f.deep)) := by
  induction f using Fm.ind with
  | h f ih =>
    intro cs w hr hs
    obtain ⟨a3, c3, a4, c4, rfl, -, -, -, hlen, -, hp⟩ := hr.form
    unfold fmC
    rw [Fm.deep_eq] at hs
    go_enter Tryz.func15, Tryz.ntmps15
    go_wp2
    go_loopw [3, 9] (fun n i wr => ∃ k : Nat, k ≤ f.kids.length ∧ i = .int .i64 k ∧ n = .int .i64 (maxN Fm.deep (f.kids.take k) : Nat) ∧ Ext w wr) (fun _ i _ => f.kids.length - (intOf i).toNat)
    case atStart => exact ⟨0, Nat.zero_le _, rfl, by simp [maxN], (by with_reducible repeat (first | assumption | exact Ext.rfl' _ | exact Ext.new _ _ | refine Ext.alloc' ?_ _ | refine Ext.drew' ?_ | refine Ext.drewN' ?_ _ | (refine Ext.then (b := ?_) ?_ ?_; rotate_left; rotate_left; assumption)))⟩
    case round =>
      obtain ⟨k, hk, rfl, rfl, hb⟩ := hrel
      skip
      have hst := maxN_take_le Fm.deep f.kids k
      by_cases hlt : k < f.kids.length
      · have hp' := hp.mono mono_FmR hb.ple
        obtain ⟨b, o, b3, d3, b4, d4, rfl, h0, h1, h2, h3, hE, hbl⟩ := FmsR.at hp' k hlt
        unfold fmC at hE
        have H3 := Lib.hid (maxN_take Fm.deep f.kids k hlt)
        have hst2 := maxN_take_le Fm.deep f.kids (k+1)
        rw [H3.out] at hst2
        have H := Lib.hid ih
        clear ih hp hp'
        go_wp2_with fail
        refine (H.out _ (by simp) _ _ (mono_FmR _ _ _ _ (Ext.ple (by with_reducible repeat (first | assumption | exact Ext.rfl' _ | exact Ext.new _ _ | refine Ext.alloc' ?_ _ | refine Ext.drew' ?_ | refine Ext.drewN' ?_ _ | (refine Ext.then (b := ?_) ?_ ?_; rotate_left; rotate_left; assumption)))) hE) (by omega)).mono ?_
        rintro e w1 ⟨rfl, hb1⟩
        go_wp2_with fail
        go_roundw
        case rel => exact ⟨k + 1, by omega, by go_num, by rw [H3.out]; go_num, (by with_reducible repeat (first | assumption | exact Ext.rfl' _ | exact Ext.new _ _ | refine Ext.alloc' ?_ _ | refine Ext.drew' ?_ | refine Ext.drewN' ?_ _ | (refine Ext.then (b := ?_) ?_ ?_; rotate_left; rotate_left; assumption)))⟩
        case measure => simp [intOf]; omega
      · have hst2 : f.kids.take k = f.kids := List.take_of_length_le (by omega)
        have H3 := Lib.hid hst2
        clear hst2 ih hp
        go_wp2_with fail
        go_ret
        refine ⟨ret_int ?_, hb⟩
        rw [H3.out, Fm.deep_eq]; omega
end Go.Proofs.YtbpilielamjnoaaGreat
namespace Go.Proofs.YtbpilielamjnoaaGreat
open Go.RowKit Go.Shelf
set_option linter.unusedSimpArgs false
set_option linter.unusedVariables false
attribute [local go_sem] Oper.semAt_some
theorem FmsR.atH {H : PH} {w : World} {a : Option Addr} {n cap : Nat} {xs : List Fm} (hr : FmsR H (.slice a n cap) xs) (hl : PLe H (ph w)) (k : Nat) (hk : k < xs.length) :
    ∃ b o a3 c3 a4 c4, a = some ⟨b, o, none⟩ ∧ w.cell? ⟨b, o + k * 4, none⟩ = some (.int .i64 xs[k].op) ∧ w.cell? ⟨b, o + k * 4 + 1, none⟩ = some (.int .i64 xs[k].n) ∧
      w.cell? ⟨b, o + k * 4 + 2, none⟩ = some (.slice a3 xs[k].inn.length c3) ∧ w.cell? ⟨b, o + k * 4 + 3, none⟩ = some (.slice a4 xs[k].kids.length c4) ∧
      FmR H (fmC xs[k] a3 c3 a4 c4) xs[k] ∧ b < w.heap.size := by
  obtain ⟨b, o, cs, h1, h2, h3, h4⟩ := hr.get k hk
  obtain ⟨a3, c3, a4, c4, rfl, -⟩ := h4.form
  have h : ∀ j, j < 4 → w.cell? ⟨b, o + k * 4 + j, none⟩ = some ((fmC xs[k] a3 c3 a4 c4).getD j undef) := fun j hj => by rw [cell_ph]; exact cellAt_mono hl (h3 j hj)
  exact ⟨b, o, a3, c3, a4, c4, h1, h 0 (by omega), h 1 (by omega), h 2 (by omega), h 3 (by omega), h4, cell_lt (h 0 (by omega))⟩
theorem indexFunc_J {H : PH} (fid : Nat) (cap : Array Value) (vs : Value) (xs : List Fm) (hv : FmsR H vs xs) (R : Nat → World → Prop) (Rx : World → Prop) (w : World)
    (hfn : ∀ args w, (callFunc fid args).run Tryz.prog w = .ok (.enter fid args) w)
    (hf : ∀ k (h : k < xs.length) wr cs, R k wr → FmR H cs xs[k] → Calls Tryz.prog fid (#[.agg cs.toArray] ++ cap) wr fun e w' => (e = .returned (.bool false) ∧ R (k + 1) w') ∨ (e = .returned (.bool true) ∧ Rx w'))
    (hr : ∀ k wr, R k wr → PLe H (ph wr)) (h0 : R 0 w) :
    Calls Tryz.prog 125 #[vs, .func (.func fid) #[] cap] w fun e w' => (e = .returned (.int .i64 (-1)) ∧ R xs.length w') ∨ (∃ i : Int, 0 ≤ i ∧ e = .returned (.int .i64 i) ∧ Rx w') := by
  obtain ⟨a, c, rfl, hlen, hv⟩ := hv.form
  have HF := Lib.hid hf; clear hf
  have HR := Lib.hid hr; clear hr
  go_enter Tryz.func125, Tryz.ntmps125
  go_wp2
  go_loopw [8] (fun i wr => ∃ k : Nat, k ≤ xs.length ∧ i = .int .i64 k ∧ R k wr) (fun i _ => xs.length - (intOf i).toNat)
  case atStart => exact ⟨0, Nat.zero_le _, rfl, h0⟩
  case round =>
    obtain ⟨k, hk, rfl, hR⟩ := hrel
    by_cases hlt : k < xs.length
    · obtain ⟨b, o, b3, d3, b4, d4, rfl, g0, g1, g2, g3, hE, hbl⟩ := FmsR.atH hv (HR.out _ _ hR) k hlt
      unfold fmC at hE
      go_wp2_with fail
      refine (HF.out k hlt _ _ hR hE).mono ?_
      rintro e w1 (⟨rfl, h1⟩ | ⟨rfl, h1⟩)
      · go_wp2_with fail
        go_roundw
        case rel => exact ⟨k + 1, by omega, by go_num, h1⟩
        case measure => simp [intOf]; omega
      · go_wp2_with fail
        go_ret
        exact .inr ⟨_, by omega, rfl, h1⟩
    · obtain rfl : k = xs.length := by omega
      go_wp2_with fail
      go_ret
      exact .inl ⟨rfl, hR⟩
theorem containsFunc_J {H : PH} (fid : Nat) (cap : Array Value) (vs : Value) (xs : List Fm) (hv : FmsR H vs xs) (R : Nat → World → Prop) (Rx : World → Prop) (w : World)
    (hfn : ∀ args w, (callFunc fid args).run Tryz.prog w = .ok (.enter fid args) w)
    (hf : ∀ k (h : k < xs.length) wr cs, R k wr → FmR H cs xs[k] → Calls Tryz.prog fid (#[.agg cs.toArray] ++ cap) wr fun e w' => (e = .returned (.bool false) ∧ R (k + 1) w') ∨ (e = .returned (.bool true) ∧ Rx w'))
    (hr : ∀ k wr, R k wr → PLe H (ph wr)) (h0 : R 0 w) :
    Calls Tryz.prog 85 #[vs, .func (.func fid) #[] cap] w fun e w' => (e = .returned (.bool false) ∧ R xs.length w') ∨ (e = .returned (.bool true) ∧ Rx w') := by
  have HF := Lib.hid hf; clear hf
  have HR := Lib.hid hr; clear hr
  have HFN := Lib.hid hfn; clear hfn
  go_enter Tryz.func85, Tryz.ntmps85
  go_wp2_with fail
  refine (indexFunc_J fid cap vs xs hv R Rx _ HFN.out HF.out HR.out h0).mono ?_
  rintro e w1 (⟨rfl, h1⟩ | ⟨i, hi, rfl, h1⟩)
  · go_wp2_with fail
    go_ret
    exact .inl ⟨rfl, h1⟩
  · go_wp2_with fail
    go_ret
    exact .inr ⟨rfl, h1⟩
/-! what a round keeps: the body's own box Bo and the row that it leads to may turn -/
def XB (Bo : Nat) (W : World) (b : Nat) : Prop := b = Bo ∨ ∃ j v, W.cell? ⟨Bo, j, none⟩ = some v ∧ v.ownBlock = some b
def Good (Bo : Nat) (W : World) : Prop := Bo < W.heap.size ∧ ∀ b, XB Bo W b → b < W.heap.size
def Kx (n₀ Bo : Nat) (W W' : World) : Prop := Below n₀ W W' ∧ W.heap.size ≤ W'.heap.size ∧ (∀ b c T, Own W b c T → ¬XB Bo W b → Own W' b c T) ∧ ∀ b, XB Bo W' b → XB Bo W b ∨ (W.heap.size ≤ b ∧ b < W'.heap.size)
section
variable {n₀ Bo : Nat} {A B C W W' : World}
theorem Kx.rfl' (n₀ Bo : Nat) (W : World) : Kx n₀ Bo W W := ⟨Below.refl _ _, Nat.le_refl _, fun _ _ _ h _ => h, fun _ h => .inl h⟩
theorem Kx.then (h : Kx n₀ Bo A B) (k : Kx n₀ Bo B C) : Kx n₀ Bo A C := by
  refine ⟨h.1.trans k.1, Nat.le_trans h.2.1 k.2.1, fun b c T hb hx => ?_, fun b hb => ?_⟩
  · have hlt := hb.lt
    refine k.2.2.1 b c T (h.2.2.1 b c T hb hx) fun hx' => ?_
    rcases h.2.2.2 b hx' with h1 | h1
    · exact hx h1
    · omega
  · have := h.2.1; have := k.2.1
    rcases k.2.2.2 b hb with h1 | h1
    · rcases h.2.2.2 b h1 with h2 | h2
      · exact .inl h2
      · exact .inr (by omega)
    · exact .inr (by omega)
theorem Good.kx (h : Good Bo W) (k : Kx n₀ Bo W W') : Good Bo W' := by
  refine ⟨Nat.lt_of_lt_of_le h.1 k.2.1, fun b hb => ?_⟩
  rcases k.2.2.2 b hb with h1 | h1
  · exact Nat.lt_of_lt_of_le (h.2 b h1) k.2.1
  · exact h1.2
theorem XB.ext (h : Ext W W') (hB : Bo < W.heap.size) {b : Nat} : XB Bo W' b ↔ XB Bo W b := by
  unfold XB
  have e : ∀ j, W'.cell? ⟨Bo, j, none⟩ = W.cell? ⟨Bo, j, none⟩ := fun j => h.cells.1 Bo j hB
  simp only [e]
theorem Kx.ext (h : Ext W W') (hB : Bo < W.heap.size) (hn : n₀ ≤ W.heap.size) : Kx n₀ Bo W W' :=
  ⟨h.mono hn, h.size, fun b c T ho _ => ho.keep h, fun b hb => .inl ((XB.ext h hB).1 hb)⟩
def Held (Bo : Nat) (W : World) (b : Nat) (c : Array Value) (T : TypeId) : Prop := Own W b c T ∧ ¬XB Bo W b
theorem Held.kx {b : Nat} {c : Array Value} {T : TypeId} (h : Held Bo W b c T) (k : Kx n₀ Bo W W') : Held Bo W' b c T := by
  refine ⟨k.2.2.1 b c T h.1 h.2, fun hx => ?_⟩
  have hlt := h.1.lt
  rcases k.2.2.2 b hx with h1 | h1
  · exact h.2 h1
  · omega
theorem Held.new (hg : Good Bo W) {b : Nat} {c : Array Value} {T : TypeId} (e : Ext W W') (hb : W.heap.size ≤ b) (ho : Own W' b c T) : Held Bo W' b c T := by
  refine ⟨ho, fun hx => ?_⟩
  have := hg.2 b ((XB.ext e hg.1).1 hx)
  omega
theorem Good.ext (h : Good Bo W) (e : Ext W W') : Good Bo W' := h.kx (Kx.ext (n₀ := 0) e h.1 (Nat.zero_le _))
theorem Kx.put {w : World} (hn : n₀ ≤ w.heap.size) (hB : Bo < w.heap.size) (W : World) (l : Nat) (o o' : Obj) (hl : w.heap.size ≤ l) (h : W.heap[l]? = some o) (h1 : o.isCells = false) (h2 : o.isWalk = false) : Kx n₀ Bo W (W.putObj l o') := by
  have hb := belowK_b (w := w) (n₀ := w.heap.size) (Nat.le_refl _) W l o o' hl h h1 h2
  have e : ∀ j, (W.putObj l o').cell? ⟨Bo, j, none⟩ = W.cell? ⟨Bo, j, none⟩ := fun j => hb.cell (p := ⟨Bo, j, none⟩) hB
  refine ⟨hb.mono hn, hb.size, fun b c T ho _ => ?_, fun b hx => .inl ?_⟩
  · unfold Own at *
    have hne : b ≠ l := by rintro rfl; rw [h] at ho; cases ho; cases h1
    rw [World.putObj_heap_other hne]; exact ho
  · unfold XB at *
    simpa only [e] using hx
end
abbrev FmA (H : PH) := { p : List Value × Fm // FmR H p.1 p.2 }
def FmA.f {H : PH} (x : FmA H) : Fm := x.1.2
def fmsOf {H : PH} (l : List (FmA H)) : List Fm := l.map FmA.f
theorem fmsOf_app {H : PH} (l m : List (FmA H)) : fmsOf (l ++ m) = fmsOf l ++ fmsOf m := List.map_append
theorem fmsOf_len {H : PH} (l : List (FmA H)) : (fmsOf l).length = l.length := List.length_map _
def ItP {H : PH} (tot : List Fm) (pre : List (FmA H)) (l : List Fm) (J Jx : List (FmA H) → World → Prop) (n₀ Bo : Nat) (W : World) (e : Ending) (W' : World) : Prop :=
  (e = .returned (.bool true) ∧ ∃ ys, fmsOf ys = l ∧ J (pre ++ ys) W' ∧ Kx n₀ Bo W W') ∨ (e = .returned (.bool false) ∧ ∃ p, fmsOf p <+: tot ∧ Jx p W')
def YieldOk {H : PH} (n l N n₀ Bo : Nat) (J Jx : List (FmA H) → World → Prop) : Prop :=
  ∀ pre x W, J pre W → pre.length < N → YieldAt Fence.wide (n - 1) Tryz.prog l #[.agg x.1.1.toArray] W fun e W' =>
      (e = .returned (.bool true) ∧ J (pre ++ [x]) W' ∧ Kx n₀ Bo W W') ∨ (e = .returned (.bool false) ∧ Jx (pre ++ [x]) W')
end Go.Proofs.YtbpilielamjnoaaGreat
namespace Go.Proofs.YtbpilielamjnoaaGreat
open Go.RowKit Go.Shelf
set_option linter.unusedSimpArgs false
set_option linter.unusedVariables false
attribute [local go_sem] Oper.semAt_some
theorem nodes_p (f : Fm) (cs : List Value) (w : World) (hr : FmR (ph w) cs f) : Calls Tryz.prog 43 #[.agg cs.toArray] w fun e w' => e = .returned (.func (.func 83) #[] #[.pointer (some ⟨w.heap.size, 0, none⟩)]) ∧ w' = w.alloc (.cells cs.toArray 29) := by
  obtain ⟨a3, c3, a4, c4, rfl, -⟩ := hr.form
  unfold fmC
  go_enter Tryz.func43, Tryz.ntmps43
  go_wp2_with fail
  go_ret
  exact ⟨rfl, rfl⟩
section
variable {H : PH} {n l N n₀ Bo B1 B2 : Nat} {J Jx : List (FmA H) → World → Prop} {tot : List Fm}
def DownM (Bo l B1 B2 : Nat) (W : World) : Prop := Held Bo W B1 #[.func (.yield l) #[] #[]] 51 ∧
  Held Bo W B2 #[.func (.func 84) #[] #[.pointer (some ⟨B1, 0, none⟩), .pointer (some ⟨B2, 0, none⟩)]] 51
theorem DownM.kx {W W' : World} (h : DownM Bo l B1 B2 W) (k : Kx n₀ Bo W W') : DownM Bo l B1 B2 W' := ⟨h.1.kx k, h.2.kx k⟩
structure StepM (H : PH) (n₀ Bo l B1 B2 : Nat) (W : World) : Prop where
  sz : n₀ ≤ W.heap.size
  good : Good Bo W
  le : PLe H (ph W)
  m : DownM Bo l B1 B2 W
theorem StepM.kx {W W' : World} (hlow : ∀ k o, H k = some o → k < n₀) (h : StepM H n₀ Bo l B1 B2 W) (k : Kx n₀ Bo W W') : StepM H n₀ Bo l B1 B2 W' := by
  refine ⟨Nat.le_trans h.sz k.2.1, h.good.kx k, fun i o hi => ?_, h.m.kx k⟩
  show W'.heap[i]? = some o
  rw [k.1.block i (hlow i o hi)]
  exact h.le i o hi
theorem StepM.ext {W W' : World} (hlow : ∀ k o, H k = some o → k < n₀) (h : StepM H n₀ Bo l B1 B2 W) (e : Ext W W') : StepM H n₀ Bo l B1 B2 W' := h.kx hlow (Kx.ext e h.good.1 h.sz)
theorem node1_c (cs : List Value) (x : Fm) (W : World) (pre : List (FmA H)) (hx : FmR H cs x) (hM : StepM H n₀ Bo l B1 B2 W) (hlow : ∀ k o, H k = some o → k < n₀) (hJ : J pre W) (hJa : ∀ pre W o, J pre W → J pre (W.alloc o))
    (ih : ∀ W, StepM H n₀ Bo l B1 B2 W → J pre W → Calls Tryz.prog 84 #[.agg cs.toArray, .pointer (some ⟨B1, 0, none⟩), .pointer (some ⟨B2, 0, none⟩)] W (ItP tot pre x.pre J Jx n₀ Bo W)) :
    Calls Tryz.prog 86 #[.agg cs.toArray, .pointer (some ⟨B2, 0, none⟩)] W fun e W' => (e = .returned (.bool false) ∧ ∃ ys, fmsOf ys = x.pre ∧ J (pre ++ ys) W' ∧ Kx n₀ Bo W W') ∨ (e = .returned (.bool true) ∧ ∃ p, fmsOf p <+: tot ∧ Jx p W') := by
  obtain ⟨a3, c3, a4, c4, rfl, -⟩ := hx.form
  unfold fmC at *
  have hM1 := hM.ext hlow (Ext.new W (.cells #[.int .i64 x.op, .int .i64 x.n, .slice a3 x.inn.length c3, .slice a4 x.kids.length c4] 29))
  have hJ1 := hJa _ _ (.cells #[.int .i64 x.op, .int .i64 x.n, .slice a3 x.inn.length c3, .slice a4 x.kids.length c4] 29) hJ
  have hk1 : Kx n₀ Bo W (W.alloc (.cells #[.int .i64 x.op, .int .i64 x.n, .slice a3 x.inn.length c3, .slice a4 x.kids.length c4] 29)) := Kx.ext (Ext.new _ _) hM.good.1 hM.sz
  obtain ⟨f1, -⟩ := hM1.m.2.1.facts
  have f2 := f1 0
  simp only [List.getElem?_toArray, List.getElem?_cons_zero] at f2
  have HI := Lib.hid ih; clear ih f1
  go_enter Tryz.func86, Tryz.ntmps86
  go_wp2_with fail
  refine (HI.out _ hM1 hJ1).mono ?_
  rintro e w1 (⟨rfl, ys, h1, h2, h3⟩ | ⟨rfl, p, h1, h2⟩)
  · go_wp2_with fail
    go_ret
    exact .inl ⟨rfl, ys, h1, h2, hk1.then h3⟩
  · go_wp2_with fail
    go_ret
    exact .inr ⟨rfl, p, h1, h2⟩
theorem node_c (hn : 2 ≤ n) (hlow : ∀ k o, H k = some o → k < n₀) (hJa : ∀ pre W o, J pre W → J pre (W.alloc o)) (hY : YieldOk n l N n₀ Bo J Jx) (htot : tot.length ≤ N) (f : Fm) : ∀ (cs : List Value) (pre : List (FmA H)) (W : World),
    FmR H cs f → StepM H n₀ Bo l B1 B2 W → J pre W → fmsOf pre ++ f.pre <+: tot →
    Calls Tryz.prog 84 #[.agg cs.toArray, .pointer (some ⟨B1, 0, none⟩), .pointer (some ⟨B2, 0, none⟩)] W (ItP tot pre f.pre J Jx n₀ Bo W) := by
  induction f using Fm.ind with
  | h f ih =>
    intro cs pre W hr hM hJ ht
    have hlen : pre.length < N := by
      have := ht.length_le
      rw [List.length_append, fmsOf_len, Fm.pre_len] at this
      have := f.size_pos
      omega
    have hr' := hr
    obtain ⟨a3, c3, a4, c4, rfl, -, -, -, hkl, -, hk⟩ := hr.form
    unfold fmC at *
    have hM1 := hM.ext hlow (Ext.new W (.cells #[.int .i64 f.op, .int .i64 f.n, .slice a3 f.inn.length c3, .slice a4 f.kids.length c4] 29))
    have hJ1 := hJa _ _ (.cells #[.int .i64 f.op, .int .i64 f.n, .slice a3 f.inn.length c3, .slice a4 f.kids.length c4] 29) hJ
    have hk1 : Kx n₀ Bo W (W.alloc (.cells #[.int .i64 f.op, .int .i64 f.n, .slice a3 f.inn.length c3, .slice a4 f.kids.length c4] 29)) := Kx.ext (Ext.new _ _) hM.good.1 hM.sz
    have hB3 := Held.new hM.good (Ext.new W (.cells #[.int .i64 f.op, .int .i64 f.n, .slice a3 f.inn.length c3, .slice a4 f.kids.length c4] 29)) (Nat.le_refl _) (Own.new W _ _)
    obtain ⟨f1, -⟩ := hM1.m.1.1.facts
    have f2 := f1 0
    simp only [List.getElem?_toArray, List.getElem?_cons_zero] at f2
    obtain ⟨fn, tmps, assign, body, hy, hYR⟩ := hY _ ⟨(_, f), hr'⟩ _ hJ1 hlen
    dsimp only at hy
    have HI := Lib.hid ih; clear ih f1
    have hn1 : 1 ≤ n := by omega
    refine (callsIn_wide (n := n)).1 ?_
    refine callsIn_of_wp Tryz.func84 rfl trivial ?_ rfl
    simp only [Tryz.ntmps84, List.size_toArray, List.length_cons, List.length_nil, Nat.reduceAdd, Nat.reduceSub, Array.replicate_succ, Array.replicate_zero, List.push_toArray, List.append_toArray, List.nil_append, List.cons_append]
    gi_wp2
    refine hYR.mono ?_
    rintro e W3 (⟨rfl, hJ3, hk3⟩ | ⟨rfl, hJx3⟩)
    · have hM3 := hM1.kx hlow hk3
      have hB4 := hB3.kx hk3
      obtain ⟨f3, -⟩ := hB4.1.facts
      have f4 := f3 3
      simp only [List.getElem?_toArray, List.getElem?_cons_zero, List.getElem?_cons_succ] at f4
      clear f3
      gi_wp2
      refine ⟨trivial, callsIn_wide.2 ((containsFunc_J 86 #[.pointer (some ⟨B2, 0, none⟩)] _ f.kids hk
        (fun k wr => ∃ ys, fmsOf ys = (f.kids.take k).flatMap Fm.pre ∧ J (pre ++ [⟨(_, f), hr'⟩] ++ ys) wr ∧ Kx n₀ Bo W wr ∧ StepM H n₀ Bo l B1 B2 wr) (fun wr => ∃ p, fmsOf p <+: tot ∧ Jx p wr) _
        (fun args w => enterFn Tryz.func86 rfl rfl args w) ?_ (fun k wr h => h.choose_spec.2.2.2.le) ⟨[], rfl, by rw [List.append_nil]; exact hJ3, hk1.then hk3, hM3⟩).mono ?_)⟩
      · rintro k hkk wr cs ⟨ys, g1, g2, g3, g4⟩ hE
        have e : (f.kids.take (k + 1)).flatMap Fm.pre = (f.kids.take k).flatMap Fm.pre ++ f.kids[k].pre := by
          rw [List.take_succ_eq_append_getElem hkk, List.flatMap_append]; simp
        have ht2 : fmsOf (pre ++ [⟨(_, f), hr'⟩] ++ ys) ++ f.kids[k].pre <+: tot := by
          refine List.IsPrefix.trans ?_ ht
          rw [fmsOf_app, fmsOf_app, g1, Fm.pre_eq f]
          have e2 : fmsOf [(⟨(_, f), hr'⟩ : FmA H)] = [f] := rfl
          rw [e2, List.append_assoc, List.append_assoc, ← e]
          refine List.prefix_append_right_inj _ |>.2 ?_
          refine List.cons_prefix_cons.2 ⟨rfl, ?_⟩
          have e3 : f.kids.flatMap Fm.pre = (f.kids.take (k + 1)).flatMap Fm.pre ++ (f.kids.drop (k + 1)).flatMap Fm.pre := by rw [← List.flatMap_append, List.take_append_drop]
          rw [e3]
          exact List.prefix_append _ _
        refine (node1_c cs f.kids[k] wr _ hE g4 hlow g2 hJa fun W' hM' hJ' => HI.out _ (List.getElem_mem hkk) cs _ W' hE hM' hJ' ht2).mono ?_
        rintro e' w' (⟨rfl, zs, q1, q2, q3⟩ | ⟨rfl, p, q1, q2⟩)
        · refine .inl ⟨rfl, ys ++ zs, by rw [fmsOf_app, g1, q1, e], by rw [← List.append_assoc]; exact q2, g3.then q3, g4.kx hlow q3⟩
        · exact .inr ⟨rfl, p, q1, q2⟩
      · rintro e w4 (⟨rfl, ys, g1, g2, g3, g4⟩ | ⟨rfl, p, g1, g2⟩)
        · gi_wp2
          go_ret
          refine .inl ⟨rfl, ⟨(_, f), hr'⟩ :: ys, ?_, ?_, g3⟩
          · rw [Fm.pre_eq]
            rw [List.take_length] at g1
            show f :: fmsOf ys = _
            rw [g1]
          · rw [List.append_assoc] at g2; exact g2
        · gi_wp2
          go_ret
          exact .inr ⟨rfl, p, g1, g2⟩
    · gi_wp2
      refine ⟨trivial, ?_⟩
      gi_wp2
      go_ret
      refine .inr ⟨rfl, _, ?_, hJx3⟩
      refine List.IsPrefix.trans ?_ ht
      rw [fmsOf_app, Fm.pre_eq]
      exact (List.prefix_append_right_inj _).2 (List.cons_prefix_cons.2 ⟨rfl, List.nil_prefix⟩)
end
end Go.Proofs.YtbpilielamjnoaaGreat
namespace Go.Proofs.YtbpilielamjnoaaGreat
open Go.RowKit
theorem run_store_fn {P : Program} {w : World} {a : Addr} {m : Mode} (f : Fn) (x y : Array Value) : (store a (.func f x y) m).run P w = stored P w a (.func f x y) m := run_store P w a _ m rfl
end Go.Proofs.YtbpilielamjnoaaGreat
namespace Go.Proofs.YtbpilielamjnoaaGreat
open Go.RowKit Go.Shelf
set_option linter.unusedSimpArgs false
set_option linter.unusedVariables false
attribute [local go_sem] Oper.semAt_some run_store_fn
theorem Good.of {Bo : Nat} {W : World} {b : Value} {T : TypeId} (h : Own W Bo #[b] T) (hb : b.ownBlock = none) : Good Bo W := by
  refine ⟨h.lt, fun k hk => ?_⟩
  rcases hk with rfl | ⟨j, v, h1, h2⟩
  · exact h.lt
  · rw [h.facts.1 j] at h1
    match j, h1 with
    | 0, h1 => simp at h1; subst h1; rw [hb] at h2; cases h2
    | j + 1, h1 => simp at h1
theorem own_keptF {W W' : World} {row : Option Nat} {b : Nat} {c : Array Value} {T : TypeId} (h : Proofs.YtbpilielamjnoaaGreat.Own W b c T) (hg : W.grownBy W' row) (hrow : ∀ r, row = some r → ∃ o : Obj, W.heap[r]? = some o ∧ o.isCells = false) : Proofs.YtbpilielamjnoaaGreat.Own W' b c T :=
  h.grown hg fun e => by
    obtain ⟨o, h1, h2⟩ := hrow b e.symm
    unfold Proofs.YtbpilielamjnoaaGreat.Own at h
    rw [h] at h1
    cases h1
    cases h2
set_option maxRecDepth 100000 in
theorem nodes_seq {H : PH} {n n₀ Bo Bf : Nat} {w0 : World} {cs : List Value} {f : Fm} (hn : 3 ≤ n) (hg : Good Bo w0) (hle : PLe H (ph w0)) (hlow : ∀ k o, H k = some o → k < n₀) (hn₀ : n₀ ≤ w0.heap.size) (hB : Own w0 Bf cs.toArray 29) (hr : FmR H cs f) :
    SeqStopsK Fence.wide (n - 1) Tryz.prog 83 #[.pointer (some ⟨Bf, 0, none⟩)] (fun x : FmA H => #[.agg x.1.1.toArray]) (Kx n₀ Bo) (fun ys => fmsOf ys = f.pre) (fun p => fmsOf p <+: f.pre) f.pre.length w0 := by
  intro l J Jx W hW hJ _ hY h0
  obtain ⟨a3, c3, a4, c4, rfl, -⟩ := hr.form
  have hBW : Own W Bf _ _ := hB.keep hW
  have hgW : Good Bo W := hg.ext hW
  have hle1 : PLe H (ph W) := hle.trans (Ext.ple hW)
  have hsz : n₀ ≤ W.heap.size := Nat.le_trans hn₀ hW.size
  obtain ⟨f1, -⟩ := hBW.facts
  have q0 := f1 0
  have q1 := f1 1
  have q2 := f1 2
  have q3 := f1 3
  simp only [fmC, List.getElem?_toArray, List.getElem?_cons_zero, List.getElem?_cons_succ] at q0 q1 q2 q3
  have hlB := hBW.lt
  have hJa : ∀ pre W1 o, J pre W1 → J pre (W1.alloc o) := fun pre W1 o h => hJ pre W1 _ none h (World.grownBy_alloc W1 o none) (fun r e => by cases e)
  have e1 : Ext W ((W.alloc (.cells #[.func (.yield l) #[] #[]] 51)).alloc (.cells #[.func (.func 84) #[] #[.pointer (some ⟨W.heap.size, 0, none⟩), .pointer (some ⟨W.heap.size + 1, 0, none⟩)]] 51)) := (Ext.new W _).alloc' _
  have o1 : Own ((W.alloc (.cells #[.func (.yield l) #[] #[]] 51)).alloc (.cells #[.func (.func 84) #[] #[.pointer (some ⟨W.heap.size, 0, none⟩), .pointer (some ⟨W.heap.size + 1, 0, none⟩)]] 51)) W.heap.size #[.func (.yield l) #[] #[]] 51 := (Own.new W _ _).alloc _
  have o2 : Own ((W.alloc (.cells #[.func (.yield l) #[] #[]] 51)).alloc (.cells #[.func (.func 84) #[] #[.pointer (some ⟨W.heap.size, 0, none⟩), .pointer (some ⟨W.heap.size + 1, 0, none⟩)]] 51)) (W.heap.size + 1) #[.func (.func 84) #[] #[.pointer (some ⟨W.heap.size, 0, none⟩), .pointer (some ⟨W.heap.size + 1, 0, none⟩)]] 51 := Own.new' _ _ _ (by simp)
  have hJ2 := hJa _ _ (.cells #[.func (.func 84) #[] #[.pointer (some ⟨W.heap.size, 0, none⟩), .pointer (some ⟨W.heap.size + 1, 0, none⟩)]] 51) (hJa _ _ (.cells #[.func (.yield l) #[] #[]] 51) h0)
  have hM : StepM H n₀ Bo l W.heap.size (W.heap.size + 1) _ := ⟨Nat.le_trans hsz e1.size, hgW.ext e1, hle1.trans e1.ple, Held.new hgW e1 (Nat.le_refl _) o1, Held.new hgW e1 (by omega) o2⟩
  have hk := Kx.ext (n₀ := n₀) e1 hgW.1 hsz
  have HC := Lib.hid (node_c (B1 := W.heap.size) (B2 := W.heap.size + 1) (n := n - 1) (N := f.pre.length) (Jx := Jx) (by omega) hlow hJa hY (Nat.le_refl _) f _ [] _ hr hM hJ2 (List.prefix_refl _))
  clear hM hJ2 o1 o2 e1 f1 hB hBW hW hY hJ h0
  refine callsIn_of_wp Tryz.func83 rfl trivial ?_ rfl
  simp only [Tryz.ntmps83, List.size_toArray, List.length_cons, List.length_nil, Nat.reduceAdd, Nat.reduceSub, Array.replicate_succ, Array.replicate_zero, List.push_toArray, List.append_toArray, List.nil_append, List.cons_append]
  gi_wp2
  refine ⟨trivial, fun _ => by omega, callsIn_wide.2 (HC.out.mono ?_)⟩
  rintro e w4 (⟨rfl, ys, g1, g2, g3⟩ | ⟨rfl, p, g1, g2⟩)
  · gi_wp2
    go_end0
    exact ⟨⟨_, rfl⟩, .inl ⟨ys, g1, g2⟩⟩
  · gi_wp2
    go_end0
    exact ⟨⟨_, rfl⟩, .inr ⟨p, g1, g2⟩⟩
theorem Kx.setBo {n₀ Bo : Nat} {W : World} {v u : Value} {T : TypeId} (h : Own W Bo #[v] T) (hn : n₀ ≤ Bo) (hu : u.ownBlock = none) : Kx n₀ Bo W (W.setCell ⟨Bo, 0, none⟩ u) := by
  have h2 := h.set 0 u
  refine ⟨(Below.refl n₀ W).setCell (p := ⟨Bo, 0, none⟩) hn u, by simp, fun b c T' hb hx => hb.setOther (p := ⟨Bo, 0, none⟩) (fun e => hx (.inl e)) u, fun b hx => ?_⟩
  rcases hx with rfl | ⟨j, v', h3, h4⟩
  · exact .inl (.inl rfl)
  · rw [h2.facts.1 j] at h3
    match j, h3 with
    | 0, h3 => simp at h3; subst h3; rw [hu] at h4; cases h4
    | j + 1, h3 => simp at h3
theorem ph_low (w : World) : ∀ k o, ph w k = some o → k < w.heap.size := fun k o h => ph_lt h
set_option maxRecDepth 100000 in
set_option maxHeartbeats 1000000 in
theorem fsize_in (f : Fm) (cs : List Value) (w : World) (hr : FmR (ph w) cs f) (hs : f.size ≤ 1000000) : CallsIn Fence.wide 7 Tryz.prog 13 #[.agg cs.toArray] w (RetV w (.int .i64 f.size)) := by
  have hr' := hr
  obtain ⟨a3, c3, a4, c4, rfl, -⟩ := hr.form
  unfold fmC at hr' ⊢
  refine callsIn_of_wp_marks Tryz.func13 rfl trivial ?_ rfl
  simp only [Tryz.ntmps13, List.size_toArray, List.length_cons, List.length_nil, Nat.reduceAdd, Nat.reduceSub, Array.replicate_succ, Array.replicate_zero, List.push_toArray, List.append_toArray, List.nil_append, List.cons_append]
  refine wpIn_wide.2 ?_
  go_wp2_with fail
  refine (nodes_p f _ _ (mono_FmR _ _ _ _ (Ext.ple (by with_reducible repeat (first | assumption | exact Ext.rfl' _ | exact Ext.new _ _ | refine Ext.alloc' ?_ _ | refine Ext.drew' ?_ | refine Ext.drewN' ?_ _ | (refine Ext.then (b := ?_) ?_ ?_; rotate_left; rotate_left; assumption)))) hr')).mono ?_
  rintro e w' ⟨rfl, rfl⟩
  go_wp2_with fail
  refine (wpIn_wide (n := 7)).1 ?_
  have hx0 : Ext w (((w.alloc (.cells #[.int .i64 f.op, .int .i64 f.n, .slice a3 f.inn.length c3, .slice a4 f.kids.length c4] 29)).alloc (.cells #[.int .i64 0] 3)).alloc (.cells #[.int .i64 f.op, .int .i64 f.n, .slice a3 f.inn.length c3, .slice a4 f.kids.length c4] 29)) := (by with_reducible repeat (first | assumption | exact Ext.rfl' _ | exact Ext.new _ _ | refine Ext.alloc' ?_ _ | refine Ext.drew' ?_ | refine Ext.drewN' ?_ _ | (refine Ext.then (b := ?_) ?_ ?_; rotate_left; rotate_left; assumption)))
  have hsz : (((w.alloc (.cells #[.int .i64 f.op, .int .i64 f.n, .slice a3 f.inn.length c3, .slice a4 f.kids.length c4] 29)).alloc (.cells #[.int .i64 0] 3)).alloc (.cells #[.int .i64 f.op, .int .i64 f.n, .slice a3 f.inn.length c3, .slice a4 f.kids.length c4] 29)).heap.size = w.heap.size + 3 := by simp
  have hO1 : Own (((w.alloc (.cells #[.int .i64 f.op, .int .i64 f.n, .slice a3 f.inn.length c3, .slice a4 f.kids.length c4] 29)).alloc (.cells #[.int .i64 0] 3)).alloc (.cells #[.int .i64 f.op, .int .i64 f.n, .slice a3 f.inn.length c3, .slice a4 f.kids.length c4] 29)) (w.heap.size + 1) #[.int .i64 0] 3 := (by repeat (first | (with_reducible assumption) | (with_reducible exact Own.new _ _ _) | (with_reducible refine Own.new' _ _ _ ?_; (focus (simp; done))) | (with_reducible refine Own.alloc ?_ _) | (with_reducible refine Own.drew ?_) | (with_reducible refine Own.drewN ?_ _) | (with_reducible refine Own.keep (w := ?_) ?_ ?_; rotate_left; (with_reducible assumption); (exact (by with_reducible repeat (first | assumption | exact Ext.rfl' _ | exact Ext.new _ _ | refine Ext.alloc' ?_ _ | refine Ext.drew' ?_ | refine Ext.drewN' ?_ _ | (refine Ext.then (b := ?_) ?_ ?_; rotate_left; rotate_left; assumption))))) | (with_reducible refine Own.keep (w := ?_) ?_ ?_; rotate_left; rotate_left; (with_reducible assumption))))
  have hO2 : Own (((w.alloc (.cells #[.int .i64 f.op, .int .i64 f.n, .slice a3 f.inn.length c3, .slice a4 f.kids.length c4] 29)).alloc (.cells #[.int .i64 0] 3)).alloc (.cells #[.int .i64 f.op, .int .i64 f.n, .slice a3 f.inn.length c3, .slice a4 f.kids.length c4] 29)) (w.heap.size + 1 + 1) #[.int .i64 f.op, .int .i64 f.n, .slice a3 f.inn.length c3, .slice a4 f.kids.length c4] 29 := (by repeat (first | (with_reducible assumption) | (with_reducible exact Own.new _ _ _) | (with_reducible refine Own.new' _ _ _ ?_; (focus (simp; done))) | (with_reducible refine Own.alloc ?_ _) | (with_reducible refine Own.drew ?_) | (with_reducible refine Own.drewN ?_ _) | (with_reducible refine Own.keep (w := ?_) ?_ ?_; rotate_left; (with_reducible assumption); (exact (by with_reducible repeat (first | assumption | exact Ext.rfl' _ | exact Ext.new _ _ | refine Ext.alloc' ?_ _ | refine Ext.drew' ?_ | refine Ext.drewN' ?_ _ | (refine Ext.then (b := ?_) ?_ ?_; rotate_left; rotate_left; assumption))))) | (with_reducible refine Own.keep (w := ?_) ?_ ?_; rotate_left; rotate_left; (with_reducible assumption))))
  generalize ((w.alloc (.cells #[.int .i64 f.op, .int .i64 f.n, .slice a3 f.inn.length c3, .slice a4 f.kids.length c4] 29)).alloc (.cells #[.int .i64 0] 3)).alloc (.cells #[.int .i64 f.op, .int .i64 f.n, .slice a3 f.inn.length c3, .slice a4 f.kids.length c4] 29) = W0 at *
  have hps : f.pre.length = f.size := f.pre_len
  refine wpIn_rangeFunc_ownF rfl (by omega) (gf := 83) (lb := #[.pointer (some ⟨w.heap.size + 1 + 1, 0, none⟩)]) rfl trivial (enters_of Tryz.func83 (by kernel_rfl) rfl)
    (encs := fun x : FmA (ph w) => #[.agg x.1.1.toArray]) (Kp := Kx w.heap.size (w.heap.size + 1)) (S := fun ys => fmsOf ys = f.pre) (Sp := fun p => fmsOf p <+: f.pre) (N := f.pre.length)
    (w0 := W0) (nodes_seq (by omega) (Good.of hO1 rfl) hx0.ple (ph_low w) (by omega) hO2 hr') Kx.then (Kx.put (by omega) (by omega)) (Below.refl _ _) (fun _ => rfl)
    (fun pre W => Own W (w.heap.size + 1) #[.int .i64 pre.length] 3 ∧ Ext w W) (fun _ _ _ => False)
    ?hI (fun _ _ _ _ _ hs _ _ => hs) ⟨hO1, hx0⟩ ?a1 ?assign ?body ?done ?stop
  case hI =>
    rintro pre A B row ⟨h1, h2⟩ hg hr
    exact ⟨own_keptF h1 hg fun r e => (hr r e).2, h2.grown hg fun r e => Nat.le_trans (by omega) (hr r e).1⟩
  case assign =>
    intro l x W K hK
    gi_wp2
    exact hK
  case body =>
    rintro l pre x W ⟨h1, h2⟩ hlen
    obtain ⟨f1, f2⟩ := h1.facts
    have q0 := f1 0
    have q1 := f2 0
    simp only [List.getElem?_toArray, List.getElem?_cons_zero] at q0
    have hlt := h1.lt
    clear f1 f2
    have hp : pre.length ≤ 1000000 := by omega
    gi_wp2
    refine ⟨KeepsOthers.setCell _ _ _, Kx.setBo h1 (by omega) rfl, ⟨?_, h2.set' (p := ⟨w.heap.size + 1, 0, none⟩) (by simp) _⟩⟩
    have := h1.set 0 (.int .i64 ((pre.length : Int) + 1))
    simpa using this
  case done =>
    rintro D xs W hD hS ⟨h1, h2⟩ hK
    have hl : Hid (xs.length = f.size) := by show _ = _; rw [← hps, ← hS, fmsOf_len]
    obtain ⟨f1, -⟩ := h1.facts
    have q0 := f1 0
    simp only [List.getElem?_toArray, List.getElem?_cons_zero] at q0
    have hlt := h1.lt
    clear f1
    gi_wp2
    go_wp2_with fail
    refine ⟨by simp, .inl ⟨_, _, rfl, run_takeDeferred hK, ?_⟩⟩
    refine ⟨_, results_tmp rfl _ _ _, ?_, h2.trans ((belowK_b (w := W0) (Nat.le_refl _) _ D _ _ hD hK rfl rfl).mono (by omega))⟩
    exact ret_int (by rw [hl.out])
  case stop =>
    rintro D c pre W _ _ h _
    exact h.elim
theorem fsize_c (f : Fm) (cs : List Value) (w : World) (hr : FmR (ph w) cs f) (hs : f.size ≤ 1000000) : Calls Tryz.prog 13 #[.agg cs.toArray] w (RetV w (.int .i64 f.size)) := (callsIn_wide (n := 7)).1 (fsize_in f cs w hr hs)
end Go.Proofs.YtbpilielamjnoaaGreat
