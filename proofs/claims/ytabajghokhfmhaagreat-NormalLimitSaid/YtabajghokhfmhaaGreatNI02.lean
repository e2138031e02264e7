/- Lemmas for NI, part 3: Formulas as plain data, and how they lie in memory, and more. -/
import Derived.Shelf.SlGeneric
import Derived.Shelf.SlSortCmp.WholeK
import Derived.Shelf.SlSortCmp.NoneTotal
import Derived.Ground.SlsfProg
import Derived.Test.YtabajghokhfmhaaGreatProg
import Derived.Test.YtabajghokhfmhaaGreatNI00
import Derived.Test.YtabajghokhfmhaaGreatNI01
set_option linter.unusedSimpArgs false
set_option linter.unusedVariables false
namespace Go.Proofs.YtabajghokhfmhaaGreat
open Go.RowKit
inductive Fm where
  | mk (op n : Int) (inn : List Itv) (kids : List Fm)
def Fm.op : Fm → Int | .mk o _ _ _ => o
def Fm.n : Fm → Int | .mk _ n _ _ => n
def Fm.inn : Fm → List Itv | .mk _ _ i _ => i
def Fm.kids : Fm → List Fm | .mk _ _ _ k => k
theorem Fm.eta (f : Fm) : f = .mk f.op f.n f.inn f.kids := by cases f; rfl
theorem Fm.ind {P : Fm → Prop} (h : ∀ f, (∀ g ∈ f.kids, P g) → P f) (f : Fm) : P f := by
  induction f using Fm.rec (motive_2 := fun xs => ∀ x ∈ xs, P x) with
  | mk o n i kids ih => exact h _ ih
  | nil => intros; contradiction
  | cons x xs h1 h2 =>
    rename_i y hy
    rcases List.mem_cons.1 hy with rfl | hy
    · exact h1
    · exact h2 y hy
mutual
def FmR (h : PH) : List Value → Fm → Prop
  | cs, .mk op n inn kids => ∃ v3 a4 c4, cs = [.int .i64 op, .int .i64 n, v3, .slice a4 kids.length c4] ∧ I64 op ∧ I64 n ∧ ItvsR h v3 inn ∧
      kids.length ≤ c4 ∧ c4 ≤ maxLen ∧ (kids = [] ∨ ∃ b o, a4 = some ⟨b, o, none⟩ ∧ FmsAt h b o kids)
def FmsAt (h : PH) (b : Nat) : Nat → List Fm → Prop
  | _, [] => True
  | o, x :: xs => (∃ cs, cs.length = 4 ∧ (∀ j, j < 4 → cellAt h b (o + j) = some (cs.getD j undef)) ∧ FmR h cs x) ∧ FmsAt h b (o + 4) xs
end
abbrev FmsR : PH → Value → List Fm → Prop := SliceRep FmR 4
theorem fmsAt_eq {h : PH} {b : Nat} : ∀ {xs : List Fm} {o : Nat}, FmsAt h b o xs ↔ RowRep h FmR 4 b o xs
  | [], o => by simp [FmsAt, RowRep]
  | x :: xs, o => by simp [FmsAt, RowRep, fmsAt_eq]
theorem fmR_iff {h : PH} {cs : List Value} {f : Fm} : FmR h cs f ↔ ∃ v3 v4, cs = [.int .i64 f.op, .int .i64 f.n, v3, v4] ∧ I64 f.op ∧ I64 f.n ∧ ItvsR h v3 f.inn ∧ FmsR h v4 f.kids := by
  cases f with
  | mk op n inn kids =>
    simp only [FmR, fmsAt_eq, Fm.op, Fm.n, Fm.inn, Fm.kids]
    constructor
    · rintro ⟨v3, a4, c4, rfl, h1, h2, h3, h4, h5, h6⟩
      exact ⟨v3, _, rfl, h1, h2, h3, a4, c4, rfl, h4, h5, h6⟩
    · rintro ⟨v3, v4, rfl, h1, h2, h3, a4, c4, rfl, h4, h5, h6⟩
      exact ⟨v3, a4, c4, rfl, h1, h2, h3, h4, h5, h6⟩
theorem mono_FmR : Mono FmR := by
  intro h h' cs x hl
  induction x using Fm.ind generalizing cs with
  | h f ih =>
    rw [fmR_iff, fmR_iff]
    rintro ⟨v3, v4, h1, h2, h3, h4, h5⟩
    exact ⟨v3, v4, h1, h2, h3, h4.mono mono_ItvR hl, h5.mono' hl fun cs x hx => ih x hx cs⟩
def fmC (f : Fm) (a3 : Option Addr) (c3 : Nat) (a4 : Option Addr) (c4 : Nat) : List Value := [.int .i64 f.op, .int .i64 f.n, .slice a3 f.inn.length c3, .slice a4 f.kids.length c4]
theorem FmR.form {h : PH} {cs : List Value} {f : Fm} (hr : FmR h cs f) : ∃ a3 c3 a4 c4, cs = fmC f a3 c3 a4 c4 ∧ I64 f.op ∧ I64 f.n ∧
    f.inn.length ≤ 9223372036854775807 ∧ f.kids.length ≤ 9223372036854775807 ∧
    ItvsR h (.slice a3 f.inn.length c3) f.inn ∧ FmsR h (.slice a4 f.kids.length c4) f.kids := by
  rw [fmR_iff] at hr
  obtain ⟨v3, v4, rfl, h1, h2, h3, h4⟩ := hr
  obtain ⟨a3, c3, rfl, b3, h3⟩ := h3.form
  obtain ⟨a4, c4, rfl, b4, h4⟩ := h4.form
  exact ⟨a3, c3, a4, c4, rfl, h1, h2, b3, b4, h3, h4⟩
theorem FmR.of {h : PH} {f : Fm} {a3 : Option Addr} {c3 : Nat} {a4 : Option Addr} {c4 : Nat} (h1 : I64 f.op) (h2 : I64 f.n) (h3 : ItvsR h (.slice a3 f.inn.length c3) f.inn) (h4 : FmsR h (.slice a4 f.kids.length c4) f.kids) : FmR h (fmC f a3 c3 a4 c4) f :=
  fmR_iff.2 ⟨_, _, rfl, h1, h2, h3, h4⟩
theorem FmsR.at {w : World} {a : Option Addr} {n cap : Nat} {xs : List Fm} (hr : FmsR (ph w) (.slice a n cap) xs) (k : Nat) (hk : k < xs.length) :
    ∃ b o a3 c3 a4 c4, a = some ⟨b, o, none⟩ ∧ w.cell? ⟨b, o + k * 4, none⟩ = some (.int .i64 xs[k].op) ∧ w.cell? ⟨b, o + k * 4 + 1, none⟩ = some (.int .i64 xs[k].n) ∧
      w.cell? ⟨b, o + k * 4 + 2, none⟩ = some (.slice a3 xs[k].inn.length c3) ∧ w.cell? ⟨b, o + k * 4 + 3, none⟩ = some (.slice a4 xs[k].kids.length c4) ∧
      FmR (ph w) (fmC xs[k] a3 c3 a4 c4) xs[k] ∧ b < w.heap.size := by
  obtain ⟨b, o, cs, h1, h2, h3, h4⟩ := hr.get k hk
  obtain ⟨a3, c3, a4, c4, rfl, -⟩ := h4.form
  have h : ∀ j, j < 4 → w.cell? ⟨b, o + k * 4 + j, none⟩ = some ((fmC xs[k] a3 c3 a4 c4).getD j undef) := fun j hj => by rw [cell_ph]; exact h3 j hj
  exact ⟨b, o, a3, c3, a4, c4, h1, h 0 (by omega), h 1 (by omega), h 2 (by omega), h 3 (by omega), h4, cell_lt (h 0 (by omega))⟩
mutual
def Fm.size : Fm → Nat
  | .mk _ _ _ kids => 1 + fsizes kids
def fsizes : List Fm → Nat
  | [] => 0
  | x :: xs => x.size + fsizes xs
end
theorem fsizes_eq : ∀ l : List Fm, fsizes l = sumN Fm.size l
  | [] => rfl
  | x :: xs => by simp [fsizes, sumN, fsizes_eq xs]
theorem Fm.size_eq (f : Fm) : f.size = 1 + sumN Fm.size f.kids := by
  cases f; simp [Fm.size, Fm.kids, fsizes_eq]
mutual
def Fm.deep : Fm → Nat
  | .mk _ _ _ kids => 1 + fdeeps kids
def fdeeps : List Fm → Nat
  | [] => 0
  | x :: xs => max x.deep (fdeeps xs)
end
theorem fdeeps_eq : ∀ l : List Fm, fdeeps l = maxN Fm.deep l
  | [] => rfl
  | x :: xs => by simp [fdeeps, maxN, fdeeps_eq xs]
theorem Fm.deep_eq (f : Fm) : f.deep = 1 + maxN Fm.deep f.kids := by
  cases f; simp [Fm.deep, Fm.kids, fdeeps_eq]
theorem Fm.deep_le_size (f : Fm) : f.deep ≤ f.size := by
  induction f using Fm.ind with
  | h f ih => rw [Fm.deep_eq, Fm.size_eq]; have := maxN_le_sumN Fm.deep Fm.size f.kids ih; omega
mutual
def Fm.bulk : Fm → Nat
  | .mk _ _ inn kids => 1 + inn.length + fbulks kids
def fbulks : List Fm → Nat
  | [] => 0
  | x :: xs => x.bulk + fbulks xs
end
theorem fbulks_eq : ∀ l : List Fm, fbulks l = sumN Fm.bulk l
  | [] => rfl
  | x :: xs => by simp [fbulks, sumN, fbulks_eq xs]
theorem Fm.bulk_eq (f : Fm) : f.bulk = 1 + f.inn.length + sumN Fm.bulk f.kids := by
  cases f; simp [Fm.bulk, Fm.kids, Fm.inn, fbulks_eq]
theorem Fm.bulk_pos (f : Fm) : 1 ≤ f.bulk := by rw [Fm.bulk_eq]; omega
theorem Fm.size_pos (f : Fm) : 1 ≤ f.size := by rw [Fm.size_eq]; omega
theorem Fm.size_le_bulk (f : Fm) : f.size ≤ f.bulk := by
  induction f using Fm.ind with
  | h f ih => rw [Fm.bulk_eq, Fm.size_eq]; have := sumN_le Fm.size Fm.bulk f.kids ih; omega
theorem Fm.kids_le (f : Fm) : f.kids.length ≤ f.bulk := by
  have := length_le_sumN Fm.bulk f.kids fun x _ => x.bulk_pos
  rw [Fm.bulk_eq]; omega
theorem Fm.kid_le {f g : Fm} (h : g ∈ f.kids) : g.bulk ≤ f.bulk := by
  have := sumN_mem Fm.bulk h
  rw [Fm.bulk_eq f]; omega
-- the nodes, each before its kids
mutual
def Fm.pre : Fm → List Fm
  | .mk o n i kids => .mk o n i kids :: fpres kids
def fpres : List Fm → List Fm
  | [] => []
  | x :: xs => x.pre ++ fpres xs
end
theorem fpres_eq : ∀ l : List Fm, fpres l = l.flatMap Fm.pre
  | [] => rfl
  | x :: xs => by simp [fpres, fpres_eq xs]
theorem Fm.pre_eq (f : Fm) : f.pre = f :: f.kids.flatMap Fm.pre := by
  cases f; simp [Fm.pre, Fm.kids, fpres_eq]
theorem flat_len : ∀ l : List Fm, (∀ x ∈ l, x.pre.length = x.size) → (l.flatMap Fm.pre).length = sumN Fm.size l
  | [], _ => rfl
  | x :: xs, h => by rw [List.flatMap_cons, List.length_append, h x (by simp), flat_len xs (fun y hy => h y (by simp [hy])), sumN]
theorem Fm.pre_len (f : Fm) : f.pre.length = f.size := by
  induction f using Fm.ind with
  | h f ih => rw [Fm.pre_eq, Fm.size_eq, List.length_cons, flat_len _ ih]; omega
def formed1 (f : Fm) : Bool :=
  if (f.op ≠ 2 ∧ f.inn ≠ []) ∨ (f.op ≠ 2 ∧ f.op ≠ 1 ∧ f.n ≠ 0) then false
  else if f.op = 0 then f.kids.isEmpty
  else if f.op = 1 then f.kids.isEmpty && decide (0 ≤ f.n) && decide (f.n < 64)
  else if f.op = 2 then f.kids.isEmpty && decide (0 ≤ f.n) && decide (f.n < 32) && decide (setE f.inn = 0)
  else if f.op = 3 ∨ f.op = 6 then decide (f.kids.length = 1)
  else decide (f.op = 4) || decide (f.op = 5)
def wholeB (f : Fm) : Bool := f.pre.all formed1
theorem wholeB_eq (f : Fm) : wholeB f = (formed1 f && f.kids.all wholeB) := by
  unfold wholeB
  rw [Fm.pre_eq, List.all_cons]
  congr 1
  induction f.kids with
  | nil => rfl
  | cons x xs ih => rw [List.flatMap_cons, List.all_append, List.all_cons, ih]
def validF (f : Fm) : Int := if 96 < f.size ∨ 8 < f.deep then 4 else if wholeB f then 0 else 1
theorem validF_0 {f : Fm} (h : validF f = 0) : f.size ≤ 96 ∧ f.deep ≤ 8 ∧ wholeB f = true := by
  unfold validF at h
  split at h
  · cases h
  · split at h
    · rename_i h1 h2; exact ⟨by omega, by omega, h2⟩
    · cases h
def oneI (b : Bool) : Int := if b then 1 else 0
def ordI (x : Itv) : List Int := [oneI x.loI, oneI x.loO, x.lo.num, x.lo.den, oneI x.hiI, oneI x.hiO, x.hi.num, x.hi.den]
def ordF (f : Fm) : List Int := [f.op, f.n, (f.inn.length : Int)] ++ f.inn.flatMap ordI ++ [(f.kids.length : Int)]
def cmpZ : List Int → List Int → Int
  | x :: xs, y :: ys => if x < y then -1 else if y < x then 1 else cmpZ xs ys
  | _, _ => 0
mutual
def cmpF : Fm → Fm → Int
  | .mk o n i k, .mk o' n' i' k' => if cmpZ (ordF (.mk o n i k)) (ordF (.mk o' n' i' k')) ≠ 0 then cmpZ (ordF (.mk o n i k)) (ordF (.mk o' n' i' k')) else cmpFs k k'
def cmpFs : List Fm → List Fm → Int
  | x :: xs, y :: ys => if cmpF x y ≠ 0 then cmpF x y else cmpFs xs ys
  | _, _ => 0
end
theorem cmpF_eq (a b : Fm) : cmpF a b = if cmpZ (ordF a) (ordF b) ≠ 0 then cmpZ (ordF a) (ordF b) else cmpFs a.kids b.kids := by
  cases a; cases b; rfl
theorem cmpZ_self : ∀ l : List Int, cmpZ l l = 0
  | [] => rfl
  | x :: xs => by simp [cmpZ, cmpZ_self xs]
theorem cmpZ_0 : ∀ {a b : List Int}, cmpZ a b = 0 → a.length = b.length → a = b
  | [], [], _, _ => rfl
  | [], _ :: _, _, h => by simp at h
  | _ :: _, [], _, h => by simp at h
  | x :: xs, y :: ys, h, hl => by
    rw [cmpZ] at h
    split at h
    · cases h
    · split at h
      · cases h
      · rename_i h1 h2
        have : x = y := by omega
        rw [this, cmpZ_0 h (by simpa using hl)]
theorem cmpZ_pre : ∀ {a b c d : List Int}, cmpZ (a ++ c) (b ++ d) = 0 → a.length = b.length → a = b
  | [], [], _, _, _, _ => rfl
  | [], _ :: _, _, _, _, h => by simp at h
  | _ :: _, [], _, _, _, h => by simp at h
  | x :: xs, y :: ys, c, d, h, hl => by
    rw [List.cons_append, List.cons_append, cmpZ] at h
    split at h
    · cases h
    · split at h
      · cases h
      · rename_i h1 h2
        have : x = y := by omega
        rw [this, cmpZ_pre h (by simpa using hl)]
theorem oneI_inj {a b : Bool} (h : oneI a = oneI b) : a = b := by cases a <;> cases b <;> first | rfl | cases h
theorem ordI_inj {x y : Itv} (h : ordI x = ordI y) : x = y := by
  obtain ⟨⟨a, b⟩, ⟨c, d⟩, p, q, r, s⟩ := x
  obtain ⟨⟨a', b'⟩, ⟨c', d'⟩, p', q', r', s'⟩ := y
  simp only [ordI, List.cons.injEq, and_true] at h
  obtain ⟨h1, h2, h3, h4, h5, h6, h7, h8⟩ := h
  have := oneI_inj h1; have := oneI_inj h2; have := oneI_inj h5; have := oneI_inj h6
  subst_vars; rfl
theorem ordIs_len : ∀ l : List Itv, (l.flatMap ordI).length = 8 * l.length
  | [] => rfl
  | x :: xs => by rw [List.flatMap_cons, List.length_append, ordIs_len xs]; simp [ordI]; omega
theorem ordIs_inj : ∀ {l m : List Itv}, l.length = m.length → l.flatMap ordI = m.flatMap ordI → l = m
  | [], [], _, _ => rfl
  | [], _ :: _, h, _ => by simp at h
  | _ :: _, [], h, _ => by simp at h
  | x :: xs, y :: ys, hl, h => by
    rw [List.flatMap_cons, List.flatMap_cons] at h
    obtain ⟨h1, h2⟩ := List.append_inj h (by simp [ordI])
    rw [ordI_inj h1, ordIs_inj (by simpa using hl) h2]
theorem ordF_len (f : Fm) : (ordF f).length = 4 + 8 * f.inn.length := by
  unfold ordF
  rw [List.length_append, List.length_append, ordIs_len]
  simp; omega
theorem ordF_0 {a b : Fm} (h : cmpZ (ordF a) (ordF b) = 0) : a.op = b.op ∧ a.n = b.n ∧ a.inn = b.inn ∧ a.kids.length = b.kids.length := by
  have h1 : [a.op, a.n, (a.inn.length : Int)] = [b.op, b.n, (b.inn.length : Int)] := by
    unfold ordF at h
    rw [List.append_assoc, List.append_assoc] at h
    exact cmpZ_pre h rfl
  simp only [List.cons.injEq, and_true] at h1
  obtain ⟨h2, h3, h4⟩ := h1
  have h5 : a.inn.length = b.inn.length := by omega
  have h6 := cmpZ_0 h (by rw [ordF_len, ordF_len, h5])
  unfold ordF at h6
  obtain ⟨h7, h8⟩ := List.append_inj h6 (by rw [List.length_append, List.length_append, ordIs_len, ordIs_len, h5]; rfl)
  obtain ⟨-, h9⟩ := List.append_inj h7 rfl
  refine ⟨h2, h3, ordIs_inj h5 h9, ?_⟩
  simp at h8; omega
theorem cmpFs_0 : ∀ {l m : List Fm}, (∀ x ∈ l, ∀ y, cmpF x y = 0 ↔ x = y) → l.length = m.length → (cmpFs l m = 0 ↔ l = m)
  | [], [], _, _ => by simp [cmpFs]
  | [], _ :: _, _, h => by simp at h
  | _ :: _, [], _, h => by simp at h
  | x :: xs, y :: ys, hx, hl => by
    have ih := cmpFs_0 (l := xs) (m := ys) (fun z hz => hx z (by simp [hz])) (by simpa using hl)
    have h1 := hx x (by simp) y
    rw [cmpFs]
    split
    · rename_i h
      constructor
      · intro h2; exact absurd h2 h
      · intro h2; cases h2; exact absurd (h1.2 rfl) h
    · rename_i h
      rw [ih]
      have : x = y := h1.1 (by omega)
      subst this
      simp
theorem cmpF_0 (a : Fm) : ∀ b, cmpF a b = 0 ↔ a = b := by
  induction a using Fm.ind with
  | h a ih =>
    intro b
    rw [cmpF_eq]
    by_cases h : cmpZ (ordF a) (ordF b) = 0
    · obtain ⟨h1, h2, h3, h4⟩ := ordF_0 h
      rw [if_neg (by simpa using h), cmpFs_0 ih h4]
      constructor
      · intro h5
        rw [a.eta, b.eta, h1, h2, h3, h5]
      · intro h5; rw [h5]
    · rw [if_pos h]
      constructor
      · intro h5; exact absurd h5 h
      · intro h5; rw [h5] at h; exact absurd (cmpZ_self _) h
structure Cl where
  refs : List Int
  body : Fm
def noF : Fm := .mk 0 0 [] []
section
variable {α : Type} {f : List (Option α) → Cl → Option α}
end
/-! alternatives -/
theorem validF_of {f : Fm} (h1 : f.size ≤ 96) (h2 : f.deep ≤ 8) (h3 : wholeB f = true) : validF f = 0 := by
  unfold validF
  rw [if_neg (by omega), if_pos h3]
end Go.Proofs.YtabajghokhfmhaaGreat
namespace Go.Proofs.YtabajghokhfmhaaGreat
open Go.RowKit Go.Shelf
def endsV (x : Itv) : Value := .tuple #[enA (loE x), enA (hiE x)]
set_option maxRecDepth 100000 in
set_option maxHeartbeats 2000000 in
theorem ends_c (x : Itv) (w : World) : Calls Tryz.prog 185 #[itA x] w (RetV w (endsV x)) := by
  obtain ⟨⟨a, b⟩, ⟨c, d⟩, lO, hO, lI, hI⟩ := x
  unfold itA
  dsimp only
  go_enter Tryz.func185, Tryz.ntmps185
  go_upto_region 1 with (fail)
  have hX : Ext w (((w.alloc (.cells #[.int .i64 a, .int .i64 b, .int .i64 c, .int .i64 d, .bool lO, .bool hO, .bool lI, .bool hI] 91)).alloc (.cells #[.int .i64 0, .int .i64 0, .int .i64 0, .bool false] 214)).alloc (.cells #[.int .i64 0, .int .i64 0, .int .i64 0, .bool false] 214)) := xE
  have hO1 := ((Own.new w #[.int .i64 a, .int .i64 b, .int .i64 c, .int .i64 d, .bool lO, .bool hO, .bool lI, .bool hI] 91).alloc (.cells #[.int .i64 0, .int .i64 0, .int .i64 0, .bool false] 214)).alloc (.cells #[.int .i64 0, .int .i64 0, .int .i64 0, .bool false] 214)
  obtain ⟨of, og⟩ := hO1.facts
  have o0 : _ = some (Value.int .i64 a) := of 0
  have o1 : _ = some (Value.int .i64 b) := of 1
  have o2 : _ = some (Value.int .i64 c) := of 2
  have o3 : _ = some (Value.int .i64 d) := of 3
  have o4 : _ = some (Value.bool lO) := of 4
  have o5 : _ = some (Value.bool hO) := of 5
  have o6 : _ = some (Value.bool lI) := of 6
  have o7 : _ = some (Value.bool hI) := of 7
  have hsz := hO1.lt
  clear of og hO1
  have hsz2 : w.heap.size + 1 + 1 < (((w.alloc (.cells #[.int .i64 a, .int .i64 b, .int .i64 c, .int .i64 d, .bool lO, .bool hO, .bool lI, .bool hI] 91)).alloc (.cells #[.int .i64 0, .int .i64 0, .int .i64 0, .bool false] 214)).alloc (.cells #[.int .i64 0, .int .i64 0, .int .i64 0, .bool false] 214)).heap.size := by simp
  have p2 := (Own.new' (w.alloc (.cells #[.int .i64 a, .int .i64 b, .int .i64 c, .int .i64 d, .bool lO, .bool hO, .bool lI, .bool hI] 91)) #[.int .i64 0, .int .i64 0, .int .i64 0, .bool false] 214 (n := w.heap.size + 1) (by simp)).alloc (.cells #[.int .i64 0, .int .i64 0, .int .i64 0, .bool false] 214)
  have p3 := Own.new' ((w.alloc (.cells #[.int .i64 a, .int .i64 b, .int .i64 c, .int .i64 d, .bool lO, .bool hO, .bool lI, .bool hI] 91)).alloc (.cells #[.int .i64 0, .int .i64 0, .int .i64 0, .bool false] 214)) #[.int .i64 0, .int .i64 0, .int .i64 0, .bool false] 214 (n := w.heap.size + 1 + 1) (by simp)
  generalize ((w.alloc _).alloc _).alloc _ = W at *
  replace p2 := Lib.hid p2
  replace p3 := Lib.hid p3
  go_cut [4, 5] (fun v4 v5 wx => ∃ g4 g5, v4 = .pointer (some ⟨g4, 0, none⟩) ∧ v5 = .pointer (some ⟨g5, 0, none⟩) ∧ g4 ≠ g5 ∧ W.heap.size ≤ g4 ∧ W.heap.size ≤ g5 ∧ Own wx g4 #[.int .i64 0, .int .i64 a, .int .i64 b, .bool lO] 214 ∧ Own wx g5 #[.int .i64 0, .int .i64 c, .int .i64 d, .bool !hO] 214 ∧ Ext W wx)
  case first =>
    go_region
    · go_wp2_with fail
      go_meet
      case rel => exact ⟨_, _, rfl, rfl, by omega, by omega, by omega, (Own.new W _ _).alloc _, Own.new' _ _ _ (by simp), xE⟩
    · go_wp2_with fail
      go_meet
      case rel => exact ⟨_, _, rfl, rfl, by omega, by omega, by omega, Own.new' _ _ _ (by simp), (Own.new W _ _).alloc _, xE⟩
  case rest =>
    obtain ⟨g4, g5, rfl, rfl, hne, l4, l5, q4, q5, hx⟩ := hcut
    replace o6 := hx.cell1 o6
    replace o7 := hx.cell1 o7
    replace p2 := p2.out.keep hx
    replace p3 := p3.out.keep hx
    replace hX := hX.then hx
    have hsz3 := hx.size
    clear o0 o1 o2 o3 o4 o5
    have n5 : g4 ≠ w.heap.size := by omega
    have n6 : g5 ≠ w.heap.size := by omega
    have hv : Hid (endsV ⟨⟨a, b⟩, ⟨c, d⟩, lO, hO, lI, hI⟩ = .tuple #[enA (if lI then botE else ⟨0, ⟨a, b⟩, lO⟩), enA (if hI then topE else ⟨0, ⟨c, d⟩, !hO⟩)]) := rfl
    have z4 := q4.lt
    have z5 := q5.lt
    generalize hL : (if lI then botE else ⟨0, ⟨a, b⟩, lO⟩ : En) = L at hv
    generalize hR : (if hI then topE else ⟨0, ⟨c, d⟩, !hO⟩ : En) = R at hv
    replace hL := Lib.hid hL
    replace hR := Lib.hid hR
    go_upto_if 18 with (fail)
    go_cut [] (fun wx => Own wx g4 #[.int .i64 L.far, .int .i64 L.at'.num, .int .i64 L.at'.den, .bool L.aft] 214 ∧ Own wx g5 #[.int .i64 0, .int .i64 c, .int .i64 d, .bool !hO] 214 ∧ Own wx (w.heap.size + 1) #[.int .i64 0, .int .i64 0, .int .i64 0, .bool false] 214 ∧ Own wx (w.heap.size + 1 + 1) #[.int .i64 0, .int .i64 0, .int .i64 0, .bool false] 214 ∧ wx.cell? ⟨w.heap.size, 7, none⟩ = some (.bool hI) ∧ Ext w wx)
    case first =>
      obtain ⟨c4, f4⟩ := q4.facts
      cases lI with
      | true =>
        have hL' : L = botE := by rw [← hL.out]; rfl
        go_wp2_with fail
        go_meet
        case rel =>
          subst hL'
          have k1 := ((((q4.set 0 (.int .i64 (-1))).set 1 (.int .i64 0)).set 2 (.int .i64 0)).set 3 (.bool false))
          exact ⟨k1, (((q5.setOther (p := ⟨g4, 0, none⟩) hne.symm _).setOther (p := ⟨g4, 1, none⟩) hne.symm _).setOther (p := ⟨g4, 2, none⟩) hne.symm _).setOther (p := ⟨g4, 3, none⟩) hne.symm _,
            (((p2.setOther (p := ⟨g4, 0, none⟩) (by simp; omega) _).setOther (p := ⟨g4, 1, none⟩) (by simp; omega) _).setOther (p := ⟨g4, 2, none⟩) (by simp; omega) _).setOther (p := ⟨g4, 3, none⟩) (by simp; omega) _,
            (((p3.setOther (p := ⟨g4, 0, none⟩) (by simp; omega) _).setOther (p := ⟨g4, 1, none⟩) (by simp; omega) _).setOther (p := ⟨g4, 2, none⟩) (by simp; omega) _).setOther (p := ⟨g4, 3, none⟩) (by simp; omega) _,
            by simp [go_sem, n5, Ne.symm n5, o7], xE⟩
      | false =>
        have hL' : L = ⟨0, ⟨a, b⟩, lO⟩ := by rw [← hL.out]; rfl
        go_wp2_with fail
        go_meet
        case rel => subst hL'; exact ⟨q4, q5, p2, p3, o7, hX⟩
    case rest =>
      clear q4 q5 p2 p3 o7 o6 hX z4 z5
      obtain ⟨q4, q5, p2, p3, o7, hX⟩ := hcut
      have z4 := q4.lt
      have z5 := q5.lt
      go_upto_if 21 with (fail)
      go_cut [] (fun wx => Own wx g4 #[.int .i64 L.far, .int .i64 L.at'.num, .int .i64 L.at'.den, .bool L.aft] 214 ∧ Own wx g5 #[.int .i64 R.far, .int .i64 R.at'.num, .int .i64 R.at'.den, .bool R.aft] 214 ∧ Own wx (w.heap.size + 1) #[.int .i64 0, .int .i64 0, .int .i64 0, .bool false] 214 ∧ Own wx (w.heap.size + 1 + 1) #[.int .i64 0, .int .i64 0, .int .i64 0, .bool false] 214 ∧ Ext w wx)
      case first =>
        obtain ⟨c5, f5⟩ := q5.facts
        cases hI with
        | true =>
          have hR' : R = topE := by rw [← hR.out]; rfl
          go_wp2_with fail
          go_meet
          case rel =>
            subst hR'
            exact ⟨(((q4.setOther (p := ⟨g5, 0, none⟩) hne _).setOther (p := ⟨g5, 1, none⟩) hne _).setOther (p := ⟨g5, 2, none⟩) hne _).setOther (p := ⟨g5, 3, none⟩) hne _,
              ((((q5.set 0 (.int .i64 1)).set 1 (.int .i64 0)).set 2 (.int .i64 0)).set 3 (.bool false)),
              (((p2.setOther (p := ⟨g5, 0, none⟩) (by simp; omega) _).setOther (p := ⟨g5, 1, none⟩) (by simp; omega) _).setOther (p := ⟨g5, 2, none⟩) (by simp; omega) _).setOther (p := ⟨g5, 3, none⟩) (by simp; omega) _,
              (((p3.setOther (p := ⟨g5, 0, none⟩) (by simp; omega) _).setOther (p := ⟨g5, 1, none⟩) (by simp; omega) _).setOther (p := ⟨g5, 2, none⟩) (by simp; omega) _).setOther (p := ⟨g5, 3, none⟩) (by simp; omega) _,
              xE⟩
        | false =>
          have hR' : R = ⟨0, ⟨c, d⟩, !hO⟩ := by rw [← hR.out]; rfl
          go_wp2_with fail
          go_meet
          case rel => subst hR'; exact ⟨q4, q5, p2, p3, hX⟩
      case rest =>
        clear q4 q5 p2 p3 o7 hX z4 z5
        obtain ⟨q4, q5, p2, p3, hX⟩ := hcut
        obtain ⟨c2, f2⟩ := p2.facts
        obtain ⟨c3, f3⟩ := p3.facts
        obtain ⟨c4, f4⟩ := q4.facts
        obtain ⟨c5, f5⟩ := q5.facts
        have z2 := p2.lt
        have z3 := p3.lt
        have z4 := q4.lt
        have z5 := q5.lt
        have n1 : g4 ≠ w.heap.size + 1 := by omega
        have n2 : g4 ≠ w.heap.size + 1 + 1 := by omega
        have n3 : g5 ≠ w.heap.size + 1 := by omega
        have n4 : g5 ≠ w.heap.size + 1 + 1 := by omega
        clear q4 q5 p2 p3 hL hR
        obtain ⟨Lf, ⟨Ln, Ld⟩, Lt⟩ := L
        obtain ⟨Rf, ⟨Rn, Rd⟩, Rt⟩ := R
        go_wp2_with fail
        go_region
        go_wp2_with fail
        exact bodyPost_ret (v := .tuple #[enA ⟨Lf, ⟨Ln, Ld⟩, Lt⟩, enA ⟨Rf, ⟨Rn, Rd⟩, Rt⟩]) (by simp [enA, results, Tryz.results185, go_sem, c2, c3, f2, f3, z2, z3]) rfl ⟨by rw [hv.out], xE⟩
theorem errIf_beq {p : Prop} [Decidable p] {k : Int} (hk : k ≠ 0) : ((ErrIf p k) == 0) = decide p := by
  by_cases h : p
  · rw [ErrIf_t h]; simp [h]
  · rw [ErrIf_f h]; simp [h, hk]
set_option maxRecDepth 100000 in
set_option maxHeartbeats 1000000 in
theorem small_c (r : Rat2) (w : World) (hr : r.I) : Calls Tryz.prog 183 #[raA r] w (RetV w (.bool (smallB r))) := by
  have hs : Hid (smallB r = (decide (RatOk r) && decide (-1073741824 ≤ r.num) && decide (r.num ≤ 1073741824) && decide (r.den ≤ 32768))) := by
    show _ = _
    rw [Bool.eq_iff_iff, smallB_iff]
    simp only [Bool.and_eq_true, decide_eq_true_eq]
    constructor
    · rintro ⟨h, h1, h2⟩; exact ⟨⟨⟨h, by omega⟩, by omega⟩, h2⟩
    · rintro ⟨⟨⟨h, h1⟩, h2⟩, h3⟩; exact ⟨h, by omega, h3⟩
  have hv := fun w => ratValid_c r w hr.1 hr.2
  have he := errIf_beq (p := RatOk r) (k := 1) (by decide)
  generalize ErrIf (RatOk r) 1 = z at hv he
  generalize decide (RatOk r) = ok at *
  generalize smallB r = q at *
  obtain ⟨n, d⟩ := r
  unfold raA
  dsimp only at *
  have hw := Ext.new w (.cells #[.int .i64 n, .int .i64 d] 72)
  go_enter Tryz.func183, Tryz.ntmps183
  go_wp2_with fail
  refine RetV_at (hv _) ?_
  intro w1 hx1
  obtain ⟨c1, f1, s1⟩ := hx1.cells
  simp at s1
  cases ok with
  | false =>
    go_wp2_with fail
    go_ret
    exact ⟨ret_bool (by rw [hs.out]; simp), xE⟩
  | true =>
    by_cases h1 : -1073741824 ≤ n
    · by_cases h2 : n ≤ 1073741824
      · go_wp2_with fail
        go_ret
        exact ⟨ret_bool (by rw [hs.out]; simp [h1, h2]), xE⟩
      · go_wp2_with fail
        go_ret
        exact ⟨ret_bool (by rw [hs.out]; simp; intros; omega), xE⟩
    · go_wp2_with fail
      go_ret
      exact ⟨ret_bool (by rw [hs.out]; simp; intros; omega), xE⟩
set_option maxRecDepth 100000 in
set_option maxHeartbeats 1000000 in
theorem limit_c (r : Rat2) (o inf : Bool) (w : World) (hr : r.I) : Calls Tryz.prog 182 #[raA r, .bool o, .bool inf] w (RetV w (.bool (limB r o inf))) := by
  have hsm := fun w => small_c r w hr
  obtain ⟨n, d⟩ := r
  unfold raA at *
  dsimp only at *
  have hw := Ext.new w (.cells #[.int .i64 n, .int .i64 d] 72)
  cases inf with
  | true =>
    have hs : Hid (limB ⟨n, d⟩ o true = ((n == 0 && d == 0) && !o)) := by
      show _ = _
      unfold limB
      rw [if_pos rfl]
      congr 1
      rw [Bool.eq_iff_iff]; simp
    generalize limB _ _ _ = q at hs ⊢
    clear hsm
    go_enter Tryz.func182, Tryz.ntmps182
    go_wp2_with fail
    all_goals (go_ret; exact ⟨ret_bool (by rw [hs.out]; simp [*]), xE⟩)
  | false =>
    have hs : Hid (limB ⟨n, d⟩ o false = smallB ⟨n, d⟩) := rfl
    generalize limB _ _ _ = q at hs ⊢
    go_enter Tryz.func182, Tryz.ntmps182
    go_wp2_with fail
    refine RetV_at (hsm _) ?_
    intro w1 hx1
    go_wp2_with fail
    go_ret
    exact ⟨ret_bool hs.out.symm, xE⟩
set_option maxRecDepth 100000 in
set_option maxHeartbeats 2000000 in
theorem good_c (x : Itv) (w : World) (hx : x.I) : Calls Tryz.prog 132 #[itA x] w (RetV w (.bool (goodB x))) := by
  have h1 := fun w => limit_c x.lo x.loO x.loI w hx.1
  have h2 := fun w => limit_c x.hi x.hiO x.hiI w hx.2
  have h3 := fun w => ends_c x w
  have hs : Hid (goodB x = (limB x.lo x.loO x.loI && limB x.hi x.hiO x.hiI && lessE (loE x) (hiE x))) := rfl
  have h4 := fun (w : World) (k1 : limB x.lo x.loO x.loI = true) (k2 : limB x.hi x.hiO x.hiI = true) => less_c (loE x) (hiE x) w (limB_lo k1).bd (limB_hi k2).bd
  obtain ⟨⟨a, b⟩, ⟨c, d⟩, lO, hO, lI, hI⟩ := x
  unfold itA raA endsV at *
  dsimp only at *
  generalize limB _ lO _ = p at *
  generalize limB _ hO _ = p' at *
  generalize lessE _ _ = p2 at *
  generalize goodB _ = q at *
  generalize enA _ = L at *
  generalize enA _ = R at *
  have hw := Ext.new w (.cells #[.int .i64 a, .int .i64 b, .int .i64 c, .int .i64 d, .bool lO, .bool hO, .bool lI, .bool hI] 91)
  have eg : ∀ args w, (callFunc 182 args).run Tryz.prog w = .ok (.enter 182 args) w := enters_of Tryz.func182 (by kernel_rfl) rfl
  replace h1 := Lib.hid h1
  replace h2 := Lib.hid h2
  replace h3 := Lib.hid h3
  replace h4 := Lib.hid h4
  have hO := Proofs.YtabajghokhfmhaaGreat.Own.new w #[.int .i64 a, .int .i64 b, .int .i64 c, .int .i64 d, .bool lO, .bool hO, .bool lI, .bool hI] 91
  go_enter Tryz.func132, Tryz.ntmps132
  go_upto_region 1 with (fail)
  generalize w.alloc _ = W at *
  obtain ⟨c0, f0⟩ := hO.facts
  have z0 := hO.lt
  go_wp2_with fail
  refine RetV_at (h1.out _) ?_
  intro w1 hx1
  replace hO := hO.keep hx1
  replace hw := hw.then hx1
  clear c0 f0 z0 hx1
  obtain ⟨c1, f1⟩ := hO.facts
  have z1 := hO.lt
  cases p with
  | false =>
    go_wp2_with fail
    go_ret
    exact ⟨ret_bool (by rw [hs.out]; simp), xE⟩
  | true =>
    go_wp2_with fail
    refine RetV_at (h2.out _) ?_
    intro w2 hx2
    replace hO := hO.keep hx2
    replace hw := hw.then hx2
    clear c1 f1 z1 hx2
    obtain ⟨c2, f2⟩ := hO.facts
    have z2 := hO.lt
    cases p' with
    | false =>
      go_wp2_with fail
      go_ret
      exact ⟨ret_bool (by rw [hs.out]; simp), xE⟩
    | true =>
      go_wp2_with fail
      refine RetV_at (h3.out _) ?_
      intro w3 hx3
      go_wp2_with fail
      refine RetV_at (h4.out _ (by first | trivial | rfl) (by first | trivial | rfl)) ?_
      intro w4 hx4
      go_wp2_with fail
      go_ret
      exact ⟨ret_bool (by rw [hs.out]; simp), xE⟩
set_option maxRecDepth 100000 in
set_option maxHeartbeats 2000000 in
theorem inside_c (x : Itv) (e : En) (w : World) (hx : goodB x = true) (he : e.bd) : Calls Tryz.prog 217 #[itA x, enA e] w (RetV w (.bool (insB x e))) := by
  have h3 := fun w => ends_c x w
  have hs : Hid (insB x e = (!lessE e (loE x) && lessE e (hiE x))) := rfl
  have h4 := fun (w : World) => less_c e (loE x) w he (goodB.lo hx).bd
  have h5 := fun (w : World) => less_c e (hiE x) w he (goodB.hi hx).bd
  unfold endsV at h3
  generalize lessE e (loE x) = p at *
  generalize lessE e (hiE x) = p' at *
  generalize insB _ _ = q at *
  generalize loE x = L at *
  generalize hiE x = R at *
  clear hx
  obtain ⟨⟨a, b⟩, ⟨c, d⟩, lO, hO, lI, hI⟩ := x
  obtain ⟨f, ⟨n, m⟩, t⟩ := e
  obtain ⟨f', ⟨n', m'⟩, t'⟩ := L
  obtain ⟨f2, ⟨n2, m2⟩, t2⟩ := R
  unfold itA enA at *
  dsimp only at *
  have hw := (Ext.new w (.cells #[.int .i64 a, .int .i64 b, .int .i64 c, .int .i64 d, .bool lO, .bool hO, .bool lI, .bool hI] 91)).alloc' (.cells #[.int .i64 f, .int .i64 n, .int .i64 m, .bool t] 214)
  have hO2 : Proofs.YtabajghokhfmhaaGreat.Own ((w.alloc (.cells #[.int .i64 a, .int .i64 b, .int .i64 c, .int .i64 d, .bool lO, .bool hO, .bool lI, .bool hI] 91)).alloc (.cells #[.int .i64 f, .int .i64 n, .int .i64 m, .bool t] 214)) (w.heap.size + 1) #[.int .i64 f, .int .i64 n, .int .i64 m, .bool t] 214 := Proofs.YtabajghokhfmhaaGreat.Own.new' _ _ _ (by simp)
  replace h3 := Lib.hid h3
  replace h4 := Lib.hid h4
  replace h5 := Lib.hid h5
  go_enter Tryz.func217, Tryz.ntmps217
  go_wp2_with fail
  generalize (w.alloc _).alloc _ = W at *
  refine RetV_at (h3.out _) ?_
  intro w1 hx1
  have hO3 := hO2.keep hx1
  replace hw := hw.then hx1
  clear hO2 hx1
  go_upto_region 2 with (fail)
  have hb := (hw.alloc' (.cells #[.int .i64 f', .int .i64 n', .int .i64 m', .bool t'] 214)).alloc' (.cells #[.int .i64 f2, .int .i64 n2, .int .i64 m2, .bool t2] 214)
  have k1 := (Proofs.YtabajghokhfmhaaGreat.Own.new w1 #[.int .i64 f', .int .i64 n', .int .i64 m', .bool t'] 214).alloc (.cells #[.int .i64 f2, .int .i64 n2, .int .i64 m2, .bool t2] 214)
  have k2 := Proofs.YtabajghokhfmhaaGreat.Own.new' (w1.alloc (.cells #[.int .i64 f', .int .i64 n', .int .i64 m', .bool t'] 214)) #[.int .i64 f2, .int .i64 n2, .int .i64 m2, .bool t2] 214 (n := w1.heap.size + 1) (by simp)
  have k3 := (hO3.alloc (.cells #[.int .i64 f', .int .i64 n', .int .i64 m', .bool t'] 214)).alloc (.cells #[.int .i64 f2, .int .i64 n2, .int .i64 m2, .bool t2] 214)
  generalize (w1.alloc _).alloc _ = W1 at *
  obtain ⟨c1, f1⟩ := k1.facts
  obtain ⟨c2, f2⟩ := k2.facts
  obtain ⟨c3, f3⟩ := k3.facts
  have z1 := k1.lt
  have z2 := k2.lt
  have z3 := k3.lt
  go_wp2_with fail
  refine RetV_at (h4.out _) ?_
  intro w2 hx2
  replace k2 := k2.keep hx2
  replace k3 := k3.keep hx2
  replace hb := hb.then hx2
  clear c1 f1 c2 f2 c3 f3 z1 z2 z3 hx2
  obtain ⟨c2, f2⟩ := k2.facts
  obtain ⟨c3, f3⟩ := k3.facts
  have z2 := k2.lt
  have z3 := k3.lt
  cases p with
  | true =>
    go_wp2_with fail
    go_ret
    exact ⟨ret_bool (by rw [hs.out]; simp), xE⟩
  | false =>
    go_wp2_with fail
    refine RetV_at (h5.out _) ?_
    intro w3 hx3
    go_wp2_with fail
    go_ret
    exact ⟨ret_bool (by rw [hs.out]; simp), xE⟩
theorem infoItv : (Tryz.prog.info? 91).map (fun i => (i.zero, i.size, i.bytes)) = some (some (.agg #[.int .i64 0, .int .i64 0, .int .i64 0, .int .i64 0, .bool false, .bool false, .bool false, .bool false]), 8, 40) := by kernel_rfl
theorem infoEn : (Tryz.prog.info? 214).map (fun i => (i.zero, i.size, i.bytes)) = some (some (.agg #[.int .i64 0, .int .i64 0, .int .i64 0, .bool false]), 4, 32) := by kernel_rfl
theorem one_ItvR {h : PH} : ∀ cs x, ItvR h cs x → ∀ u ∈ cs, u.oneCell' = true := by
  rintro cs x ⟨rfl, -⟩ u hu
  simp only [itC, List.mem_cons, List.not_mem_nil, or_false] at hu
  rcases hu with rfl | rfl | rfl | rfl | rfl | rfl | rfl | rfl <;> rfl
theorem one_EnR {h : PH} : ∀ cs x, EnR h cs x → ∀ u ∈ cs, u.oneCell' = true := by
  rintro cs x ⟨rfl, -⟩ u hu
  simp only [enC, List.mem_cons, List.not_mem_nil, or_false] at hu
  rcases hu with rfl | rfl | rfl | rfl <;> rfl
theorem ItvsR.at {w : World} {a : Option Addr} {n cap : Nat} {xs : List Itv} (hr : ItvsR (ph w) (.slice a n cap) xs) (k : Nat) (hk : k < xs.length) :
    ∃ b o, a = some ⟨b, o, none⟩ ∧ w.cell? ⟨b, o + k * 8, none⟩ = some (.int .i64 xs[k].lo.num) ∧ w.cell? ⟨b, o + k * 8 + 1, none⟩ = some (.int .i64 xs[k].lo.den) ∧ w.cell? ⟨b, o + k * 8 + 2, none⟩ = some (.int .i64 xs[k].hi.num) ∧ w.cell? ⟨b, o + k * 8 + 3, none⟩ = some (.int .i64 xs[k].hi.den) ∧ w.cell? ⟨b, o + k * 8 + 4, none⟩ = some (.bool xs[k].loO) ∧ w.cell? ⟨b, o + k * 8 + 5, none⟩ = some (.bool xs[k].hiO) ∧ w.cell? ⟨b, o + k * 8 + 6, none⟩ = some (.bool xs[k].loI) ∧ w.cell? ⟨b, o + k * 8 + 7, none⟩ = some (.bool xs[k].hiI) ∧ b < w.heap.size ∧ xs[k].I := by
  obtain ⟨b, o, cs, h1, h2, h3, rfl, h5⟩ := hr.get k hk
  have h : ∀ j, j < 8 → w.cell? ⟨b, o + k * 8 + j, none⟩ = some ((itC xs[k]).getD j undef) := fun j hj => by rw [cell_ph]; exact h3 j hj
  exact ⟨b, o, h1, h 0 (by omega), h 1 (by omega), h 2 (by omega), h 3 (by omega), h 4 (by omega), h 5 (by omega), h 6 (by omega), h 7 (by omega), cell_lt (h 0 (by omega)), h5⟩
set_option maxHeartbeats 400000 in
theorem indexFunc_itv (p : Itv → Bool) (fid : Nat) (cap : Array Value) (vs : Value) (xs : List Itv) (w : World) (hr : ItvsR (ph w) vs xs)
    (hfn : ∀ args w, (callFunc fid args).run Tryz.prog w = .ok (.enter fid args) w)
    (hf : ∀ w', Ext w w' → ∀ x ∈ xs, ∀ cs, ItvR (ph w') cs x → Calls Tryz.prog fid (#[.agg cs.toArray] ++ cap) w' (RetV w' (.bool (p x)))) :
    Calls Tryz.prog 181 #[vs, .func (.func fid) #[] cap] w (RetV w (.int .i64 (idxOf p xs))) := by
  obtain ⟨a, c, rfl, hlen, hr⟩ := hr.form
  have HF := Lib.hid hf; clear hf
  go_enter Tryz.func181, Tryz.ntmps181
  go_wp2
  go_loopw [8] (fun i wr => ∃ k : Nat, k ≤ xs.length ∧ i = .int .i64 k ∧ Hid (∀ x ∈ xs.take k, p x = false) ∧ Ext w wr) (fun i _ => xs.length - (intOf i).toNat)
  case atStart => exact ⟨0, Nat.zero_le _, rfl, Lib.hid (by simp), xE⟩
  case round =>
    obtain ⟨k, hk, rfl, HNO, hb⟩ := hrel
    by_cases hlt : k < xs.length
    · have hp' := hr.mono mono_ItvR hb.ple
      obtain ⟨b, o, rfl, h0, h1, h2, h3, h4, h5, h6, h7, hbl, hI⟩ := ItvsR.at hp' k hlt; have hE : ItvR (ph wr) (itC xs[k]) xs[k] := ⟨rfl, hI⟩; unfold itC at hE
      clear hp'
      go_wp2_with fail
      refine (HF.out _ xE _ (List.getElem_mem hlt) _ hE).mono ?_
      rintro e w1 ⟨rfl, hb1⟩
      cases hpk : p xs[k] with
      | true =>
        go_wp2_with fail
        go_ret
        exact ⟨ret_int (idxOf_found p xs k hlt hpk HNO.out).symm, xE⟩
      | false =>
        go_wp2_with fail
        go_roundw
        case rel => exact ⟨k + 1, by omega, by go_num, take_all hlt hpk HNO.out, xE⟩
        case measure => simp [intOf]; omega
    · clear hr HF
      go_wp2_with fail
      go_ret
      exact ⟨ret_int (idxOf_none p xs (take_done (by omega) HNO.out)).symm, xE⟩
theorem containsFunc_itv (p : Itv → Bool) (fid : Nat) (cap : Array Value) (vs : Value) (xs : List Itv) (w : World) (hr : ItvsR (ph w) vs xs)
    (hfn : ∀ args w, (callFunc fid args).run Tryz.prog w = .ok (.enter fid args) w)
    (hf : ∀ w', Ext w w' → ∀ x ∈ xs, ∀ cs, ItvR (ph w') cs x → Calls Tryz.prog fid (#[.agg cs.toArray] ++ cap) w' (RetV w' (.bool (p x)))) :
    Calls Tryz.prog 130 #[vs, .func (.func fid) #[] cap] w (RetV w (.bool (xs.any p))) := by
  have HF := Lib.hid hf; clear hf
  have HFN := Lib.hid hfn; clear hfn
  go_enter Tryz.func130, Tryz.ntmps130
  go_wp2_with fail
  refine (indexFunc_itv p fid cap vs xs _ hr HFN.out HF.out).mono ?_
  rintro e w1 ⟨rfl, hb1⟩
  have hx := Lib.hid (idxOf_ge p xs)
  generalize idxOf p xs = i at *
  go_wp2_with fail
  go_ret
  exact ⟨ret_bool hx.out, xE⟩
theorem few_c (v : Value) (l : List Itv) (w : World) (hr : ItvsR (ph w) v l) : Calls Tryz.prog 197 #[v] w (RetV w (.int .i64 (fewE l).2)) := by
  obtain ⟨a, c, rfl, hlen, hr⟩ := hr.form
  by_cases h : 32 < l.length
  · have hs : Hid ((fewE l).2 = 4) := by show _ = _; unfold fewE; rw [if_pos h]
    go_enter Tryz.func197, Tryz.ntmps197
    go_wp2
    go_ret
    exact ⟨ret_int hs.out.symm, xE⟩
  · have hs : Hid ((fewE l).2 = 0) := by show _ = _; unfold fewE; rw [if_neg h]
    go_enter Tryz.func197, Tryz.ntmps197
    go_wp2
    go_ret
    exact ⟨ret_int hs.out.symm, xE⟩
def prv (l : List Itv) : Nat → Option Itv
  | 0 => none
  | k + 1 => l[k]?
theorem setF_cons (p : Option Itv) (x : Itv) (r : List Itv) : setF p (x :: r) = (goodB x && (match p with | none => true | some y => lessE (hiE y) (loE x)) && setF (some x) r) := by cases p <;> rfl
theorem setF_drop {l : List Itv} {k : Nat} (h : k < l.length) (h0 : 0 < k) : setF (prv l k) (l.drop k) = (goodB l[k] && lessE (hiE (l[k - 1]'(by omega))) (loE l[k]) && setF (prv l (k + 1)) (l.drop (k + 1))) := by
  obtain ⟨j, rfl⟩ : ∃ j, k = j + 1 := ⟨k - 1, by omega⟩
  rw [List.drop_eq_getElem_cons h, setF_cons]
  simp only [prv, List.getElem?_eq_getElem h, List.getElem?_eq_getElem (show j < l.length by omega), Nat.add_sub_cancel]
theorem setF_zero {l : List Itv} (h : 0 < l.length) : setF (prv l 0) (l.drop 0) = (goodB l[0] && setF (prv l 1) (l.drop 1)) := by
  rw [List.drop_eq_getElem_cons h, setF_cons]
  simp only [prv, List.getElem?_eq_getElem h, Bool.and_true, Nat.zero_add]
theorem setF_good {l : List Itv} {k : Nat} (h : k < l.length) (hg : goodB l[k] = false) : setF (prv l k) (l.drop k) = false := by
  rw [List.drop_eq_getElem_cons h, setF_cons, hg]; rfl
set_option maxRecDepth 100000 in
set_option maxHeartbeats 4000000 in
theorem valid_c (v : Value) (l : List Itv) (w : World) (hr : ItvsR (ph w) v l) : Calls Tryz.prog 155 #[v] w (RetV w (.int .i64 (setE l))) := by
  have hfew := fun w hr => few_c v l w hr
  obtain ⟨a, c, rfl, hlen, hr⟩ := hr.form
  have hE : Hid (setE l = if setF none l = false then 1 else (fewE l).2) := by
    show _ = _
    unfold setE fewE
    split
    · rfl
    · split <;> rfl
  replace hfew := Lib.hid hfew
  go_enter Tryz.func155, Tryz.ntmps155
  go_wp2_with fail
  go_loopw [11] (fun i wr => ∃ k : Nat, k ≤ l.length ∧ i = .int .i64 k ∧ Hid (setF none l = setF (prv l k) (l.drop k) ∧ ∀ x ∈ l.take k, goodB x = true) ∧ Ext w wr) (fun i _ => l.length - (intOf i).toNat)
  case atStart => exact ⟨0, Nat.zero_le _, rfl, Lib.hid ⟨rfl, by simp⟩, Ext.rfl' _⟩
  case round =>
    obtain ⟨k, hk, rfl, ho, hx⟩ := hrel
    by_cases hlt : k < l.length
    · obtain ⟨b, o, rfl, h0, h1, h2, h3, h4, h5, h6, h7, hbl, hI⟩ := ItvsR.at (hr.mono mono_ItvR hx.ple) k hlt
      have hja : decide (k < l.length) = true := decide_eq_true hlt
      have hgood := fun w => good_c l[k] w hI
      have hends := fun w => ends_c l[k] w
      have hg0 := fun (hg : goodB l[k] = false) => setF_good hlt hg
      have hg1 := fun (hg : goodB l[k] = true) => take_all hlt hg ho.out.2
      have hk0 := fun (h : k = 0) (hg : goodB l[k] = true) => show setF (prv l k) (l.drop k) = setF (prv l (k + 1)) (l.drop (k + 1)) by
        subst h; rw [setF_zero hlt, hg, Bool.true_and]
      have hk1 := fun (h : 0 < k) => setF_drop hlt h
      have hless := fun (h : 0 < k) (hg : goodB l[k] = true) w => less_c (hiE (l[k - 1]'(by omega))) (loE l[k]) w (goodB.hi (ho.out.2 _ (by rw [List.mem_take_iff_getElem]; exact ⟨k - 1, by omega, rfl⟩))).bd (goodB.lo hg).bd
      obtain ⟨y, hy⟩ : ∃ y, ∀ h : 0 < k, y = l[k - 1]'(by omega) := by
        by_cases h : 0 < k
        · exact ⟨l[k - 1]'(by omega), fun _ => rfl⟩
        · exact ⟨l[k], fun h' => absurd h' h⟩
      have hrow := fun (h : 0 < k) => ItvsR.at (hr.mono mono_ItvR hx.ple) (k - 1) (by omega)
      have hst : ∀ h : 0 < k, lessE (hiE y) (loE l[k]) = lessE (hiE (l[k - 1]'(by omega))) (loE l[k]) := fun h => by rw [hy h]
      have hendy := fun w => ends_c y w
      unfold endsV at hends hendy
      have hless' : ∀ (h : 0 < k) (hg : goodB l[k] = true) w, Calls Tryz.prog 184 #[enA (hiE y), enA (loE l[k])] w (RetV w (.bool (lessE (hiE y) (loE l[k])))) := fun h hg w => by
        rw [hy h]; exact hless h hg w
      have hk1' : ∀ h : 0 < k, setF (prv l k) (l.drop k) = (goodB l[k] && lessE (hiE y) (loE l[k]) && setF (prv l (k + 1)) (l.drop (k + 1))) := fun h => by
        rw [hst h]; exact hk1 h
      have hrow' : ∀ h : 0 < k, wr.cell? ⟨b, o + (k - 1) * 8, none⟩ = some (.int .i64 y.lo.num) ∧ wr.cell? ⟨b, o + (k - 1) * 8 + 1, none⟩ = some (.int .i64 y.lo.den) ∧ wr.cell? ⟨b, o + (k - 1) * 8 + 2, none⟩ = some (.int .i64 y.hi.num) ∧ wr.cell? ⟨b, o + (k - 1) * 8 + 3, none⟩ = some (.int .i64 y.hi.den) ∧ wr.cell? ⟨b, o + (k - 1) * 8 + 4, none⟩ = some (.bool y.loO) ∧ wr.cell? ⟨b, o + (k - 1) * 8 + 5, none⟩ = some (.bool y.hiO) ∧ wr.cell? ⟨b, o + (k - 1) * 8 + 6, none⟩ = some (.bool y.loI) ∧ wr.cell? ⟨b, o + (k - 1) * 8 + 7, none⟩ = some (.bool y.hiI) := fun h => by
        obtain ⟨b', o', e, q0, q1, q2, q3, q4, q5, q6, q7, -⟩ := hrow h
        cases e
        rw [hy h]
        exact ⟨q0, q1, q2, q3, q4, q5, q6, q7⟩
      clear hless hk1 hst hrow hy
      generalize lessE (hiE y) (loE l[k]) = lt at *
      generalize hiE y = hy at *
      generalize loE y = ly at *
      generalize loE l[k] = lx at *
      generalize hiE l[k] = ux at *
      unfold itA at hgood hends hendy
      generalize goodB l[k] = gd at *
      generalize l[k] = x at *
      clear hI
      obtain ⟨⟨p, q⟩, ⟨r, s⟩, lO, rO, lI, rI⟩ := x
      obtain ⟨⟨p', q'⟩, ⟨r', s'⟩, lO', hO', lI', hI'⟩ := y
      obtain ⟨f1, ⟨n1, d1⟩, t1⟩ := lx
      obtain ⟨f2, ⟨n2, d2⟩, t2⟩ := ux
      obtain ⟨f3, ⟨n3, d3⟩, t3⟩ := ly
      obtain ⟨f4, ⟨n4, d4⟩, t4⟩ := hy
      unfold enA at *
      dsimp only at *
      replace hgood := Lib.hid hgood
      replace hends := Lib.hid hends
      replace hendy := Lib.hid hendy
      replace hless' := Lib.hid hless'
      replace hk0 := Lib.hid hk0
      replace hk1' := Lib.hid hk1'
      replace hg0 := Lib.hid hg0
      replace hg1 := Lib.hid hg1
      replace hrow' := Lib.hid hrow'
      go_upto_region 4 with (fail)
      have hO := Proofs.YtabajghokhfmhaaGreat.Own.new wr #[.int .i64 p, .int .i64 q, .int .i64 r, .int .i64 s, .bool lO, .bool rO, .bool lI, .bool rI] 91
      have hx1 := Ext.new wr (.cells #[.int .i64 p, .int .i64 q, .int .i64 r, .int .i64 s, .bool lO, .bool rO, .bool lI, .bool rI] 91)
      generalize wr.heap.size = b4 at *
      generalize wr.alloc _ = W at *
      have hE1 : Hid (setF none l = false → setE l = 1) := Lib.hid fun h => by rw [hE.out, if_pos h]
      replace hx := hx.then hx1
      obtain ⟨c0, f0⟩ := hO.facts
      have z0 := hO.lt
      go_wp2_with fail
      refine RetV_at (hgood.out _) ?_
      intro w2 hx2
      replace hO := hO.keep hx2
      replace hx := hx.then hx2
      have hx12 := hx1.then hx2
      clear c0 f0 z0 hx1 hx2 h0 h1 h2 h3 h4 h5 h6 h7
      obtain ⟨c0, f0⟩ := hO.facts
      have z0 := hO.lt
      cases gd with
      | false =>
        have h9 : Hid (setE l = 1) := Lib.hid (hE1.out (by rw [ho.out.1]; exact hg0.out rfl))
        go_wp2_with fail
        go_ret
        exact ⟨ret_int h9.out.symm, xE⟩
      | true =>
        by_cases hk00 : k = 0
        · have h8 : Hid (setF none l = setF (prv l (k + 1)) (l.drop (k + 1)) ∧ ∀ x ∈ l.take (k + 1), goodB x = true) := Lib.hid ⟨by rw [ho.out.1]; exact hk0.out hk00 rfl, hg1.out rfl⟩
          have hkb : decide (0 < k) = false := by simpa using hk00
          clear hk0 hk1' hrow' hless'
          go_wp2_with fail
          go_roundw
          case rel => exact ⟨k + 1, by omega, by go_num, h8.out, hx⟩
          case measure => simp [intOf]; omega
        · have hkb : decide (0 < k) = true := by simp; omega
          have hkp : 0 < k := by omega
          have hkm : IntKind.i64.wrap ((k : Int) - 1) = ((k - 1 : Nat) : Int) := by rw [IntKind.wrap_i64]; omega
          obtain ⟨q0, q1, q2, q3, q4, q5, q6, q7⟩ := hrow'.out hkp
          replace q0 := hx12.cell1 q0
          replace q1 := hx12.cell1 q1
          replace q2 := hx12.cell1 q2
          replace q3 := hx12.cell1 q3
          replace q4 := hx12.cell1 q4
          replace q5 := hx12.cell1 q5
          replace q6 := hx12.cell1 q6
          replace q7 := hx12.cell1 q7
          clear hrow' hk0
          go_wp2_with fail
          refine RetV_at (hends.out _) ?_
          intro w3 hx3
          replace hx := hx.then hx3
          replace q0 := hx3.cell1 q0
          replace q1 := hx3.cell1 q1
          replace q2 := hx3.cell1 q2
          replace q3 := hx3.cell1 q3
          replace q4 := hx3.cell1 q4
          replace q5 := hx3.cell1 q5
          replace q6 := hx3.cell1 q6
          replace q7 := hx3.cell1 q7
          have z9 := cell_lt q0
          clear c0 f0 z0 hO hx3 hx12
          go_upto_region 8 with (fail)
          have k1 := (Proofs.YtabajghokhfmhaaGreat.Own.new w3 #[.int .i64 f1, .int .i64 n1, .int .i64 d1, .bool t1] 214).alloc (.cells #[.int .i64 f2, .int .i64 n2, .int .i64 d2, .bool t2] 214)
          have hy3 := (Ext.new w3 (.cells #[.int .i64 f1, .int .i64 n1, .int .i64 d1, .bool t1] 214)).alloc' (.cells #[.int .i64 f2, .int .i64 n2, .int .i64 d2, .bool t2] 214)
          have z1 := k1.lt
          generalize hb5 : w3.heap.size = b5 at *
          generalize (w3.alloc _).alloc _ = W3 at *
          replace hx := hx.then hy3
          replace q0 := hy3.cell1 q0
          replace q1 := hy3.cell1 q1
          replace q2 := hy3.cell1 q2
          replace q3 := hy3.cell1 q3
          replace q4 := hy3.cell1 q4
          replace q5 := hy3.cell1 q5
          replace q6 := hy3.cell1 q6
          replace q7 := hy3.cell1 q7
          have z9' := cell_lt q0
          have hk1m : k - 1 < l.length := by omega
          clear z9 hy3 hb5
          go_wp2_with fail
          refine RetV_at (hendy.out _) ?_
          intro w4 hx4
          replace hx := hx.then hx4
          replace k1 := k1.keep hx4
          clear q0 q1 q2 q3 q4 q5 q6 q7 z9' z1 hx4
          go_upto_region 9 with (fail)
          have k2 := Proofs.YtabajghokhfmhaaGreat.Own.new' (w4.alloc (.cells #[.int .i64 f3, .int .i64 n3, .int .i64 d3, .bool t3] 214)) #[.int .i64 f4, .int .i64 n4, .int .i64 d4, .bool t4] 214 (n := w4.heap.size + 1) (by simp)
          have k3 := (k1.alloc (.cells #[.int .i64 f3, .int .i64 n3, .int .i64 d3, .bool t3] 214)).alloc (.cells #[.int .i64 f4, .int .i64 n4, .int .i64 d4, .bool t4] 214)
          have hy4 := (Ext.new w4 (.cells #[.int .i64 f3, .int .i64 n3, .int .i64 d3, .bool t3] 214)).alloc' (.cells #[.int .i64 f4, .int .i64 n4, .int .i64 d4, .bool t4] 214)
          replace hx := hx.then hy4
          generalize w4.heap.size = b8 at *
          generalize (w4.alloc _).alloc _ = W4 at *
          obtain ⟨c2, f2'⟩ := k2.facts
          obtain ⟨c3, f3'⟩ := k3.facts
          have z2 := k2.lt
          have z3 := k3.lt
          clear hy4 k1 k2 k3
          go_wp2_with fail
          refine RetV_at (hless'.out hkp (by first | trivial | rfl) _) ?_
          intro w5 hx5
          have hs := hk1'.out hkp
          replace hx := hx.then hx5
          clear c2 f2' c3 f3' z2 z3 hx5
          cases lt with
          | false =>
            have h9 : Hid (setE l = 1) := Lib.hid (hE1.out (by rw [ho.out.1, hs]; rfl))
            clear hs
            go_wp2_with fail
            go_ret
            exact ⟨ret_int h9.out.symm, xE⟩
          | true =>
            have h8 : Hid (setF none l = setF (prv l (k + 1)) (l.drop (k + 1)) ∧ ∀ x ∈ l.take (k + 1), goodB x = true) := Lib.hid ⟨by rw [ho.out.1, hs]; simp, hg1.out (by first | trivial | rfl)⟩
            clear hs
            go_wp2_with fail
            go_roundw
            case rel => exact ⟨k + 1, by omega, by go_num, h8.out, hx⟩
            case measure => simp [intOf]; omega
    · have hja : decide (k < l.length) = false := by simpa using hlt
      have hk2 : k = l.length := by omega
      have h9 : Hid (setE l = (fewE l).2) := Lib.hid (by
        have h1 := ho.out.1
        rw [hk2, List.drop_length] at h1
        rw [hE.out, if_neg (by rw [h1]; simp [setF])])
      go_wp2_with fail
      refine RetV_at (hfew.out _ (hr.mono mono_ItvR hx.ple)) ?_
      intro w2 hx2
      go_wp2_with fail
      go_ret
      exact ⟨ret_int h9.out.symm, xE⟩
def SetE (h : PH) (cs : List Value) (l : List Itv) : Prop := ∃ p q, cs = [.slice p l.length q] ∧ ItvsR h (.slice p l.length q) l
theorem mono_SetE : Mono SetE := fun h h' cs x hl ⟨p, q, e, hc⟩ => ⟨p, q, e, hc.mono mono_ItvR hl⟩
abbrev SetsR : PH → Value → List (List Itv) → Prop := SliceRep SetE 1
theorem SetsR.at {w : World} {a : Option Addr} {n cap : Nat} {xs : List (List Itv)} (hr : SetsR (ph w) (.slice a n cap) xs) (k : Nat) (hk : k < xs.length) :
    ∃ b o p q, a = some ⟨b, o, none⟩ ∧ w.cell? ⟨b, o + k, none⟩ = some (.slice p xs[k].length q) ∧ b < w.heap.size ∧ ItvsR (ph w) (.slice p xs[k].length q) xs[k] := by
  obtain ⟨b, o, cs, h1, h2, h3, ⟨p, q, rfl, h5⟩⟩ := hr.get k hk
  have c0 := h3 0 (by omega)
  have c1 : w.cell? ⟨b, o + k, none⟩ = some (.slice p xs[k].length q) := by rw [cell_ph]; simpa using c0
  exact ⟨b, o, p, q, h1, c1, cell_lt c1, h5⟩
def setsE (ls : List (List Itv)) : Int := match ls.find? (fun l => setE l ≠ 0) with | some l => setE l | none => 0
theorem setsE_drop {ls : List (List Itv)} {k : Nat} (h : k < ls.length) : setsE (ls.drop k) = if setE ls[k] ≠ 0 then setE ls[k] else setsE (ls.drop (k + 1)) := by
  rw [List.drop_eq_getElem_cons h]
  unfold setsE
  rw [List.find?_cons]
  by_cases h1 : setE ls[k] = 0 <;> simp [h1]
set_option maxRecDepth 100000 in
set_option maxHeartbeats 1000000 in
theorem valids_c (v : Value) (ls : List (List Itv)) (w : World) (hr : SetsR (ph w) v ls) : Calls Tryz.prog 229 #[v] w (RetV w (.int .i64 (setsE ls))) := by
  obtain ⟨a, c, rfl, hlen, hr⟩ := hr.form
  go_enter Tryz.func229, Tryz.ntmps229
  go_wp2_with fail
  go_loopw [8] (fun i wr => ∃ k : Nat, k ≤ ls.length ∧ i = .int .i64 k ∧ Hid (setsE ls = setsE (ls.drop k)) ∧ Ext w wr) (fun i _ => ls.length - (intOf i).toNat)
  case atStart => exact ⟨0, Nat.zero_le _, rfl, Lib.hid rfl, Ext.rfl' _⟩
  case round =>
    obtain ⟨k, hk, rfl, ho, hx⟩ := hrel
    by_cases hlt : k < ls.length
    · obtain ⟨b, o, p, q, rfl, h0, hbl, hI⟩ := SetsR.at (hr.mono mono_SetE hx.ple) k hlt
      have hja : decide (k < ls.length) = true := decide_eq_true hlt
      have hv := valid_c (.slice p ls[k].length q) ls[k] wr hI
      have hd := setsE_drop hlt
      generalize setE ls[k] = z at *
      generalize ls[k].length = nk at *
      replace hd := Lib.hid hd
      clear hr hI
      by_cases hz : z = 0
      · have h8 : Hid (setsE ls = setsE (ls.drop (k + 1))) := Lib.hid (by rw [ho.out, hd.out, if_neg (by simpa using hz)])
        subst hz
        go_wp2_with fail
        refine RetV_at hv ?_
        intro w2 hx2
        go_wp2_with fail
        go_roundw
        case rel => exact ⟨k + 1, by omega, by go_num, h8.out, xE⟩
        case measure => simp [intOf]; omega
      · have h8 : Hid (setsE ls = z) := Lib.hid (by rw [ho.out, hd.out, if_pos hz])
        have hzb : (z != 0) = true := by simpa using hz
        go_wp2_with fail
        refine RetV_at hv ?_
        intro w2 hx2
        go_wp2_with fail
        go_ret
        exact ⟨ret_int h8.out.symm, xE⟩
    · have hja : decide (k < ls.length) = false := by simpa using hlt
      have h8 : Hid (setsE ls = 0) := Lib.hid (by rw [ho.out, List.drop_of_length_le (by omega)]; rfl)
      go_wp2_with fail
      go_ret
      exact ⟨ret_int h8.out.symm, xE⟩
theorem eqL_drop {xs ys : List Itv} {k : Nat} (h1 : k < xs.length) (h2 : k < ys.length) : decide (xs.drop k = ys.drop k) = (decide (xs[k] = ys[k]) && decide (xs.drop (k + 1) = ys.drop (k + 1))) := by
  rw [List.drop_eq_getElem_cons h1, List.drop_eq_getElem_cons h2, Bool.eq_iff_iff]
  simp only [decide_eq_true_eq, Bool.and_eq_true, List.cons.injEq]
end Go.Proofs.YtabajghokhfmhaaGreat
namespace Go.Proofs.YtabajghokhfmhaaGreat
theorem goodB.smlo {x : Itv} (h : goodB x = true) (hi : x.loI = false) : smallB x.lo = true := by
  have := (goodB_iff.1 h).1
  unfold limB at this
  rwa [if_neg (by rw [hi]; simp)] at this
theorem goodB.smhi {x : Itv} (h : goodB x = true) (hi : x.hiI = false) : smallB x.hi = true := by
  have := (goodB_iff.1 h).2.1
  unfold limB at this
  rwa [if_neg (by rw [hi]; simp)] at this
end Go.Proofs.YtabajghokhfmhaaGreat
namespace Go.Proofs.YtabajghokhfmhaaGreat
open Go.RowKit Go.Shelf
theorem enC_len (e : En) : (enC e).length = 4 := rfl
theorem zeroEn (w : World) : (zeroValue 214).run Tryz.prog w = .ok (.agg #[.int .i64 0, .int .i64 0, .int .i64 0, .bool false]) w := by
  obtain ⟨i, hi, hz0, hz1, hz2⟩ := info_parts infoEn
  simp [zeroValue, typeInfo, hi, hz0]
def En.k (e : En) : En := e
abbrev ownN (v : Value) (xs : List En) : Chunk := own mono_EnR 4 214 v xs
def OwnPN (w0 : World) (LB : List Chunk) (ys : List En) (e : Ending) (w' : World) : Prop := ∃ v', e = .returned v' ∧ Mem w0 noH (ownN v' ys :: LB) noH w'
theorem endsM_row {w0 W : World} {LB : List Chunk} {oa : Option Addr} {N oc k : Nat} {xs : List En} {x : En} (hM : Mem w0 noH (ownN (.slice oa N oc) xs :: LB) noH W) (hk : xs[k]? = some x) :
    ∃ g, oa = some ⟨g, 0, none⟩ ∧ g < W.heap.size ∧ (∀ j u, (enC x)[j]? = some u → W.cell? ⟨g, k * 4 + j, none⟩ = some u) ∧ x.I := by
  obtain ⟨hkl, hkx⟩ := List.getElem?_eq_some_iff.1 hk
  obtain ⟨g, cap, cs, hv, hcs, hc, ⟨hc1, hI⟩, hg⟩ := hM.get 0 rfl k hkl
  rw [hkx] at hc1 hI
  subst hc1
  cases hv
  refine ⟨g, rfl, hg, fun j u hu => ?_, hI⟩
  obtain ⟨hj, he⟩ := List.getElem?_eq_some_iff.1 hu
  rw [hc j (by rw [enC_len] at hj; exact hj), ← he]
  simp [List.getD_eq_getElem?_getD, hj]
def ddP : Option En → List En → List En
  | _, [] => []
  | d, x :: r => if d = some x.k then ddP (some x.k) r else x :: ddP (some x.k) r
def lastD (d : Option En) (l : List En) : Option En := match l.getLast? with | some x => some x.k | none => d
theorem lastD_cons (d : Option En) (x : En) (l : List En) : lastD d (x :: l) = lastD (some x.k) l := by
  unfold lastD
  cases l with
  | nil => rfl
  | cons y r => rw [List.getLast?_cons_cons]; cases h : (y :: r).getLast? with
    | none => simp at h
    | some z => rfl
theorem ddP_snoc (x : En) : ∀ (l : List En) (d : Option En), ddP d (l ++ [x]) = ddP d l ++ if lastD d l = some x.k then [] else [x]
  | [], d => by
    show ddP d [x] = ddP d [] ++ _
    have e : lastD d [] = d := rfl
    rw [e]
    by_cases h : d = some x.k
    · rw [if_pos h]; show (if d = some x.k then ddP (some x.k) [] else x :: ddP (some x.k) []) = _; rw [if_pos h]; rfl
    · rw [if_neg h]; show (if d = some x.k then ddP (some x.k) [] else x :: ddP (some x.k) []) = _; rw [if_neg h]; rfl
  | y :: r, d => by
    rw [List.cons_append, ddP, ddP, lastD_cons, ddP_snoc x r]
    split
    · rfl
    · rfl
abbrev dd (l : List En) : List En := ddP none l
theorem dd_take {xs : List En} {j : Nat} (hj : j < xs.length) (h0 : 0 < j) : dd (xs.take (j + 1)) = dd (xs.take j) ++ if (xs[j - 1]'(by omega)).k = xs[j].k then [] else [xs[j]] := by
  show ddP none _ = ddP none _ ++ _
  rw [List.take_add_one, List.getElem?_eq_getElem hj, Option.toList_some, ddP_snoc]
  congr 1
  have : lastD none (xs.take j) = some (xs[j - 1]'(by omega)).k := by
    unfold lastD
    rw [List.getLast?_eq_getElem?, List.length_take, Nat.min_eq_left (by omega), List.getElem?_take_of_lt (by omega), List.getElem?_eq_getElem (by omega)]
  rw [this]
  simp only [Option.some.injEq]
def CmpAt (xs ys : List En) (i j : Nat) : Prop := ys.length = xs.length ∧ i < j ∧ j ≤ xs.length ∧ ys.take i = dd (xs.take j) ∧ ys.drop (j - 1) = xs.drop (j - 1)
theorem CmpAt.at {xs ys : List En} {i j : Nat} (h : CmpAt xs ys i j) (hj : j < xs.length) : ys[j]? = some (xs[j]) ∧ ys[j - 1]? = some (xs[j - 1]'(by omega)) := by
  obtain ⟨h1, h2, -, -, h6⟩ := h
  have e0 := congrArg (fun l => l[0]?) h6
  have e1 := congrArg (fun l => l[1]?) h6
  simp only [List.getElem?_drop] at e0 e1
  rw [show j - 1 + 1 = j by omega] at e1
  rw [Nat.add_zero] at e0
  exact ⟨e1.trans (List.getElem?_eq_getElem hj), e0.trans (List.getElem?_eq_getElem (by omega))⟩
theorem CmpAt.skip {xs ys : List En} {i j : Nat} (h : CmpAt xs ys i j) (hj : j < xs.length) (hp : (xs[j - 1]'(by omega)).k = xs[j].k) : CmpAt xs ys i (j + 1) := by
  obtain ⟨h1, h2, h3, h4, h6⟩ := h
  refine ⟨h1, by omega, by omega, ?_, ?_⟩
  · rw [dd_take hj (by omega), if_pos hp, List.append_nil]; exact h4
  · have := congrArg (List.drop 1) h6
    rw [List.drop_drop, List.drop_drop] at this
    rw [show j + 1 - 1 = j - 1 + 1 by omega]; exact this
theorem CmpAt.keep {xs ys : List En} {i j : Nat} (h : CmpAt xs ys i j) (hj : j < xs.length) (hp : (xs[j - 1]'(by omega)).k ≠ xs[j].k) : CmpAt xs (ys.set i xs[j]) (i + 1) (j + 1) := by
  obtain ⟨h1, h2, h3, h4, h6⟩ := h
  refine ⟨by simpa using h1, by omega, by omega, ?_, ?_⟩
  · rw [dd_take hj (by omega), if_neg hp, ← h4, List.take_add_one, List.take_set_of_le (Nat.le_refl _), List.getElem?_set_self (by omega)]; rfl
  · have := congrArg (List.drop 1) h6
    rw [List.drop_drop, List.drop_drop, show j - 1 + 1 = j by omega] at this
    rw [show j + 1 - 1 = j by omega, List.drop_set_of_lt (by omega)]; exact this
theorem CmpAt.start {xs : List En} {i : Nat} (h0 : 0 < i) (hi : i < xs.length) (hd : dd (xs.take i) = xs.take i) (hp : (xs[i - 1]'(by omega)).k = xs[i].k) : CmpAt xs xs i (i + 1) :=
  ⟨rfl, by omega, by omega, by rw [dd_take hi h0, if_pos hp, List.append_nil, hd], rfl⟩
theorem dd_go {xs : List En} {i : Nat} (h0 : 0 < i) (hi : i < xs.length) (hd : dd (xs.take i) = xs.take i) (hp : (xs[i - 1]'(by omega)).k ≠ xs[i].k) : dd (xs.take (i + 1)) = xs.take (i + 1) := by
  rw [dd_take hi h0, if_neg hp, hd, List.take_add_one, List.getElem?_eq_getElem hi]; rfl
theorem CmpAt.done {xs ys : List En} {i : Nat} (h : CmpAt xs ys i xs.length) : ys.take i = dd xs := by
  rw [h.2.2.2.1, List.take_length]
theorem cmb2_c (x y : En) (w : World) : Calls Tryz.prog 215 #[.agg (enC x).toArray, .agg (enC y).toArray] w (RetV w (.bool (x.k == y.k))) := by
  obtain ⟨f, ⟨n, d⟩, t⟩ := x
  obtain ⟨f', ⟨n', d'⟩, t'⟩ := y
  have hs : Hid (((⟨f, ⟨n, d⟩, t⟩ : En).k == (⟨f', ⟨n', d'⟩, t'⟩ : En).k) = (f == f' && (n == n' && d == d') && t == t')) := by
    show _ = _
    rw [Bool.eq_iff_iff]
    simp [En.k, and_assoc]
  generalize ((⟨f, ⟨n, d⟩, t⟩ : En).k == (⟨f', ⟨n', d'⟩, t'⟩ : En).k) = q at hs ⊢
  unfold enC
  dsimp only [List.toArray]
  go_enter Tryz.func215, Tryz.ntmps215
  go_wp2_with fail
  all_goals (go_ret; exact ⟨ret_bool (by rw [hs.out]; simp [*]), xE⟩)
set_option maxRecDepth 100000 in
set_option maxHeartbeats 4000000 in
theorem compactEn_c (v : Value) (xs : List En) (w0 w : World) (LB : List Chunk) (hM : Mem w0 noH (ownN v xs :: LB) noH w) (hlen : xs.length ≤ 1000000) :
    Calls Tryz.prog 214 #[v, .func (.func 215) #[] #[]] w (OwnPN w0 LB (dd xs)) := by
  obtain ⟨a, c, rfl, -⟩ := hM.form 0 rfl
  by_cases h2 : xs.length < 2
  · have hd : Hid (dd xs = xs) := by
      show _ = _
      match xs, h2 with
      | [], _ => rfl
      | [x], _ => rfl
    have h2' : (xs.length : Int) < 2 := by omega
    go_enter Tryz.func214, Tryz.ntmps214
    go_wp2_with fail
    go_ret
    exact ⟨_, rfl, by rw [hd.out]; exact hM⟩
  · obtain ⟨N, hN⟩ : ∃ N, xs.length = N := ⟨_, rfl⟩
    have hN2 : 2 ≤ N := by omega
    have hN6 : N ≤ 1000000 := by omega
    have hst : Hid (dd (xs.take 1) = xs.take 1) := by
      show _ = _
      match xs with
      | [] => rfl
      | x :: r => rfl
    have hall : Hid (xs.take N = xs) := by show _ = _; rw [← hN, List.take_length]
    rw [hN] at hM
    simp only [hN]
    replace hN := Lib.hid hN
    clear h2 hlen
    go_enter Tryz.func214, Tryz.ntmps214
    go_wp2_with fail
    go_loopw [5] (fun vi wr => ∃ m : Nat, m + 1 ≤ N ∧ vi = .int .i64 ((m : Int) + 1) ∧ Hid (dd (xs.take (m + 1)) = xs.take (m + 1)) ∧ Ext w wr) (fun vi _ => N - (intOf vi).toNat)
    case atStart => exact ⟨0, by omega, rfl, hst, Ext.rfl' _⟩
    case round =>
      clear hst
      obtain ⟨m, hm, rfl, hd, hxr⟩ := hrel
      have hMr := hM.ext hxr
      by_cases hlt : m + 1 < N
      · have hlx : m + 1 < xs.length := by rw [hN.out]; exact hlt
        obtain ⟨g, rfl, hg, gc1, hI1⟩ := endsM_row hMr (List.getElem?_eq_getElem hlx)
        obtain ⟨g', e, -, gc0, hI0⟩ := endsM_row hMr (List.getElem?_eq_getElem (show m < xs.length by omega))
        cases e
        have hja : decide (m + 1 < N) = true := by simpa using hlt
        have hgo := fun (h : (xs[m]'(by omega)).k ≠ xs[m + 1].k) => dd_go (xs := xs) (i := m + 1) (Nat.succ_pos m) hlx hd.out h
        have hcs := fun (h : (xs[m]'(by omega)).k = xs[m + 1].k) => CmpAt.start (xs := xs) (i := m + 1) (Nat.succ_pos m) hlx hd.out h
        have hr3 := fun w => cmb2_c xs[m + 1] xs[m] w
        generalize xs[m + 1] = x1 at *
        generalize xs[m] = x0 at *
        obtain ⟨qz, hqz⟩ : ∃ q, (x1.k == x0.k) = q := ⟨_, rfl⟩
        simp only [hqz] at hr3
        replace hqz := Lib.hid hqz
        replace gc1 := Lib.hid gc1
        replace gc0 := Lib.hid gc0
        replace hgo := Lib.hid hgo
        replace hcs := Lib.hid hcs
        replace hr3 := Lib.hid hr3
        have hlti : ((m + 1 : Nat) : Int) < N := by omega
        have hmN : m < N := by omega
        clear hlx hI0




        have hwm : IntKind.i64.wrap ((m : Int) + 1 - 1) = (m : Int) := by rw [IntKind.wrap_i64]; omega
        have hwm3 : IntKind.i64.wrap (m : Int) = (m : Int) := by rw [IntKind.wrap_i64]; omega
        have hwm2 : IntKind.i64.wrap (((m + 1 : Nat) : Int) - 1) = (m : Int) := by rw [IntKind.wrap_i64]; omega
        go_upto_region 6 with (fail)
        (refine wp_region_I 11 (by kernel_rfl) (by kernel_rfl) ?_; simp only [List.toList_toArray, List.take_succ_cons, List.take_zero, List.drop_succ_cons, List.drop_zero])
        iterate 4 (refine wiA rfl (by simp) rfl ?_; (try simp only [List.nil_append, List.cons_append]))
        (refine walkI_is (u := ?_) rfl (by simp) rfl ?_ ?_; rotate_left; (focus (intro A w' hS hA K hK; (simp only [List.map_cons, List.map_nil, knows, Is, Op.operands, Call.operands, List.lookup_cons, List.lookup_nil, Nat.reduceBEq, Bool.false_eq_true, if_false, if_true, Act.eval, Array.getD_eq_getD_getElem?, List.getElem?_toArray, List.getElem?_cons_succ, List.getElem?_cons_zero, Option.getD_some, and_true, true_and, List.append_toArray, List.nil_append, List.cons_append, List.toList_toArray, Array.toList_append, Option.toArray, List.append_nil] at hA); first | (refine oper_load_mid 214 (.tmp 21) rfl g ((m + 1) * 4) (by simpa [Act.eval] using hA) (enC x1) _ (fun j u h => hS.cell1 (gc1.out j u h)) Tryz.underlying214 rfl (by kernel_rfl) ?_; exact hK _ (Ext.rfl' _)) | (obtain ⟨hSc, hSf, hSs⟩ := hS.cells; go_simp; exact hK _ xN))); (try simp only [List.nil_append, List.cons_append]))
        iterate 4 (refine wiA rfl (by simp) rfl ?_; (try simp only [List.nil_append, List.cons_append]))
        (refine walkI_is (u := ?_) rfl (by simp) rfl ?_ ?_; rotate_left; (focus (intro A w' hS hA K hK; (simp only [List.map_cons, List.map_nil, knows, Is, Op.operands, Call.operands, List.lookup_cons, List.lookup_nil, Nat.reduceBEq, Bool.false_eq_true, if_false, if_true, Act.eval, Array.getD_eq_getD_getElem?, List.getElem?_toArray, List.getElem?_cons_succ, List.getElem?_cons_zero, Option.getD_some, and_true, true_and, List.append_toArray, List.nil_append, List.cons_append, List.toList_toArray, Array.toList_append, Option.toArray, List.append_nil] at hA); first | (refine oper_load_mid 214 (.tmp 26) rfl g (m * 4) (by simpa [Act.eval] using hA) (enC x0) _ (fun j u h => hS.cell1 (gc0.out j u h)) Tryz.underlying214 rfl (by kernel_rfl) ?_; exact hK _ (Ext.rfl' _)) | (obtain ⟨hSc, hSf, hSs⟩ := hS.cells; go_simp; exact hK _ xN))); (try simp only [List.nil_append, List.cons_append]))
        (refine walkI_is (u := ?_) rfl (by simp) rfl ?_ ?_; rotate_left; (focus (intro A w' hS hA K hK; (simp only [List.map_cons, List.map_nil, knows, Is, Op.operands, Call.operands, List.lookup_cons, List.lookup_nil, Nat.reduceBEq, Bool.false_eq_true, if_false, if_true, Act.eval, Array.getD_eq_getD_getElem?, List.getElem?_toArray, List.getElem?_cons_succ, List.getElem?_cons_zero, Option.getD_some, and_true, true_and, List.append_toArray, List.nil_append, List.cons_append, List.toList_toArray, Array.toList_append, Option.toArray, List.append_nil] at hA); first | (go_simp; refine RetV_at (hr3.out w') ?_; intro w6 hx6; exact hK _ hx6) | (obtain ⟨hSc, hSf, hSs⟩ := hS.cells; go_simp; exact hK _ xN))); (try simp only [List.nil_append, List.cons_append]))
        (refine walkI_nil ?_; simp only [List.nil_append, List.cons_append, fins, Is, forall_eq, Act.put, List.setIfInBounds_toArray, List.set_cons_zero, List.set_cons_succ])
        intro w3 hx3
        cases qz with
        | true =>
          have hday : x0.k = x1.k := by have := hqz.out; rw [beq_iff_eq] at this; exact this.symm
          have hC := Lib.hid (hcs.out hday)
          have hM3 := hMr.ext hx3
          have hxl : Hid (m + 1 + 1 ≤ xs.length) := Lib.hid (by rw [hN.out]; omega)
          have hcap0 : N ≤ c := by
            obtain ⟨cur, -, -, h3, -⟩ := hM3.cur 0 rfl
            rw [hN.out] at h3; exact h3
          clear hday hcs hgo hd hall hMr gc0 gc1 hr3
          go_wp2_with fail
          have hlt' := Lib.hid hlt
          replace hlti := Lib.hid hlti
          replace hja := Lib.hid hja
          clear hlt
          generalize decide ((N : Int) < 2) = z10
          generalize decide ((m : Int) + 1 < (N : Int)) = z15
          generalize hv12 : Value.int IntKind.i64 ((m : Int) + 1) = v12
          replace hv12 := Lib.hid hv12
          go_loopw [5, 7] (fun vi vk wr2 => ∃ (i k : Nat) (ys : List En), vi = .int .i64 (i : Int) ∧ vk = .int .i64 ((k : Int) + 1) ∧ m + 1 + (k + 1) ≤ N ∧ i < m + 1 + (k + 1) ∧ Hid (CmpAt xs ys i (m + 1 + (k + 1))) ∧ Mem w0 noH (ownN (.slice (some ⟨g, 0, none⟩) N c) ys :: LB) noH wr2) (fun _ vk _ => N - (intOf vk).toNat)
          case atStart => exact ⟨m + 1, 0, xs, by rw [← hv12.out]; go_num, by go_num, by omega, by omega, hC, hM3⟩
          case round =>
            clear hM3 hC
            obtain ⟨i, k, ys, rfl, rfl, hkN, hik, hD, hM⟩ := hrel
            have hyl : Hid (ys.length = N) := by show _ = _; rw [hD.out.1]; exact hN.out
            by_cases hlt2 : k + 1 < N - (m + 1)
            · have hjx : m + 1 + (k + 1) < xs.length := by rw [hN.out]; omega
              obtain ⟨hy1, hy0⟩ := hD.out.at hjx
              obtain ⟨g1, e, hg1, gc1, hI2⟩ := endsM_row hM hy1
              cases e
              obtain ⟨g1, e, -, gc0, -⟩ := endsM_row hM hy0
              cases e
              have hsk := fun (h : (xs[m + 1 + (k + 1) - 1]'(by omega)).k = xs[m + 1 + (k + 1)].k) => hD.out.skip hjx h
              have hkp := fun (h : (xs[m + 1 + (k + 1) - 1]'(by omega)).k ≠ xs[m + 1 + (k + 1)].k) => hD.out.keep hjx h
              have hr3 : ∀ w, Calls Tryz.prog 215 #[.agg (enC xs[m + 1 + (k + 1)]).toArray, .agg (enC (xs[m + 1 + (k + 1) - 1]'(by omega))).toArray] w (RetV w (.bool (xs[m + 1 + (k + 1)].k == (xs[m + 1 + (k + 1) - 1]'(by omega)).k))) := fun w => cmb2_c _ _ w
              generalize xs[m + 1 + (k + 1)] = z1 at *
              generalize (xs[m + 1 + (k + 1) - 1]'(by omega)) = z0 at *
              obtain ⟨q, hq⟩ : ∃ q, (z1.k == z0.k) = q := ⟨_, rfl⟩
              simp only [hq] at hr3
              replace hq := Lib.hid hq
              have gd1 : Hid (∀ j u, (enC z1)[j]? = some u → wr.cell? ⟨g, (m + 1) * 4 + (k + 1) * 4 + j, none⟩ = some u) := Lib.hid fun j u h => by
                have := gc1 j u h
                rwa [show (m + 1 + (k + 1)) * 4 + j = (m + 1) * 4 + (k + 1) * 4 + j by omega] at this
              have gd0 : Hid (∀ j u, (enC z0)[j]? = some u → wr.cell? ⟨g, (m + 1) * 4 + k * 4 + j, none⟩ = some u) := Lib.hid fun j u h => by
                have := gc0 j u h
                rwa [show (m + 1 + (k + 1) - 1) * 4 + j = (m + 1) * 4 + k * 4 + j by omega] at this
              replace hr3 := Lib.hid hr3
              replace hsk := Lib.hid hsk
              replace hkp := Lib.hid hkp
              replace hy1 := Lib.hid hy1
              have hja2 : decide (k + 1 < N - (m + 1)) = true := by simpa using hlt2
              have hwk : IntKind.i64.wrap (k : Int) = (k : Int) := by rw [IntKind.wrap_i64]; omega
              have hiN : i < N := by omega
              have hkN2 : k < N - (m + 1) := by omega
              clear gc1 gc0 hy0 hjx
              go_upto_region 11 with (fail)
              (refine wp_region_I 12 (by kernel_rfl) (by kernel_rfl) ?_; simp only [List.toList_toArray, List.take_succ_cons, List.take_zero, List.drop_succ_cons, List.drop_zero])
              iterate 4 (refine wiA rfl (by simp) rfl ?_; (try simp only [List.nil_append, List.cons_append]))
              (refine walkI_is (u := ?_) rfl (by simp) rfl ?_ ?_; rotate_left; (focus (intro A w' hS hA K hK; (simp only [List.map_cons, List.map_nil, knows, Is, Op.operands, Call.operands, List.lookup_cons, List.lookup_nil, Nat.reduceBEq, Bool.false_eq_true, if_false, if_true, Act.eval, Array.getD_eq_getD_getElem?, List.getElem?_toArray, List.getElem?_cons_succ, List.getElem?_cons_zero, Option.getD_some, and_true, true_and, List.append_toArray, List.nil_append, List.cons_append, List.toList_toArray, Array.toList_append, Option.toArray, List.append_nil] at hA); first | (refine oper_load_mid 214 (.tmp 41) rfl g ((m + 1) * 4 + (k + 1) * 4) (by simpa [Act.eval] using hA) (enC z1) _ (fun j u h => hS.cell1 (gd1.out j u h)) Tryz.underlying214 rfl (by kernel_rfl) ?_; exact hK _ (Ext.rfl' _)) | (obtain ⟨hSc, hSf, hSs⟩ := hS.cells; go_simp; exact hK _ xN))); (try simp only [List.nil_append, List.cons_append]))
              iterate 4 (refine wiA rfl (by simp) rfl ?_; (try simp only [List.nil_append, List.cons_append]))
              (refine walkI_is (u := ?_) rfl (by simp) rfl ?_ ?_; rotate_left; (focus (intro A w' hS hA K hK; (simp only [List.map_cons, List.map_nil, knows, Is, Op.operands, Call.operands, List.lookup_cons, List.lookup_nil, Nat.reduceBEq, Bool.false_eq_true, if_false, if_true, Act.eval, Array.getD_eq_getD_getElem?, List.getElem?_toArray, List.getElem?_cons_succ, List.getElem?_cons_zero, Option.getD_some, and_true, true_and, List.append_toArray, List.nil_append, List.cons_append, List.toList_toArray, Array.toList_append, Option.toArray, List.append_nil] at hA); first | (refine oper_load_mid 214 (.tmp 46) rfl g ((m + 1) * 4 + k * 4) (by simpa [Act.eval] using hA) (enC z0) _ (fun j u h => hS.cell1 (gd0.out j u h)) Tryz.underlying214 rfl (by kernel_rfl) ?_; exact hK _ (Ext.rfl' _)) | (obtain ⟨hSc, hSf, hSs⟩ := hS.cells; go_simp; exact hK _ xN))); (try simp only [List.nil_append, List.cons_append]))
              (refine walkI_is (u := ?_) rfl (by simp) rfl ?_ ?_; rotate_left; (focus (intro A w' hS hA K hK; (simp only [List.map_cons, List.map_nil, knows, Is, Op.operands, Call.operands, List.lookup_cons, List.lookup_nil, Nat.reduceBEq, Bool.false_eq_true, if_false, if_true, Act.eval, Array.getD_eq_getD_getElem?, List.getElem?_toArray, List.getElem?_cons_succ, List.getElem?_cons_zero, Option.getD_some, and_true, true_and, List.append_toArray, List.nil_append, List.cons_append, List.toList_toArray, Array.toList_append, Option.toArray, List.append_nil] at hA); first | (go_simp; refine RetV_at (hr3.out w') ?_; intro w6 hx6; exact hK _ hx6) | (obtain ⟨hSc, hSf, hSs⟩ := hS.cells; go_simp; exact hK _ xN))); (try simp only [List.nil_append, List.cons_append]))
              (refine wiA rfl (by simp) rfl ?_; (try simp only [List.nil_append, List.cons_append]))
              (refine walkI_nil ?_; simp only [List.nil_append, List.cons_append, fins, Is, forall_eq, Act.put, List.setIfInBounds_toArray, List.set_cons_zero, List.set_cons_succ])
              intro w7 hx7
              have hM7 := hM.ext hx7
              cases q with
              | true =>
                have hday2 : z0.k = z1.k := by have := hq.out; rw [beq_iff_eq] at this; exact this.symm
                have hD2 := Lib.hid (hsk.out hday2)
                clear hday2 hsk hkp
                go_wp2_with fail
                go_roundw
                case rel => exact ⟨i, k + 1, ys, by go_num, by go_num, by omega, by omega, hD2, hM7⟩
                case measure => simp [intOf]; omega
              | false =>
                have hday2 : ¬ z0.k = z1.k := by have := hq.out; rw [beq_eq_false_iff_ne] at this; exact fun e => this e.symm
                have hD2 := Lib.hid (hkp.out hday2)
                have gd7 : Hid (∀ j u, (enC z1)[j]? = some u → w7.cell? ⟨g, (m + 1) * 4 + (k + 1) * 4 + j, none⟩ = some u) := Lib.hid fun j u h => hx7.cell1 (gd1.out j u h)
                have hiy : Hid (i < ys.length) := Lib.hid (by rw [hyl.out]; omega)
                have hia : decide (i < N) = true := by simpa using hiN
                clear hday2 hsk hkp gd1 gd0
                go_upto_region 12 with (fail)
                go_upto_region 13 with (first | (refine wpList_load_mid rfl 214 _ rfl _ _ rfl (enC _) _ gd7.out Tryz.underlying214 rfl (by kernel_rfl) ?_) | (refine wpList_store_M (xs := ys) (n := N) (cap := c) (g := g) rfl 214 _ _ rfl i rfl (cs := enC z1) rfl (x' := z1) hM7 0 rfl hiy.out ⟨rfl, hI2⟩ rfl (fun u hu => one_EnR (h := noH) _ _ ⟨rfl, hI2⟩ u hu) (by kernel_rfl) ?c5))
                case c5 =>
                  intro w5 hM5
                  try simp only [List.set_cons_zero] at hM5
                  have hkN4 : Hid (m + 1 + (k + 1 + 1) ≤ N) := Lib.hid (by omega)
                  have hik4 : Hid (i + 1 < m + 1 + (k + 1 + 1)) := Lib.hid (by omega)
                  replace hN2 := Lib.hid hN2
                  replace hkN := Lib.hid hkN
                  replace hmN := Lib.hid hmN
                  replace hm := Lib.hid hm
                  go_wp2_with fail
                  go_roundw
                  case rel => exact ⟨i + 1, k + 1, ys.set i z1, by go_num, by go_num, hkN4.out, hik4.out, hD2, hM5⟩
                  case measure => simp [intOf]; omega
            · have hja2 : decide (k + 1 < N - (m + 1)) = false := by simpa using hlt2
              have hkN3 : m + 1 + (k + 1) = N := by omega
              have hdn : Hid (ys.take i = dd xs) := by
                have h := hD.out
                rw [hkN3, ← hN.out] at h
                exact Lib.hid h.done
              have hil : Hid (i ≤ ys.length) := Lib.hid (by rw [hyl.out]; omega)
              have hiN : i < N := by omega
              have hcap : N ≤ c := by
                obtain ⟨cur, -, -, h3, -⟩ := hM.cur 0 rfl
                rw [hyl.out] at h3; exact h3
              clear hD hkN3
              go_upto_region 14 with (fail)
              go_upto_region 15 with (refine wpList_clear_M (xs := ys) (n := N) (cap := c) (g := g) rfl (.tmp 61) 235 rfl i rfl Tryz.underlying235 zeroEn rfl (by kernel_rfl) hM 0 rfl hil.out ?d5)
              case d5 =>
                intro w5 hM5
                try simp only [List.set_cons_zero] at hM5
                rw [hdn.out] at hM5
                go_wp2_with fail
                go_ret
                exact ⟨_, rfl, hM5⟩
        | false =>
          have hday : ¬ x0.k = x1.k := by have := hqz.out; rw [beq_eq_false_iff_ne] at this; exact fun e => this e.symm
          have hD := Lib.hid (hgo.out hday)
          clear hday hcs hgo
          go_wp2_with fail
          go_roundw
          case rel => exact ⟨m + 1, by omega, by go_num, hD, hxr.then hx3⟩
          case measure => simp [intOf]; omega
      · have hja : decide (m + 1 < N) = false := by simpa using hlt
        have hdd : Hid (dd xs = xs) := by
          show _ = _
          have h := hd.out
          rw [show m + 1 = N by omega, hall.out] at h
          exact h
        have hlti : ¬ ((m + 1 : Nat) : Int) < N := by omega
        go_wp2_with fail
        go_ret
        exact ⟨_, rfl, by rw [hdd.out]; exact hMr⟩
end Go.Proofs.YtabajghokhfmhaaGreat
namespace Go.Proofs.YtabajghokhfmhaaGreat
open Go.Shelf
def sSortE_ren : Go.Shelf.Ren := ⟨fun | 6 => 212 | 15 => 232 | 14 => 240 | 28 => 251 | 29 => 252 | 20 => 257 | 21 => 258 | 22 => 259 | 23 => 260 | 24 => 261 | 25 => 262 | 26 => 263 | 27 => 264 | 46 => 272 | 47 => 266 | 48 => 267 | 49 => 273 | 50 => 274 | 57 => 278 | n => n, fun | 22 => 235 | 24 => 214 | 25 => 237 | 3 => 3 | 39 => 163 | 0 => 0 | 53 => 267 | 55 => 247 | 4 => 4 | 46 => 260 | 45 => 259 | 50 => 264 | 5 => 5 | 9 => 9 | 66 => 278 | 70 => 282 | 76 => 286 | 77 => 287 | n => n, fun | n => n⟩
theorem sSortE : Go.Proofs.SlLaysF0.n6 Tryz.prog sSortE_ren := {
  mixed := by kernel_rfl
  f6 := ⟨Tryz.f212.name, by decide, Tryz.func212.trans (congrArg some (by kernel_rfl))⟩
  f14 := ⟨Tryz.f240.name, by decide, Tryz.func240.trans (congrArg some (by kernel_rfl))⟩
  f15 := Tryz.func232.trans (congrArg some (by kernel_rfl))
  f20 := ⟨Tryz.f257.name, by decide, Tryz.func257.trans (congrArg some (by kernel_rfl))⟩
  f21 := ⟨Tryz.f258.name, by decide, Tryz.func258.trans (congrArg some (by kernel_rfl))⟩
  f22 := ⟨Tryz.f259.name, by decide, Tryz.func259.trans (congrArg some (by kernel_rfl))⟩
  f23 := ⟨Tryz.f260.name, by decide, Tryz.func260.trans (congrArg some (by kernel_rfl))⟩
  f24 := ⟨Tryz.f261.name, by decide, Tryz.func261.trans (congrArg some (by kernel_rfl))⟩
  f25 := ⟨Tryz.f262.name, by decide, Tryz.func262.trans (congrArg some (by kernel_rfl))⟩
  f26 := ⟨Tryz.f263.name, by decide, Tryz.func263.trans (congrArg some (by kernel_rfl))⟩
  f27 := ⟨Tryz.f264.name, by decide, Tryz.func264.trans (congrArg some (by kernel_rfl))⟩
  f28 := Tryz.func251.trans (congrArg some (by kernel_rfl))
  f29 := Tryz.func252.trans (congrArg some (by kernel_rfl))
  f46 := ⟨Tryz.f272.name, by decide, Tryz.func272.trans (congrArg some (by kernel_rfl))⟩
  f47 := Tryz.func266.trans (congrArg some (by kernel_rfl))
  f48 := Tryz.func267.trans (congrArg some (by kernel_rfl))
  f49 := ⟨Tryz.f273.name, by decide, Tryz.func273.trans (congrArg some (by kernel_rfl))⟩
  f50 := ⟨Tryz.f274.name, by decide, Tryz.func274.trans (congrArg some (by kernel_rfl))⟩
  f57 := ⟨Tryz.f278.name, by decide, Tryz.func278.trans (congrArg some (by kernel_rfl))⟩
  t0 := Tryz.underlying0
  a0 := Tryz.isAgg0
  z0 := Tryz.sizeOf0
  v0 := Tryz.zeroValue0
  t3 := Tryz.underlying3
  a3 := Tryz.isAgg3
  z3 := Tryz.sizeOf3
  v3 := Tryz.zeroValue3
  t4 := Tryz.underlying4
  a4 := Tryz.isAgg4
  z4 := Tryz.sizeOf4
  v4 := Tryz.zeroValue4
  t5 := Tryz.underlying5
  a5 := Tryz.isAgg5
  z5 := Tryz.sizeOf5
  v5 := Tryz.zeroValue5
  t9 := Tryz.underlying9
  a9 := Tryz.isAgg9
  z9 := Tryz.sizeOf9
  v9 := Tryz.zeroValue9
  t22 := Tryz.underlying235
  a22 := Tryz.isAgg235
  z22 := Tryz.sizeOf235
  v22 := Tryz.zeroValue235
  t25 := Tryz.underlying237
  a25 := Tryz.isAgg237
  z25 := Tryz.sizeOf237
  v25 := Tryz.zeroValue237
  t39 := Tryz.underlying163
  a39 := Tryz.isAgg163
  z39 := Tryz.sizeOf163
  v39 := Tryz.zeroValue163
  t45 := Tryz.underlying259
  a45 := Tryz.isAgg259
  z45 := Tryz.sizeOf259
  v45 := Tryz.zeroValue259
  t46 := Tryz.underlying260
  a46 := Tryz.isAgg260
  z46 := Tryz.sizeOf260
  v46 := Tryz.zeroValue260
  t50 := Tryz.underlying264
  a50 := Tryz.isAgg264
  z50 := Tryz.sizeOf264
  v50 := Tryz.zeroValue264
  t53 := Tryz.underlying267
  a53 := Tryz.isAgg267
  z53 := Tryz.sizeOf267
  v53 := Tryz.zeroValue267
  t55 := Tryz.underlying247
  a55 := Tryz.isAgg247
  z55 := Tryz.sizeOf247
  v55 := Tryz.zeroValue247
  t66 := Tryz.underlying278
  a66 := Tryz.isAgg278
  z66 := Tryz.sizeOf278
  v66 := Tryz.zeroValue278
  t70 := Tryz.underlying282
  a70 := Tryz.isAgg282
  z70 := Tryz.sizeOf282
  v70 := Tryz.zeroValue282
  t76 := Tryz.underlying286
  a76 := Tryz.isAgg286
  z76 := Tryz.sizeOf286
  v76 := Tryz.zeroValue286
  t77 := Tryz.underlying287
  a77 := Tryz.isAgg287
  z77 := Tryz.sizeOf287
  v77 := Tryz.zeroValue287 }
end Go.Proofs.YtabajghokhfmhaaGreat
namespace Go.Proofs.YtabajghokhfmhaaGreat
open Go.RowKit Go.Shelf Go.Lib Go.Sort
set_option linter.unusedSectionVars false
section
variable {α : Type} [Inhabited α]
theorem gflat_get (enc : α → List Value) (k : Nat) (hk : ∀ x, (enc x).length = k) : ∀ (l : List α) (t : Nat), t < l.length * k → (l.flatMap enc)[t]? = some ((enc (l[t / k]?.getD default))[t % k]!)
  | [], t, h => by simp at h
  | x :: l, t, h => by
    have hk0 : 0 < k := Nat.pos_of_ne_zero fun e => by subst e; simp at h
    rw [List.flatMap_cons]
    by_cases ht : t < k
    · rw [List.getElem?_append_left (by rw [hk]; exact ht), Nat.div_eq_of_lt ht, Nat.mod_eq_of_lt ht]
      simp [hk, ht]
    · have hd : t / k = (t - k) / k + 1 := by rw [Nat.div_eq_sub_div hk0 (by omega)]
      have hm : t % k = (t - k) % k := by rw [Nat.mod_eq_sub_mod (by omega)]
      rw [List.getElem?_append_right (by rw [hk]; omega), hk, hd, hm, gflat_get enc k hk l (t - k) (by rw [List.length_cons, Nat.add_mul] at h; omega)]
      simp
theorem gflat_len (enc : α → List Value) (k : Nat) (hk : ∀ x, (enc x).length = k) (l : List α) : (l.flatMap enc).length = l.length * k := by
  induction l with
  | nil => simp
  | cons x l ih => rw [List.flatMap_cons, List.length_append, hk, ih, List.length_cons, Nat.add_mul]; omega
theorem flatK_eq (enc : α → List Value) (k : Nat) (hk : ∀ x, (enc x).length = k) (d : Array α) : flatK enc k d = (d.toList.flatMap enc).toArray := by
  apply Array.ext
  · simp [gflat_len enc k hk]
  · intro t h1 h2
    have h3 := gflat_get enc k hk d.toList t (by simpa using h1)
    have h4 := get_flatK enc k d t (by simpa using h1)
    rw [getElem!_pos _ t h1] at h4
    rw [h4]
    have h5 : (d.toList.flatMap enc).toArray[t]? = some ((enc (d.toList[t / k]?.getD default))[t % k]!) := by simpa using h3
    rw [Array.getElem?_eq_getElem h2] at h5
    rw [Option.some.inj h5]
    congr 2
    rw [getElem!_def]
    simp
    cases d[t / k]? <;> rfl
theorem putCells_eq (F c : Array Value) (h : F.size ≤ c.size) : putCells id 0 F c = (F.toList ++ c.toList.drop F.size).toArray := by
  apply Array.ext_getElem?
  intro t
  unfold putCells
  rw [Array.getElem?_mapIdx]
  have e : ((F.toList ++ c.toList.drop F.size).toArray)[t]? = (F.toList ++ c.toList.drop F.size)[t]? := List.getElem?_toArray
  have hFl : F.toList.length = F.size := by simp
  rw [e]
  by_cases ht : t < c.size
  · by_cases hf : t < F.size
    · rw [List.getElem?_append_left (by rw [hFl]; exact hf)]
      simp [ht, hf]
    · rw [List.getElem?_append_right (by rw [hFl]; omega), List.getElem?_drop, hFl, show F.size + (t - F.size) = t by omega]
      simp [ht, hf]
  · rw [List.getElem?_append_right (by rw [hFl]; omega), List.getElem?_drop, hFl, show F.size + (t - F.size) = t by omega]
    simp [ht]
theorem flat_cells {E : PH → List Value → α → Prop} {H : PH} (enc : α → List Value) (k : Nat) (hk : ∀ x, (enc x).length = k) : ∀ (l : List α), (∀ x ∈ l, E H (enc x) x) → Cells H E k (l.flatMap enc) l
  | [], _ => rfl
  | x :: l, h => ⟨enc x, l.flatMap enc, List.flatMap_cons, hk x, h x (by simp), flat_cells enc k hk l fun y hy => h y (by simp [hy])⟩
theorem cells_flat {E : PH → List Value → α → Prop} {H : PH} (enc : α → List Value) (k : Nat) (he : ∀ cs x, E H cs x → cs = enc x) : ∀ {l : List α} {c : List Value}, Cells H E k c l → c = l.flatMap enc ∧ ∀ x ∈ l, E H (enc x) x
  | [], c, h => ⟨h, fun x hx => by cases hx⟩
  | x :: l, c, h => by
    obtain ⟨cs, rest, rfl, h1, h2, h3⟩ := h
    obtain ⟨r1, r2⟩ := cells_flat enc k he h3
    have := he _ _ h2
    subst this
    refine ⟨by rw [List.flatMap_cons, ← r1], fun y hy => ?_⟩
    rcases List.mem_cons.1 hy with rfl | hy
    · exact h2
    · exact r2 y hy
theorem sorted_own {E : PH → List Value → α → Prop} {H : PH} {T : TypeId} {w : World} {g cap n : Nat} {cur : Array Value} {xs : List α} {d' : Array α} {os : Array Obj} (enc : α → List Value) (k : Nat) (hk : ∀ x, (enc x).length = k) (he : ∀ cs x, E H cs x → cs = enc x)
    (hg : w.heap[g]? = some (.cells cur T (0, 0))) (hx : xs.length ≤ cap) (hc : cap ≤ maxLen) (hs : cur.size = cap * k) (hC : Cells H E k (cur.toList.take (xs.length * k)) xs) (hp : d'.toList.Perm xs) :
    OwnC H (sortWorldK enc k w g 0 n d' os) E k T (.slice (some ⟨g, 0, none⟩) xs.length cap) d'.toList ∧ w.grownBy (sortWorldK enc k w g 0 n d' os) (some g) := by
  have hlt : g < w.heap.size := (Array.getElem?_eq_some_iff.1 hg).1
  have hmul : xs.length * k ≤ cap * k := Nat.mul_le_mul_right _ hx
  have hlen := hp.length_eq
  have hd : d'.size = xs.length := by simpa using hlen
  obtain ⟨-, r2⟩ := cells_flat enc k he hC
  have hblk : ∀ j, j < w.heap.size → (sortWorldK enc k w g 0 n d' os).heap[j]? = (w.heap.modify g (onCells (putCells id 0 (flatK enc k d'))))[j]? := by
    intro j hj
    show (w.heap.modify g _ ++ os)[j]? = _
    rw [Array.getElem?_append_left (by simpa using hj)]
  have hsz : w.heap.size ≤ (sortWorldK enc k w g 0 n d' os).heap.size := by
    show w.heap.size ≤ (w.heap.modify g _ ++ os).size
    simp
  refine ⟨.inr ⟨g, cap, putCells id 0 (flatK enc k d') cur, by rw [← hlen], ?_, by rw [hlen]; exact hx, hc, ?_, ?_⟩, ⟨rfl, rfl, rfl, hsz, fun j hj hne => ?_⟩⟩
  · rw [hblk g hlt, Array.getElem?_modify, if_pos rfl, hg]; rfl
  · simp [putCells, hs]
  · have hF : (flatK enc k d').size ≤ cur.size := by rw [size_flatK, hd, hs]; exact hmul
    rw [putCells_eq _ _ hF, flatK_eq enc k hk]
    have : d'.toList.length * k = (d'.toList.flatMap enc).length := (gflat_len enc k hk _).symm
    simp only [this, List.take_left']
    exact flat_cells enc k hk _ fun x hx => r2 x (hp.mem_iff.1 hx)
  · rw [hblk j hj, Array.getElem?_modify, if_neg (fun e => hne (by rw [e]))]
end
end Go.Proofs.YtabajghokhfmhaaGreat
