/- Lemmas for FY, part 13: package formula: plain laws of Simple: what it gives is smaller, formed, and means the same, and more. -/
import Derived.Shelf.SlGeneric
import Derived.Shelf.SlSortCmp.WholeK
import Derived.Shelf.SlSortCmp.NoneTotal
import Derived.Ground.SlsfProg
import Derived.Test.YtnpnjcaomakehaaGreatProg
import Derived.Test.YtnpnjcaomakehaaGreatFY02
import Derived.Test.YtnpnjcaomakehaaGreatFY03
import Derived.Test.YtnpnjcaomakehaaGreatFY04
import Derived.Test.YtnpnjcaomakehaaGreatFY05
import Derived.Test.YtnpnjcaomakehaaGreatFY06
import Derived.Test.YtnpnjcaomakehaaGreatFY08
import Derived.Test.YtnpnjcaomakehaaGreatFY09
import Derived.Test.YtnpnjcaomakehaaGreatFY10
import Derived.Test.YtnpnjcaomakehaaGreatFY11
set_option linter.unusedSimpArgs false
set_option linter.unusedVariables false
namespace Go.Proofs.YtnpnjcaomakehaaGreat
open Go.RowKit Go.Shelf
def neverB (f : Fm) : Bool := decide (f.op = 5 ∧ f.kids = [])
def insF (f : Fm) : List Fm → List Fm
  | [] => [f]
  | x :: xs => if fcmpJ x f < 0 then x :: insF f xs else if x = f then x :: xs else f :: x :: xs
def sortF (l : List Fm) : List Fm := l.foldl (fun out f => insF f out) []
def ascF (l : List Fm) : Prop := l.Pairwise fun x y => fcmpJ x y < 0
theorem insF_mem {f y : Fm} : ∀ {l : List Fm}, y ∈ insF f l ↔ y = f ∨ y ∈ l
  | [] => by simp [insF]
  | x :: xs => by
    rw [insF]
    split
    · rw [List.mem_cons, insF_mem, List.mem_cons]
      constructor
      · rintro (h | h | h) <;> simp [h]
      · rintro (h | h | h) <;> simp [h]
    · split
      · rename_i h; subst h; simp
      · simp
theorem insF_asc {f : Fm} : ∀ {l : List Fm}, ascF l → ascF (insF f l)
  | [], _ => by simp [insF, ascF]
  | x :: xs, h => by
    have h1 : ∀ y ∈ xs, fcmpJ x y < 0 := (List.pairwise_cons.1 h).1
    have h2 : ascF xs := (List.pairwise_cons.1 h).2
    rw [insF]
    split
    · rename_i hx
      refine List.pairwise_cons.2 ⟨fun y hy => ?_, insF_asc h2⟩
      rcases insF_mem.1 hy with rfl | hy
      · exact hx
      · exact h1 y hy
    · split
      · exact h
      · rename_i hx hne
        have hlt : fcmpJ f x < 0 := by
          have e := fcmpJ_neg x f
          have n0 : fcmpJ x f ≠ 0 := fun e => hne (fcmpJ_0.1 e)
          omega
        refine List.pairwise_cons.2 ⟨fun y hy => ?_, h⟩
        rcases List.mem_cons.1 hy with rfl | hy
        · exact hlt
        · exact fcmpJ_lt hlt (by have := h1 y hy; omega)
theorem fold_mem {y : Fm} : ∀ {l acc : List Fm}, y ∈ l.foldl (fun out f => insF f out) acc ↔ y ∈ acc ∨ y ∈ l
  | [], acc => by simp
  | x :: xs, acc => by
    rw [List.foldl_cons, fold_mem, insF_mem, List.mem_cons]
    constructor
    · rintro ((h | h) | h) <;> simp [h]
    · rintro (h | h | h) <;> simp [h]
theorem fold_asc : ∀ {l acc : List Fm}, ascF acc → ascF (l.foldl (fun out f => insF f out) acc)
  | [], _, h => h
  | x :: xs, acc, h => by rw [List.foldl_cons]; exact fold_asc (insF_asc h)
theorem sortF_mem {y : Fm} {l : List Fm} : y ∈ sortF l ↔ y ∈ l := by unfold sortF; rw [fold_mem]; simp
theorem sortF_asc (l : List Fm) : ascF (sortF l) := fold_asc List.Pairwise.nil
theorem asc_uniq : ∀ {l m : List Fm}, ascF l → ascF m → (∀ x, x ∈ l ↔ x ∈ m) → l = m
  | [], [], _, _, _ => rfl
  | [], y :: m, _, _, h => by have := (h y).2 (by simp); simp at this
  | x :: l, [], _, _, h => by have := (h x).1 (by simp); simp at this
  | x :: l, y :: m, h1, h2, h => by
    obtain ⟨a1, a2⟩ := List.pairwise_cons.1 h1
    obtain ⟨b1, b2⟩ := List.pairwise_cons.1 h2
    have hxy : x = y := by
      rcases List.mem_cons.1 ((h x).1 (by simp)) with e | e
      · exact e
      · rcases List.mem_cons.1 ((h y).2 (by simp)) with e' | e'
        · exact e'.symm
        · have c1 := b1 x e
          have c2 := a1 y e'
          have := fcmpJ_neg x y
          omega
    subst hxy
    have irr : ∀ z : Fm, ¬ fcmpJ z z < 0 := fun z hz => by rw [fcmpJ_0.2 rfl] at hz; omega
    rw [asc_uniq a2 b2 fun z => ?_]
    have hz := h z
    rw [List.mem_cons, List.mem_cons] at hz
    constructor
    · intro hm
      rcases hz.1 (.inr hm) with e | e
      · subst e; exact absurd (a1 z hm) (irr z)
      · exact e
    · intro hm
      rcases hz.2 (.inr hm) with e | e
      · subst e; exact absurd (b1 z hm) (irr z)
      · exact e
def allF (op : Int) (kids : List Fm) : List Fm := kids.flatMap fun g => if g.op = op then g.kids else [g]
def joinF (op : Int) (kids : List Fm) : Fm :=
  if op = 4 ∧ (allF op kids).any neverB = true then neverF
  else if op = 5 ∧ ((allF op kids).any fun g => decide (g.op = 0)) = true then noF
  else match sortF ((allF op kids).filter fun g => !decide (g.op = 0)) with
    | [x] => x
    | [] => if op = 4 then noF else .mk op 0 [] []
    | out => .mk op 0 [] out
def nodeS (op n : Int) (inn : List Itv) (kids : List Fm) : Fm :=
  if op = 2 then (if inn = [] then neverF else .mk op n inn kids)
  else if op = 3 then (if neverB (kids.headD noF) = true then neverF else .mk op n inn kids)
  else if op = 6 then (if (kids.headD noF).op = 0 then neverF else if neverB (kids.headD noF) = true then noF else if (kids.headD noF).op = 6 then (kids.headD noF).kids.headD noF else .mk op n inn kids)
  else if op = 4 ∨ op = 5 then joinF op kids
  else .mk op n inn kids
mutual
def simpF : Fm → Fm
  | .mk op n inn kids => nodeS op n inn (simpFs kids)
def simpFs : List Fm → List Fm
  | [] => []
  | f :: l => simpF f :: simpFs l
end
theorem simpFs_eq : ∀ l : List Fm, simpFs l = l.map simpF
  | [] => rfl
  | f :: l => by rw [simpFs, List.map_cons, simpFs_eq l]
theorem simpF_eq (f : Fm) : simpF f = nodeS f.op f.n f.inn (f.kids.map simpF) := by
  cases f; rw [simpF, simpFs_eq]; rfl
-- sums
theorem ins_sum (m : Fm → Nat) (f : Fm) : ∀ l : List Fm, sumN m (insF f l) ≤ m f + sumN m l
  | [] => by simp [insF, sumN]
  | x :: xs => by
    have := ins_sum m f xs
    rw [insF]
    split
    · simp only [sumN]; omega
    · split <;> simp only [sumN] <;> omega
theorem fold_sum (m : Fm → Nat) : ∀ (l acc : List Fm), sumN m (l.foldl (fun out f => insF f out) acc) ≤ sumN m acc + sumN m l
  | [], acc => by simp [sumN]
  | x :: xs, acc => by
    rw [List.foldl_cons]
    have h1 := fold_sum m xs (insF x acc)
    have h2 := ins_sum m x acc
    simp only [sumN]; omega
theorem sort_sum (m : Fm → Nat) (l : List Fm) : sumN m (sortF l) ≤ sumN m l := by
  have := fold_sum m l []
  simpa [sumN, sortF] using this
theorem filter_sum {α : Type} (m : α → Nat) (p : α → Bool) : ∀ l : List α, sumN m (l.filter p) ≤ sumN m l
  | [] => Nat.le_refl _
  | x :: xs => by
    have := filter_sum m p xs
    rw [List.filter_cons]
    split <;> simp only [sumN] <;> omega
theorem sumN_two {α : Type} (m : α → Nat) : ∀ l k : List α, sumN m (l ++ k) = sumN m l + sumN m k
  | [], k => by simp [sumN]
  | x :: xs, k => by rw [List.cons_append, sumN, sumN, sumN_two m xs k]; omega
theorem all_sum (m : Fm → Nat) (op : Int) (hm : ∀ g : Fm, sumN m g.kids ≤ m g) : ∀ kids : List Fm, sumN m (allF op kids) ≤ sumN m kids
  | [] => Nat.le_refl _
  | x :: xs => by
    have h1 := all_sum m op hm xs
    have h2 := hm x
    have e : allF op (x :: xs) = (if x.op = op then x.kids else [x]) ++ allF op xs := by unfold allF; rw [List.flatMap_cons]
    rw [e, sumN_two]
    simp only [sumN]
    split
    · omega
    · simp only [sumN]; omega
theorem kids_bulk (g : Fm) : sumN Fm.bulk g.kids ≤ g.bulk := by rw [g.bulk_eq]; omega
theorem bulk_mk (op n : Int) (inn : List Itv) (ks : List Fm) : (Fm.mk op n inn ks).bulk = 1 + inn.length + sumN Fm.bulk ks := Fm.bulk_eq _
theorem never_bulk : neverF.bulk = 1 := by rw [neverF, bulk_mk]; rfl
theorem no_bulk : noF.bulk = 1 := by rw [noF, bulk_mk]; rfl
theorem join_cases (op : Int) (kids : List Fm) (Q : Fm → Prop) (h1 : Q neverF) (h2 : Q noF) (h3 : ∀ x, x ∈ allF op kids → Q x) (h4 : ∀ out, out = sortF ((allF op kids).filter fun g => !decide (g.op = 0)) → Q (.mk op 0 [] out)) : Q (joinF op kids) := by
  unfold joinF
  split
  · exact h1
  · split
    · exact h2
    · split
      · rename_i x hx
        refine h3 x ?_
        have : x ∈ sortF ((allF op kids).filter fun g => !decide (g.op = 0)) := by rw [hx]; simp
        exact (List.mem_filter.1 (sortF_mem.1 this)).1
      · rename_i hx
        split
        · exact h2
        · exact h4 [] hx.symm
      · rename_i out hx1 hx2
        exact h4 _ rfl
theorem join_bulk (op : Int) (kids : List Fm) : (joinF op kids).bulk ≤ 1 + sumN Fm.bulk kids := by
  have ha := all_sum Fm.bulk op kids_bulk kids
  refine join_cases op kids (fun r => r.bulk ≤ 1 + sumN Fm.bulk kids) (by rw [never_bulk]; omega) (by rw [no_bulk]; omega) (fun x hx => ?_) fun out ho => ?_
  · have := sumN_mem Fm.bulk hx; omega
  · rw [bulk_mk, ho]
    have h1 := sort_sum Fm.bulk ((allF op kids).filter fun g => !decide (g.op = 0))
    have h2 := filter_sum Fm.bulk (fun g => !decide (g.op = 0)) (allF op kids)
    simp only [List.length_nil]; omega
theorem all_mem {op : Int} {kids : List Fm} {x : Fm} (h : x ∈ allF op kids) : ∃ g ∈ kids, (g.op = op ∧ x ∈ g.kids) ∨ (g.op ≠ op ∧ x = g) := by
  unfold allF at h
  obtain ⟨g, hg, hx⟩ := List.mem_flatMap.1 h
  refine ⟨g, hg, ?_⟩
  split at hx
  · rename_i h1; exact .inl ⟨h1, hx⟩
  · rename_i h1; exact .inr ⟨h1, List.mem_singleton.1 hx⟩
theorem head_bulk (kids : List Fm) : (kids.headD noF).bulk ≤ 1 + sumN Fm.bulk kids := by
  cases kids with
  | nil => show noF.bulk ≤ _; rw [no_bulk]; omega
  | cons x l => show x.bulk ≤ _; simp only [sumN]; omega
theorem node_bulk (op n : Int) (inn : List Itv) (kids : List Fm) : (nodeS op n inn kids).bulk ≤ 1 + inn.length + sumN Fm.bulk kids := by
  have hm := bulk_mk op n inn kids
  have h1 := head_bulk kids
  have h2 := head_bulk (kids.headD noF).kids
  have h3 := (kids.headD noF).bulk_eq
  have h4 := join_bulk op kids
  unfold nodeS
  repeat' split
  all_goals first | (rw [never_bulk]; omega) | (rw [no_bulk]; omega) | omega
theorem sumN_map_mono {m : Fm → Nat} {g : Fm → Fm} : ∀ l : List Fm, (∀ x ∈ l, m (g x) ≤ m x) → sumN m (l.map g) ≤ sumN m l
  | [], _ => Nat.le_refl _
  | x :: l, h => by
    have h1 := h x (by simp)
    have h2 := sumN_map_mono l fun y hy => h y (by simp [hy])
    simp only [List.map_cons, sumN]; omega
theorem simp_bulk (f : Fm) : (simpF f).bulk ≤ f.bulk := by
  induction f using Fm.ind with
  | h f ih =>
    have h1 := sumN_map_mono f.kids ih
    have h2 := node_bulk f.op f.n f.inn (f.kids.map simpF)
    rw [simpF_eq, f.bulk_eq]; omega
-- what is formed
theorem wholeN_k {cl : Int} {f g : Fm} (h : wholeN cl f = true) (hg : g ∈ f.kids) : wholeN cl g = true := by
  rw [wholeN_eq, Bool.and_eq_true, List.all_eq_true] at h
  exact h.2 g hg
theorem wholeN_never (cl : Int) : wholeN cl neverF = true := whole_ao (by decide) (by simp)
theorem wholeN_no (cl : Int) : wholeN cl noF = true := whole_leaf rfl (fun h => by cases h)
theorem formed_map {op n : Int} {inn : List Itv} {ks ms : List Fm} (hl : ms.length = ks.length) (h : formed1 (.mk op n inn ks) = true) : formed1 (.mk op n inn ms) = true := by
  have he : ms.isEmpty = ks.isEmpty := by
    cases ms <;> cases ks <;> simp at hl ⊢
  rw [formed1_mk] at h ⊢
  rw [he]
  simp only [hl]
  exact h
theorem wholeN_mk' {cl op n : Int} {inn : List Itv} {ks ms : List Fm} (h : wholeN cl (.mk op n inn ks) = true) (hl : ms.length = ks.length) (hk : ∀ g ∈ ms, wholeN cl g = true) : wholeN cl (.mk op n inn ms) = true := by
  rw [wholeN_eq, Bool.and_eq_true, Bool.and_eq_true] at h ⊢
  refine ⟨⟨formed_map hl h.1.1, h.1.2⟩, ?_⟩
  rw [List.all_eq_true]; exact hk
theorem formed_one {f : Fm} (h : formed1 f = true) (ho : f.op = 3 ∨ f.op = 6) : ∃ g, f.kids = [g] := by
  obtain ⟨op, n, inn, ks⟩ := f
  rw [formed1_mk] at h
  have ho' : op = 3 ∨ op = 6 := ho
  have : ks.length = 1 := by
    rcases ho' with rfl | rfl
    · split at h
      · cases h
      · simpa using h
    · split at h
      · cases h
      · simpa using h
  match ks, this with
  | [g], _ => exact ⟨g, rfl⟩
theorem wholeN_formed {cl : Int} {f : Fm} (h : wholeN cl f = true) : formed1 f = true := by
  rw [wholeN_eq, Bool.and_eq_true, Bool.and_eq_true] at h
  exact h.1.1
theorem formed_64 {f : Fm} (h : formed1 f = true) (ho : f.op = 1) : f.n < 64 := by
  obtain ⟨op, n, inn, ks⟩ := f
  rw [formed1_mk] at h
  have ho' : op = 1 := ho
  subst ho'
  split at h
  · cases h
  · simp at h; exact h.2
theorem wholeN_64 {f : Fm} (h : wholeB f = true) : wholeN 64 f = true := by
  unfold wholeB at h
  unfold wholeN
  rw [List.all_eq_true] at h ⊢
  intro x hx
  have h1 := h x hx
  rw [h1, Bool.true_and]
  by_cases ho : x.op = 1
  · have := formed_64 h1 ho
    simp [ho, this]
  · simp [ho]
theorem join_whole {cl op : Int} {kids : List Fm} (ho : op = 4 ∨ op = 5) (hk : ∀ g ∈ kids, wholeN cl g = true) : wholeN cl (joinF op kids) = true := by
  have ha : ∀ x ∈ allF op kids, wholeN cl x = true := by
    intro x hx
    obtain ⟨g, hg, ⟨-, h2⟩ | ⟨-, rfl⟩⟩ := all_mem hx
    · exact wholeN_k (hk g hg) h2
    · exact hk _ hg
  refine join_cases op kids (fun r => wholeN cl r = true) (wholeN_never cl) (wholeN_no cl) ha fun out h => ?_
  refine whole_ao (by omega) fun x hx => ?_
  rw [h] at hx
  exact ha x (List.mem_filter.1 (sortF_mem.1 hx)).1
theorem node_whole {cl op n : Int} {inn : List Itv} {kids : List Fm} (h : wholeN cl (.mk op n inn kids) = true) : wholeN cl (nodeS op n inn kids) = true := by
  have hk : ∀ g ∈ kids, wholeN cl g = true := fun g hg => wholeN_k h hg
  unfold nodeS
  split
  · split
    · exact wholeN_never cl
    · exact h
  · split
    · split
      · exact wholeN_never cl
      · exact h
    · split
      · split
        · exact wholeN_never cl
        · split
          · exact wholeN_no cl
          · split
            · rename_i h1 h2 h3 h4 h5 h6
              obtain ⟨g, hg⟩ := formed_one (wholeN_formed h) (.inr h3)
              have hg' : kids = [g] := hg
              subst hg'
              have hw := hk g (by simp)
              obtain ⟨g', hg'⟩ := formed_one (wholeN_formed hw) (.inr h6)
              show wholeN cl (g.kids.headD noF) = true
              rw [hg']
              exact wholeN_k hw (by rw [hg']; simp)
            · exact h
      · split
        · rename_i ho; exact join_whole ho hk
        · exact h
theorem simp_whole {cl : Int} (f : Fm) : wholeN cl f = true → wholeN cl (simpF f) = true := by
  induction f using Fm.ind with
  | h f ih =>
    intro h
    rw [simpF_eq]
    refine node_whole ?_
    have e := f.eta
    rw [e] at h
    refine wholeN_mk' h (by simp) fun g hg => ?_
    obtain ⟨x, hx, rfl⟩ := List.mem_map.1 hg
    exact ih x hx (wholeN_k h hx)
-- what it means
section
variable {ps : List (List Int)}
theorem hold_6 {f g : Fm} (h : f.op = 6) (hk : f.kids = [g]) (t : Thing) : hold ps f t = !hold ps g t := by rw [hold_eq]; simp [h, hk, holdFst]
end
end Go.Proofs.YtnpnjcaomakehaaGreat
namespace Go.Proofs.YtnpnjcaomakehaaGreat
open Go.Shelf
def sSortFm_ren : Go.Shelf.Ren := ⟨fun | 6 => 161 | 15 => 173 | 14 => 172 | 28 => 193 | 29 => 194 | 20 => 185 | 21 => 186 | 22 => 187 | 23 => 188 | 24 => 189 | 25 => 190 | 26 => 191 | 27 => 192 | 46 => 201 | 47 => 202 | 48 => 203 | 49 => 204 | 50 => 205 | 57 => 207 | n => n, fun | 22 => 45 | 24 => 50 | 25 => 97 | 3 => 3 | 39 => 59 | 0 => 0 | 53 => 211 | 55 => 78 | 4 => 4 | 46 => 204 | 45 => 203 | 50 => 208 | 5 => 5 | 9 => 9 | 66 => 215 | 70 => 95 | 76 => 219 | 77 => 220 | n => n, fun | n => n⟩
theorem sSortFm : Go.Proofs.SlLaysF0.n6 Tryz.prog sSortFm_ren := {
  mixed := by kernel_rfl
  f6 := ⟨Tryz.f161.name, by decide, Tryz.func161.trans (congrArg some (by kernel_rfl))⟩
  f14 := ⟨Tryz.f172.name, by decide, Tryz.func172.trans (congrArg some (by kernel_rfl))⟩
  f15 := Tryz.func173.trans (congrArg some (by kernel_rfl))
  f20 := ⟨Tryz.f185.name, by decide, Tryz.func185.trans (congrArg some (by kernel_rfl))⟩
  f21 := ⟨Tryz.f186.name, by decide, Tryz.func186.trans (congrArg some (by kernel_rfl))⟩
  f22 := ⟨Tryz.f187.name, by decide, Tryz.func187.trans (congrArg some (by kernel_rfl))⟩
  f23 := ⟨Tryz.f188.name, by decide, Tryz.func188.trans (congrArg some (by kernel_rfl))⟩
  f24 := ⟨Tryz.f189.name, by decide, Tryz.func189.trans (congrArg some (by kernel_rfl))⟩
  f25 := ⟨Tryz.f190.name, by decide, Tryz.func190.trans (congrArg some (by kernel_rfl))⟩
  f26 := ⟨Tryz.f191.name, by decide, Tryz.func191.trans (congrArg some (by kernel_rfl))⟩
  f27 := ⟨Tryz.f192.name, by decide, Tryz.func192.trans (congrArg some (by kernel_rfl))⟩
  f28 := Tryz.func193.trans (congrArg some (by kernel_rfl))
  f29 := Tryz.func194.trans (congrArg some (by kernel_rfl))
  f46 := ⟨Tryz.f201.name, by decide, Tryz.func201.trans (congrArg some (by kernel_rfl))⟩
  f47 := Tryz.func202.trans (congrArg some (by kernel_rfl))
  f48 := Tryz.func203.trans (congrArg some (by kernel_rfl))
  f49 := ⟨Tryz.f204.name, by decide, Tryz.func204.trans (congrArg some (by kernel_rfl))⟩
  f50 := ⟨Tryz.f205.name, by decide, Tryz.func205.trans (congrArg some (by kernel_rfl))⟩
  f57 := ⟨Tryz.f207.name, by decide, Tryz.func207.trans (congrArg some (by kernel_rfl))⟩
  t0 := Tryz.underlying0
  a0 := Tryz.isAgg0
  z0 := Tryz.sizeOf0
  v0 := Tryz.zeroValue0
  t3 := Tryz.underlying3
  a3 := Tryz.isAgg3
  z3 := Tryz.sizeOf3
  v3 := Tryz.zeroValue3
  t4 := Tryz.underlying4
  a4 := Tryz.isAgg4
  z4 := Tryz.sizeOf4
  v4 := Tryz.zeroValue4
  t5 := Tryz.underlying5
  a5 := Tryz.isAgg5
  z5 := Tryz.sizeOf5
  v5 := Tryz.zeroValue5
  t9 := Tryz.underlying9
  a9 := Tryz.isAgg9
  z9 := Tryz.sizeOf9
  v9 := Tryz.zeroValue9
  t22 := Tryz.underlying45
  a22 := Tryz.isAgg45
  z22 := Tryz.sizeOf45
  v22 := Tryz.zeroValue45
  t25 := Tryz.underlying97
  a25 := Tryz.isAgg97
  z25 := Tryz.sizeOf97
  v25 := Tryz.zeroValue97
  t39 := Tryz.underlying59
  a39 := Tryz.isAgg59
  z39 := Tryz.sizeOf59
  v39 := Tryz.zeroValue59
  t45 := Tryz.underlying203
  a45 := Tryz.isAgg203
  z45 := Tryz.sizeOf203
  v45 := Tryz.zeroValue203
  t46 := Tryz.underlying204
  a46 := Tryz.isAgg204
  z46 := Tryz.sizeOf204
  v46 := Tryz.zeroValue204
  t50 := Tryz.underlying208
  a50 := Tryz.isAgg208
  z50 := Tryz.sizeOf208
  v50 := Tryz.zeroValue208
  t53 := Tryz.underlying211
  a53 := Tryz.isAgg211
  z53 := Tryz.sizeOf211
  v53 := Tryz.zeroValue211
  t55 := Tryz.underlying78
  a55 := Tryz.isAgg78
  z55 := Tryz.sizeOf78
  v55 := Tryz.zeroValue78
  t66 := Tryz.underlying215
  a66 := Tryz.isAgg215
  z66 := Tryz.sizeOf215
  v66 := Tryz.zeroValue215
  t70 := Tryz.underlying95
  a70 := Tryz.isAgg95
  z70 := Tryz.sizeOf95
  v70 := Tryz.zeroValue95
  t76 := Tryz.underlying219
  a76 := Tryz.isAgg219
  z76 := Tryz.sizeOf219
  v76 := Tryz.zeroValue219
  t77 := Tryz.underlying220
  a77 := Tryz.isAgg220
  z77 := Tryz.sizeOf220
  v77 := Tryz.zeroValue220 }
end Go.Proofs.YtnpnjcaomakehaaGreat
namespace Go.Proofs.YtnpnjcaomakehaaGreat
open Go.RowKit Go.Shelf Go.Lib Go.Sort
set_option linter.unusedSectionVars false
structure FmT (H : PH) where
  f : Fm
  a3 : Option Addr
  c3 : Nat
  a4 : Option Addr
  c4 : Nat
  r : FmR H (fmC f a3 c3 a4 c4) f
def encT {H : PH} (x : FmT H) : List Value := fmC x.f x.a3 x.c3 x.a4 x.c4
instance instFmT (H : PH) : Inhabited (FmT H) := ⟨⟨noF, none, 0, none, 0, noF_R H⟩⟩
def cmpT {H : PH} (x y : FmT H) : Int := fcmpJ x.f y.f
theorem swoT (H : PH) : SWO (ltOf (cmpT (H := H))) where
  irrefl x := by unfold ltOf cmpT; rw [fcmpJ_0.2 rfl]; rfl
  trans x y z h1 h2 := by
    unfold ltOf at *
    have h1 := of_decide_eq_true h1
    have h2 := of_decide_eq_true h2
    unfold cmpT at *
    exact decide_eq_true (fcmpJ_lt h1 (by omega))
  ntrans x y z h1 h2 := by
    unfold ltOf at *
    have h1 := of_decide_eq_false h1
    have h2 := of_decide_eq_false h2
    unfold cmpT at *
    refine decide_eq_false fun h3 => ?_
    have n1 := fcmpJ_neg x.f y.f
    have n2 := fcmpJ_neg y.f z.f
    have n3 := fcmpJ_neg x.f z.f
    have := fcmpJ_le (a := z.f) (b := y.f) (c := x.f) (by omega) (by omega)
    omega
def TR {H : PH} (_ : PH) (cs : List Value) (x : FmT H) : Prop := cs = encT x
theorem cells_T {H : PH} : ∀ {xs : List Fm} {c : List Value}, Cells H FmR 4 c xs → ∃ ts : List (FmT H), ts.map FmT.f = xs ∧ Cells H (TR (H := H)) 4 c ts
  | [], c, h => ⟨[], rfl, h⟩
  | x :: xs, c, h => by
    obtain ⟨cs, rest, rfl, h1, h2, h3⟩ := h
    obtain ⟨ts, e, h4⟩ := cells_T h3
    obtain ⟨a3, c3, a4, c4, rfl, -⟩ := h2.form
    exact ⟨(⟨x, a3, c3, a4, c4, h2⟩ : FmT H) :: ts, by rw [List.map_cons, e], _, rest, rfl, h1, rfl, h4⟩
theorem cells_F {H : PH} : ∀ {ts : List (FmT H)} {c : List Value}, Cells H (TR (H := H)) 4 c ts → Cells H FmR 4 c (ts.map FmT.f)
  | [], c, h => h
  | x :: ts, c, h => by
    obtain ⟨cs, rest, rfl, h1, rfl, h3⟩ := h
    exact ⟨_, rest, rfl, h1, x.r, cells_F h3⟩
theorem one_encT {H : PH} (x : FmT H) : ∀ v ∈ encT x, v.oneCell' = true := by
  intro u hu
  simp only [encT, fmC, List.mem_cons, List.not_mem_nil, or_false] at hu
  rcases hu with rfl | rfl | rfl | rfl <;> rfl
theorem sortW_ple {α : Type} [Inhabited α] {H : PH} {w : World} {g : Nat} (enc : α → List Value) (k m : Nat) (dk : Array α) (os : Array Obj) (hl : PLe H (ph w)) (hg : H g = none) : PLe H (ph (sortWorldK enc k w g 0 m dk os)) := by
  intro j o hj
  have h1 := hl j o hj
  have h2 := ph_lt h1
  have hne : g ≠ j := fun e => by rw [← e, hg] at hj; cases hj
  have hb : (sortWorldK enc k w g 0 m dk os).heap[j]? = (w.heap.modify g (onCells (putCells id 0 (flatK enc k dk))))[j]? := by
    show (w.heap.modify g _ ++ os)[j]? = _
    rw [Array.getElem?_append_left (by simpa using h2)]
  show (sortWorldK enc k w g 0 m dk os).heap[j]? = some o
  rw [hb, Array.getElem?_modify, if_neg hne]; exact h1
def SortFP (H : PH) (w : World) (v : Value) (xs : List Fm) (e : Ending) (w' : World) : Prop :=
  e = .returned (.tuple #[]) ∧ ∃ xs', xs'.Perm xs ∧ xs'.Pairwise (fun x y : Fm => fcmpJ x y ≤ 0) ∧ OwnC H w' FmR 4 50 v xs' ∧ w.grownBy w' v.ownBlock
set_option maxHeartbeats 1000000 in
theorem sortFm_c (H : PH) (v : Value) (xs : List Fm) (w : World) (hl : PLe H (ph w)) (hb : ∀ k, v.ownBlock = some k → H k = none) (hO : OwnC H w FmR 4 50 v xs) (hn : xs.length ≤ 1000000) :
    Calls Tryz.prog 161 #[v, .func (.func 162) #[] #[]] w (SortFP H w v xs) := by
  rcases hO with ⟨rfl, rfl⟩ | ⟨g, cap, cur, rfl, hg, h1, h2, h3, h4⟩
  · have hS := AnyF.slices_SortFunc_none (P := Tryz.prog) (ρ := sSortFm_ren) { sSortFm with } none 0 (.func (.func 162) #[] #[]) w
    change Calls Tryz.prog 161 _ _ _ at hS
    refine hS.mono ?_
    rintro e w' ⟨rfl, rfl⟩
    exact ⟨rfl, [], List.Perm.refl _, List.Pairwise.nil, .inl ⟨rfl, rfl⟩, ⟨rfl, rfl, rfl, Nat.le_refl _, fun _ _ _ => rfl⟩⟩
  · have hgn : H g = none := hb g rfl
    obtain ⟨ts, rfl, h4⟩ := cells_T h4
    simp only [List.length_map] at *
    have hlt : g < w.heap.size := (Array.getElem?_eq_some_iff.1 hg).1
    have hmul : ts.length * 4 ≤ cap * 4 := Nat.mul_le_mul_right _ h1
    obtain ⟨r1, r2⟩ := cells_flat encT 4 (fun _ _ h => h) h4
    have hH : HoldsK encT 4 w g 0 ts.toArray := by
      intro j hj
      rw [size_flatK] at hj
      have hj' : j < ts.length * 4 := by simpa using hj
      rw [Nat.zero_add]
      refine ⟨?_, by simp [World.frozen?, hg]⟩
      rw [show w.cell? ⟨g, j, none⟩ = cur[j]? by simp [World.cell?, hg]]
      have e1 : cur[j]? = (cur.toList.take (ts.length * 4))[j]? := by rw [List.getElem?_take, if_pos hj']; simp
      rw [e1, r1, flatK_eq encT 4 (fun _ => rfl), id]
      have hl : j < (ts.flatMap encT).length := by rw [gflat_len encT 4 (fun _ => rfl)]; exact hj'
      simp
      rw [List.getElem?_eq_getElem hl]; rfl
    have eg : ∀ args w, (callFunc 162 args).run Tryz.prog w = .ok (.enter 162 args) w := enters_of Tryz.func162 (by kernel_rfl) rfl
    have hcon := AnyQ.slices_SortFunc sSortFm 4 Tryz.isAgg50 Tryz.sizeOf50 encT (fun _ => rfl) (fun x v hv => one_encT x v (by simpa using hv)) cmpT (swoT H) 162 #[] g 0 cap ts.toArray w eg
      (fun m os dk hs x y => fcmpJ_g x.f y.f (encT x) (encT y) _ (mono_FmR _ _ _ _ (sortW_ple encT 4 m dk os hl hgn) x.r) (mono_FmR _ _ _ _ (sortW_ple encT 4 m dk os hl hgn) y.r)) hH hlt (by simp; omega)
    change Calls Tryz.prog 161 _ _ _ at hcon
    rw [show ts.toArray.size = ts.length by simp] at hcon
    refine hcon.mono ?_
    rintro e w' ⟨rfl, d', n, os, ⟨hp1, -, hp2⟩, hs, rfl⟩
    have hp : d'.toList.Perm ts := by
      have : d'.size = ts.length := by simpa using hp1
      have e2 : (ts.toArray.extract 0 ts.length).toList = ts := by simp
      have e3 : (d'.extract 0 ts.length).toList = d'.toList := by rw [← this]; simp
      rw [e2, e3] at hp2
      exact hp2
    have hd : d'.size = ts.length := by simpa using hp.length_eq
    obtain ⟨o1, o2⟩ := sorted_own (os := os) (n := n) (E := TR (H := H)) (H := H) encT 4 (fun _ => rfl) (fun _ _ h => h) hg h1 h2 h3 h4 hp
    refine ⟨rfl, d'.toList.map FmT.f, hp.map _, ?_, ?_, o2⟩
    · rw [List.pairwise_map, List.pairwise_iff_getElem]
      intro i j hi hj hij
      have hj' : j < d'.size := by simpa using hj
      have := hs i j (Nat.zero_le _) hij (by omega)
      rw [getElem!_pos d' j hj', getElem!_pos d' i (by omega)] at this
      have this := of_decide_eq_false this
      unfold cmpT at this
      simp only [Array.getElem_toList]
      have e := fcmpJ_neg (d'[i]'(by omega)).f (d'[j]'(by omega)).f
      generalize fcmpJ (d'[i]'(by omega)).f (d'[j]'(by omega)).f = z at *
      generalize fcmpJ (d'[j]'(by omega)).f (d'[i]'(by omega)).f = z' at *
      omega
    · rcases o1 with ⟨e, -⟩ | ⟨g', cap', cur', e, k1, k2, k3, k4, k5⟩
      · cases e
      · simp only [Value.slice.injEq, Option.some.injEq, Addr.mk.injEq, true_and, and_true] at e
        obtain ⟨rfl, e2, rfl⟩ := e
        refine .inr ⟨g, cap, cur', ?_, k1, by rw [List.length_map]; exact k2, k3, k4, ?_⟩
        · rw [List.length_map, hp.length_eq]
        · rw [List.length_map]; exact cells_F k5
end Go.Proofs.YtnpnjcaomakehaaGreat
namespace Go.Proofs.YtnpnjcaomakehaaGreat
open Go.RowKit Go.Shelf
abbrev ownFm (v : Value) (xs : List Fm) : Chunk := own mono_FmR 4 50 v xs
theorem fmsM_row {w0 W : World} {H0 H : PH} {LB : List Chunk} {oa : Option Addr} {N oc k : Nat} {xs : List Fm} {x : Fm} (hM : Mem w0 H0 (ownFm (.slice oa N oc) xs :: LB) H W) (hk : xs[k]? = some x) :
    ∃ g a3 c3 a4 c4, oa = some ⟨g, 0, none⟩ ∧ g < W.heap.size ∧ (∀ j u, (fmC x a3 c3 a4 c4)[j]? = some u → W.cell? ⟨g, k * 4 + j, none⟩ = some u) ∧ FmR H (fmC x a3 c3 a4 c4) x := by
  obtain ⟨hkl, hkx⟩ := List.getElem?_eq_some_iff.1 hk
  obtain ⟨g, cap, cs, hv, hcs, hc, hE, hg⟩ := hM.get 0 rfl k hkl
  rw [hkx] at hE
  obtain ⟨a3, c3, a4, c4, rfl, -⟩ := hE.form
  cases hv
  refine ⟨g, a3, c3, a4, c4, rfl, hg, fun j u hu => ?_, hE⟩
  obtain ⟨hj, he⟩ := List.getElem?_eq_some_iff.1 hu
  rw [hc j (by simpa [fmC] using hj), ← he]
  simp [List.getD_eq_getElem?_getD, hj]
theorem one_fmC (x : Fm) (a3 : Option Addr) (c3 : Nat) (a4 : Option Addr) (c4 : Nat) : ∀ u ∈ fmC x a3 c3 a4 c4, u.oneCell' = true := by
  intro u hu
  simp only [fmC, List.mem_cons, List.not_mem_nil, or_false] at hu
  rcases hu with rfl | rfl | rfl | rfl <;> rfl
def DelAt (p : Fm → Bool) (xs ys : List Fm) (i j : Nat) : Prop := ys.length = xs.length ∧ i < j ∧ j ≤ xs.length ∧ ys.take i = (xs.take j).filter (fun x => !p x) ∧ i = ((xs.take j).filter fun x => !p x).length ∧ ys.drop j = xs.drop j
theorem DelAt.at {p : Fm → Bool} {xs ys : List Fm} {i j : Nat} (h : DelAt p xs ys i j) (hj : j < xs.length) : ys[j]? = some (xs[j]) := by
  obtain ⟨h1, -, -, -, -, h6⟩ := h
  have := congrArg (fun l => l[0]?) h6
  simpa [hj] using this
theorem DelAt.skip {p : Fm → Bool} {xs ys : List Fm} {i j : Nat} (h : DelAt p xs ys i j) (hj : j < xs.length) (hp : p xs[j] = true) : DelAt p xs ys i (j + 1) := by
  obtain ⟨h1, h2, h3, h4, h5, h6⟩ := h
  have e : (xs.take (j + 1)).filter (fun x => !p x) = (xs.take j).filter (fun x => !p x) := by
    rw [List.take_add_one, List.filter_append, List.getElem?_eq_getElem hj]
    simp [hp]
  refine ⟨h1, by omega, by omega, by rw [e]; exact h4, by rw [e]; exact h5, ?_⟩
  rw [← List.drop_drop, ← List.drop_drop, h6]
theorem DelAt.keep {p : Fm → Bool} {xs ys : List Fm} {i j : Nat} (h : DelAt p xs ys i j) (hj : j < xs.length) (hp : p xs[j] = false) : DelAt p xs (ys.set i xs[j]) (i + 1) (j + 1) := by
  obtain ⟨h1, h2, h3, h4, h5, h6⟩ := h
  have e : (xs.take (j + 1)).filter (fun x => !p x) = (xs.take j).filter (fun x => !p x) ++ [xs[j]] := by
    rw [List.take_add_one, List.filter_append, List.getElem?_eq_getElem hj]
    simp [hp]
  refine ⟨by simpa using h1, by omega, by omega, ?_, ?_, ?_⟩
  · rw [e, ← h4, List.take_add_one, List.take_set_of_le (Nat.le_refl _), List.getElem?_set_self (by omega)]; rfl
  · rw [e, List.length_append, ← h5]; rfl
  · rw [List.drop_set_of_lt (by omega), ← List.drop_drop, ← List.drop_drop, h6]
theorem DelAt.start {p : Fm → Bool} {xs : List Fm} {i : Nat} (hi : i < xs.length) (hp : p xs[i] = true) (hno : ∀ x ∈ xs.take i, p x = false) : DelAt p xs xs i (i + 1) := by
  have e0 : (xs.take i).filter (fun x => !p x) = xs.take i := by
    rw [List.filter_eq_self]
    intro x hx; rw [hno x hx]; rfl
  have e : (xs.take (i + 1)).filter (fun x => !p x) = xs.take i := by
    rw [List.take_add_one, List.filter_append, List.getElem?_eq_getElem hi, e0]
    simp [hp]
  exact ⟨rfl, by omega, by omega, e.symm, by rw [e, List.length_take]; omega, rfl⟩
theorem DelAt.done {p : Fm → Bool} {xs ys : List Fm} {i : Nat} (h : DelAt p xs ys i xs.length) : ys.take i = xs.filter fun x => !p x := by
  rw [h.2.2.2.1, List.take_length]
theorem idxOf_cases (p : Fm → Bool) (xs : List Fm) : (idxOf p xs = -1 ∧ xs.filter (fun x => !p x) = xs) ∨ ∃ i : Nat, idxOf p xs = i ∧ ∃ hi : i < xs.length, p xs[i] = true ∧ ∀ x ∈ xs.take i, p x = false := by
  by_cases h : ∀ x ∈ xs, p x = false
  · refine .inl ⟨idxOf_none p xs h, ?_⟩
    rw [List.filter_eq_self]
    intro x hx; rw [h x hx]; rfl
  · have hex : ∃ x ∈ xs, p x = true := by
      refine Classical.byContradiction fun hn => h fun x hx => ?_
      cases hp : p x with
      | false => rfl
      | true => exact absurd ⟨x, hx, hp⟩ hn
    have hlt := List.findIdx_lt_length_of_exists hex
    have hp : p xs[xs.findIdx p] = true := List.findIdx_getElem (w := hlt)
    have hno : ∀ x ∈ xs.take (xs.findIdx p), p x = false := by
      intro x hx
      obtain ⟨j, hj, rfl⟩ := List.mem_iff_getElem.1 hx
      rw [List.length_take] at hj
      rw [List.getElem_take]
      simpa using List.not_of_lt_findIdx (p := p) (xs := xs) (i := j) (by omega)
    exact .inr ⟨xs.findIdx p, idxOf_found p xs _ hlt hp hno, hlt, hp, hno⟩
def HPF (w : World) (H : PH) (p : Fm → Bool) (fid : Nat) (cap : Array Value) : Prop := ∀ w' cs x, PLe H (ph w') → FmR H cs x → Calls Tryz.prog fid (#[.agg cs.toArray] ++ cap) w' (RetV w' (.bool (p x)))
set_option maxRecDepth 100000 in
set_option maxHeartbeats 1000000 in
theorem idxFm_c (p : Fm → Bool) (fid : Nat) (cap : Array Value) (v : Value) (xs : List Fm) (w0 w : World) (H0 H : PH) (LB : List Chunk) (hM : Mem w0 H0 (ownFm v xs :: LB) H w)
    (hfn : ∀ args w, (callFunc fid args).run Tryz.prog w = .ok (.enter fid args) w) (hf : HPF w H p fid cap) :
    Calls Tryz.prog 114 #[v, .func (.func fid) #[] cap] w (RetV w (.int .i64 (idxOf p xs))) := by
  obtain ⟨a, c, rfl, hlen⟩ := hM.form 0 rfl
  have HF := Lib.hid hf; clear hf
  go_enter Tryz.func114, Tryz.ntmps114
  go_wp2
  go_loopw [8] (fun i wr => ∃ k : Nat, k ≤ xs.length ∧ i = .int .i64 k ∧ Hid (∀ x ∈ xs.take k, p x = false) ∧ Ext w wr) (fun i _ => xs.length - (intOf i).toNat)
  case atStart => exact ⟨0, Nat.zero_le _, rfl, Lib.hid (by simp), xE⟩
  case round =>
    obtain ⟨k, hk, rfl, HNO, hb⟩ := hrel
    by_cases hlt : k < xs.length
    · have hMr := hM.ext hb
      obtain ⟨g, a3, c3, a4, c4, rfl, hg, gc, hE⟩ := fmsM_row hMr (List.getElem?_eq_getElem hlt)
      have hcall := HF.out wr _ _ hMr.ple hE
      have hfound := fun h => idxOf_found p xs k hlt h HNO.out
      have hnext := fun h => take_all (p := fun x => p x = false) hlt h HNO.out
      generalize xs[k] = x at *
      unfold fmC at hcall
      have g0 : wr.cell? ⟨g, k * 4, none⟩ = some (.int .i64 x.op) := gc 0 _ rfl
      have g1 : wr.cell? ⟨g, k * 4 + 1, none⟩ = some (.int .i64 x.n) := gc 1 _ rfl
      have g2 : wr.cell? ⟨g, k * 4 + 2, none⟩ = some (.slice a3 x.inn.length c3) := gc 2 _ rfl
      have g3 : wr.cell? ⟨g, k * 4 + 3, none⟩ = some (.slice a4 x.kids.length c4) := gc 3 _ rfl
      replace hfound := Lib.hid hfound
      replace hnext := Lib.hid hnext
      replace hcall := Lib.hid hcall
      clear hMr HF gc hE
      go_wp2_with fail
      refine hcall.out.mono ?_
      rintro e w1 ⟨rfl, hb1⟩
      cases hpk : p x with
      | true =>
        have hfo := hfound.out hpk
        replace hfo := Lib.hid hfo
        clear hpk hcall
        go_wp2_with fail
        go_ret
        exact ⟨ret_int hfo.out.symm, xE⟩
      | false =>
        have hno := Lib.hid (hnext.out hpk)
        clear hpk hcall
        go_wp2_with fail
        go_roundw
        case rel => exact ⟨k + 1, by omega, by go_num, hno, xE⟩
        case measure => simp [intOf]; omega
    · have hnone : Hid (idxOf p xs = -1) := Lib.hid (idxOf_none p xs (take_done (by omega) HNO.out))
      clear hM HF HNO
      go_wp2_with fail
      go_ret
      exact ⟨ret_int hnone.out.symm, xE⟩
def OwnFP (w0 : World) (H0 : PH) (LB : List Chunk) (H : PH) (ys : List Fm) (e : Ending) (w' : World) : Prop := ∃ v', e = .returned v' ∧ Mem w0 H0 (ownFm v' ys :: LB) H w'
theorem zeroFm1 (w : World) : (zeroValue 50).run Tryz.prog w = .ok zeroFv w := by
  obtain ⟨i, hi, hz0, hz1, hz2⟩ := info_parts infoFm
  simp [zeroValue, typeInfo, hi, hz0]
set_option maxRecDepth 100000 in
set_option maxHeartbeats 4000000 in
theorem delFm_c (p : Fm → Bool) (fid : Nat) (cap : Array Value) (v : Value) (xs : List Fm) (w0 w : World) (H0 H : PH) (LB : List Chunk) (hM : Mem w0 H0 (ownFm v xs :: LB) H w) (hlen : xs.length ≤ 1000000)
    (hfn : ∀ args w, (callFunc fid args).run Tryz.prog w = .ok (.enter fid args) w) (hf : HPF w H p fid cap) :
    Calls Tryz.prog 160 #[v, .func (.func fid) #[] cap] w (OwnFP w0 H0 LB H (xs.filter fun x => !p x)) := by
  have hidx := idxFm_c p fid cap v xs w0 w H0 H LB hM hfn hf
  obtain ⟨a, c, rfl, -⟩ := hM.form 0 rfl
  have HF := Lib.hid hf; clear hf
  rcases idxOf_cases p xs with ⟨e1, e2⟩ | ⟨i, e1, hi, hpi, hno⟩
  · rw [e1] at hidx
    replace e2 := Lib.hid e2
    clear e1
    go_enter Tryz.func160, Tryz.ntmps160
    go_wp2_with fail
    refine RetV_at hidx ?_
    intro w2 hx2
    go_wp2_with fail
    go_ret
    exact ⟨_, rfl, by rw [e2.out]; exact hM.ext hx2⟩
  · rw [e1] at hidx
    have hst := Lib.hid (DelAt.start hi hpi hno)
    obtain ⟨N, hN⟩ : ∃ N, xs.length = N := ⟨_, rfl⟩
    have hNi : i < N := by omega
    have hN6 : N ≤ 1000000 := by omega
    simp only [hN] at hidx
    simp only [hN]
    rw [hN] at hM
    replace hN := Lib.hid hN
    clear e1 hi hpi hno hlen
    have hne : ((i : Int) == -1) = false := by simp
    go_enter Tryz.func160, Tryz.ntmps160
    go_wp2_with fail
    refine RetV_at hidx ?_
    intro w2 hx2
    have hM2 := hM.ext hx2
    clear hM hidx
    go_wp2_with fail
    go_loopw [5, 6] (fun vi vj wr => ∃ (i j : Nat) (ys : List Fm), i < j ∧ j ≤ N ∧ vi = .int .i64 i ∧ vj = .int .i64 j ∧ Hid (DelAt p xs ys i j) ∧ Mem w0 H0 (ownFm (.slice a N c) ys :: LB) H wr) (fun _ vj _ => N - (intOf vj).toNat)
    case atStart => exact ⟨i, i + 1, xs, by omega, by omega, rfl, by go_num, hst, hM2⟩
    case round =>
      clear hM2 hst
      obtain ⟨i, j, ys, hij, hjN, rfl, rfl, hD, hM⟩ := hrel
      have hyl : Hid (ys.length = N) := by show _ = _; rw [hD.out.1]; exact hN.out
      by_cases hlt : j < N
      · have hlt' : j < xs.length := by rw [hN.out]; exact hlt
        have hyj := hD.out.at hlt'
        obtain ⟨g, a3, c3, a4, c4, rfl, hg, gc, hE⟩ := fmsM_row hM hyj
        have hsk := Lib.hid (hD.out.skip hlt')
        have hkp := Lib.hid (hD.out.keep hlt')
        generalize xs[j] = x at *
        replace hyj := Lib.hid hyj
        have hja : decide (j < N) = true := by simpa using hlt
        have g0 : wr.cell? ⟨g, j * 4, none⟩ = some (.int .i64 x.op) := gc 0 _ rfl
        have g1 : wr.cell? ⟨g, j * 4 + 1, none⟩ = some (.int .i64 x.n) := gc 1 _ rfl
        have g2 : wr.cell? ⟨g, j * 4 + 2, none⟩ = some (.slice a3 x.inn.length c3) := gc 2 _ rfl
        have g3 : wr.cell? ⟨g, j * 4 + 3, none⟩ = some (.slice a4 x.kids.length c4) := gc 3 _ rfl
        have hM3 := hM.ext (Ext.new wr (.cells (fmC x a3 c3 a4 c4).toArray 50))
        have hO3 := Proofs.YtnpnjcaomakehaaGreat.Own.new wr (fmC x a3 c3 a4 c4).toArray 50
        have hcall := HF.out _ _ _ hM3.ple hE
        clear hlt' gc
        unfold fmC at hM3 hO3 hcall
        replace hcall := Lib.hid hcall
        go_upto_region 8 with (fail)
        generalize wr.heap.size = b7 at *
        generalize wr.alloc _ = W3 at *
        have y0 : W3.cell? ⟨b7, 0, none⟩ = some (.int .i64 x.op) := hO3.facts.1 0
        have y1 : W3.cell? ⟨b7, 1, none⟩ = some (.int .i64 x.n) := hO3.facts.1 1
        have y2 : W3.cell? ⟨b7, 2, none⟩ = some (.slice a3 x.inn.length c3) := hO3.facts.1 2
        have y3 : W3.cell? ⟨b7, 3, none⟩ = some (.slice a4 x.kids.length c4) := hO3.facts.1 3
        have yl := hO3.lt
        clear g0 g1 g2 g3 hg
        go_wp2_with fail
        refine RetV_at hcall.out ?_
        intro w4 hx4
        have hM4 := hM3.ext hx4
        have hO4 := hO3.keep hx4
        clear hcall hM3 hO3 HF y0 y1 y2 y3 yl
        cases hpx : p x with
        | true =>
          have hD2 := Lib.hid (hsk.out hpx)
          clear hpx hsk hkp
          go_wp2_with fail
          go_roundw
          case rel => exact ⟨i, j + 1, ys, by omega, by omega, rfl, by go_num, hD2, hM4⟩
          case measure => simp [intOf]; omega
        | false =>
          have hD2 := Lib.hid (hkp.out hpx)
          have hiN : i < N := by omega
          have hia : decide (i < N) = true := by simpa using hiN
          have hiy : i < ys.length := by rw [hyl.out]; omega
          replace hiy := Lib.hid hiy
          replace hyl := Lib.hid (show (ys.set i x).length = N by rw [List.length_set]; exact hyl.out)
          have y0 : w4.cell? ⟨b7, 0, none⟩ = some (.int .i64 x.op) := hO4.facts.1 0
          have y1 : w4.cell? ⟨b7, 1, none⟩ = some (.int .i64 x.n) := hO4.facts.1 1
          have y2 : w4.cell? ⟨b7, 2, none⟩ = some (.slice a3 x.inn.length c3) := hO4.facts.1 2
          have y3 : w4.cell? ⟨b7, 3, none⟩ = some (.slice a4 x.kids.length c4) := hO4.facts.1 3
          have yl := hO4.lt
          clear hpx hsk hkp
          go_upto_region 9 with (fail)
          go_upto_region 10 with (refine wpList_store_M (xs := ys) (n := N) (cap := c) (g := g) rfl 50 (.tmp 33) _ rfl i rfl (cs := fmC x a3 c3 a4 c4) rfl (x' := x) hM4 0 rfl hiy.out hE rfl (one_fmC x a3 c3 a4 c4) (by kernel_rfl) ?c5)
          case c5 =>
            intro w5 hM5
            try simp only [List.set_cons_zero] at hM5
            go_wp2_with fail
            go_roundw
            case rel => exact ⟨i + 1, j + 1, ys.set i x, by omega, by omega, by go_num, by go_num, hD2, hM5⟩
            case measure => simp [intOf]; omega
      · obtain rfl : j = N := by omega
        have hja : decide (j < j) = false := by simp
        have hiy : ys[i]? = some (ys[i]'(by rw [hyl.out]; omega)) := List.getElem?_eq_getElem _
        obtain ⟨g, a3, c3, a4, c4, rfl, hg, -, -⟩ := fmsM_row hM hiy
        have hdn : Hid (ys.take i = xs.filter fun x => !p x) := by
          have h := hD.out
          rw [← hN.out] at h
          exact Lib.hid h.done
        have hil : Hid (i ≤ ys.length) := Lib.hid (by rw [hyl.out]; omega)
        have hcap : j ≤ c := by
          obtain ⟨cur, -, -, h3, -⟩ := hM.cur 0 rfl
          rw [hyl.out] at h3; exact h3
        clear hiy HF hD
        go_upto_region 11 with (fail)
        go_upto_region 12 with (first | (refine wpList_clear_M (xs := ys) (n := j) (cap := c) (g := g) rfl (.tmp 38) 45 rfl i rfl Tryz.underlying45 zeroFm1 rfl (by kernel_rfl) hM 0 rfl hil.out ?d5))
        case d5 =>
          intro w5 hM5
          try simp only [List.set_cons_zero] at hM5
          rw [hdn.out] at hM5
          go_wp2_with fail
          go_ret
          exact ⟨_, rfl, hM5⟩
theorem join1_c (x : Fm) (cs : List Value) (w : World) (hr : FmR (ph w) cs x) : Calls Tryz.prog 159 #[.agg cs.toArray] w (RetV w (.bool (decide (x.op = 0)))) := by
  obtain ⟨a3, c3, a4, c4, rfl, -⟩ := hr.form
  unfold fmC
  have hd : decide (x.op = 0) = (x.op == 0) := by rw [Bool.eq_iff_iff]; simp
  rw [hd]
  go_enter Tryz.func159, Tryz.ntmps159
  go_wp2_with fail
  go_ret
  exact ⟨rfl, xE⟩
def fddP : Option Fm → List Fm → List Fm
  | _, [] => []
  | d, x :: r => if d = some x then fddP (some x) r else x :: fddP (some x) r
def flastD (d : Option Fm) (l : List Fm) : Option Fm := match l.getLast? with | some x => some x | none => d
theorem flastD_cons (d : Option Fm) (x : Fm) (l : List Fm) : flastD d (x :: l) = flastD (some x) l := by
  unfold flastD
  cases l with
  | nil => rfl
  | cons y r => rw [List.getLast?_cons_cons]; cases h : (y :: r).getLast? with
    | none => simp at h
    | some z => rfl
theorem fddP_snoc (x : Fm) : ∀ (l : List Fm) (d : Option Fm), fddP d (l ++ [x]) = fddP d l ++ if flastD d l = some x then [] else [x]
  | [], d => by
    show fddP d [x] = fddP d [] ++ _
    have e : flastD d [] = d := rfl
    rw [e]
    by_cases h : d = some x
    · rw [if_pos h]; show (if d = some x then fddP (some x) [] else x :: fddP (some x) []) = _; rw [if_pos h]; rfl
    · rw [if_neg h]; show (if d = some x then fddP (some x) [] else x :: fddP (some x) []) = _; rw [if_neg h]; rfl
  | y :: r, d => by
    rw [List.cons_append, fddP, fddP, flastD_cons, fddP_snoc x r]
    split
    · rfl
    · rfl
abbrev fdd (l : List Fm) : List Fm := fddP none l
theorem fdd_take {xs : List Fm} {j : Nat} (hj : j < xs.length) (h0 : 0 < j) : fdd (xs.take (j + 1)) = fdd (xs.take j) ++ if (xs[j - 1]'(by omega)) = xs[j] then [] else [xs[j]] := by
  show fddP none _ = fddP none _ ++ _
  rw [List.take_add_one, List.getElem?_eq_getElem hj, Option.toList_some, fddP_snoc]
  congr 1
  have : flastD none (xs.take j) = some (xs[j - 1]'(by omega)) := by
    unfold flastD
    rw [List.getLast?_eq_getElem?, List.length_take, Nat.min_eq_left (by omega), List.getElem?_take_of_lt (by omega), List.getElem?_eq_getElem (by omega)]
  rw [this]
  simp only [Option.some.injEq]
def FCmpAt (xs ys : List Fm) (i j : Nat) : Prop := ys.length = xs.length ∧ i < j ∧ j ≤ xs.length ∧ ys.take i = fdd (xs.take j) ∧ ys.drop (j - 1) = xs.drop (j - 1)
theorem FCmpAt.at {xs ys : List Fm} {i j : Nat} (h : FCmpAt xs ys i j) (hj : j < xs.length) : ys[j]? = some (xs[j]) ∧ ys[j - 1]? = some (xs[j - 1]'(by omega)) := by
  obtain ⟨h1, h2, -, -, h6⟩ := h
  have e0 := congrArg (fun l => l[0]?) h6
  have e1 := congrArg (fun l => l[1]?) h6
  simp only [List.getElem?_drop] at e0 e1
  rw [show j - 1 + 1 = j by omega] at e1
  rw [Nat.add_zero] at e0
  exact ⟨e1.trans (List.getElem?_eq_getElem hj), e0.trans (List.getElem?_eq_getElem (by omega))⟩
theorem FCmpAt.skip {xs ys : List Fm} {i j : Nat} (h : FCmpAt xs ys i j) (hj : j < xs.length) (hp : (xs[j - 1]'(by omega)) = xs[j]) : FCmpAt xs ys i (j + 1) := by
  obtain ⟨h1, h2, h3, h4, h6⟩ := h
  refine ⟨h1, by omega, by omega, ?_, ?_⟩
  · rw [fdd_take hj (by omega), if_pos hp, List.append_nil]; exact h4
  · have := congrArg (List.drop 1) h6
    rw [List.drop_drop, List.drop_drop] at this
    rw [show j + 1 - 1 = j - 1 + 1 by omega]; exact this
theorem FCmpAt.keep {xs ys : List Fm} {i j : Nat} (h : FCmpAt xs ys i j) (hj : j < xs.length) (hp : (xs[j - 1]'(by omega)) ≠ xs[j]) : FCmpAt xs (ys.set i xs[j]) (i + 1) (j + 1) := by
  obtain ⟨h1, h2, h3, h4, h6⟩ := h
  refine ⟨by simpa using h1, by omega, by omega, ?_, ?_⟩
  · rw [fdd_take hj (by omega), if_neg hp, ← h4, List.take_add_one, List.take_set_of_le (Nat.le_refl _), List.getElem?_set_self (by omega)]; rfl
  · have := congrArg (List.drop 1) h6
    rw [List.drop_drop, List.drop_drop, show j - 1 + 1 = j by omega] at this
    rw [show j + 1 - 1 = j by omega, List.drop_set_of_lt (by omega)]; exact this
theorem FCmpAt.start {xs : List Fm} {i : Nat} (h0 : 0 < i) (hi : i < xs.length) (hd : fdd (xs.take i) = xs.take i) (hp : (xs[i - 1]'(by omega)) = xs[i]) : FCmpAt xs xs i (i + 1) :=
  ⟨rfl, by omega, by omega, by rw [fdd_take hi h0, if_pos hp, List.append_nil, hd], rfl⟩
theorem fdd_go {xs : List Fm} {i : Nat} (h0 : 0 < i) (hi : i < xs.length) (hd : fdd (xs.take i) = xs.take i) (hp : (xs[i - 1]'(by omega)) ≠ xs[i]) : fdd (xs.take (i + 1)) = xs.take (i + 1) := by
  rw [fdd_take hi h0, if_neg hp, hd, List.take_add_one, List.getElem?_eq_getElem hi]; rfl
theorem FCmpAt.done {xs ys : List Fm} {i : Nat} (h : FCmpAt xs ys i xs.length) : ys.take i = fdd xs := by
  rw [h.2.2.2.1, List.take_length]
theorem join2_c (x y : Fm) (cs ds : List Value) (w : World) (hr : FmR (ph w) cs x) (hq : FmR (ph w) ds y) : Calls Tryz.prog 164 #[.agg cs.toArray, .agg ds.toArray] w (RetV w (.bool (x == y))) := by
  have hc := fun W (e : Ext w W) => fcmpJ_c x y cs ds W (mono_FmR _ _ _ _ e.ple hr) (mono_FmR _ _ _ _ e.ple hq)
  have hv : Hid ((x == y) = (fcmpJ x y == 0)) := by
    show _ = _
    rw [Bool.eq_iff_iff, beq_iff_eq, beq_iff_eq, fcmpJ_0]
  obtain ⟨a3, c3, a4, c4, rfl, -⟩ := hr.form
  obtain ⟨b3, d3, b4, d4, rfl, -⟩ := hq.form
  unfold fmC at hc ⊢
  generalize (x == y) = q at *
  generalize fcmpJ x y = z at *
  replace hc := Lib.hid hc
  clear hr hq
  go_enter Tryz.func164, Tryz.ntmps164
  go_wp2_with fail
  refine RetV_at (hc.out _ xE) ?_
  intro w2 hx2
  go_wp2_with fail
  go_ret
  exact ⟨ret_bool hv.out.symm, xE⟩
set_option maxRecDepth 100000 in
set_option maxHeartbeats 4000000 in
theorem compactFm_c (v : Value) (xs : List Fm) (w0 w : World) (H0 H : PH) (LB : List Chunk) (hM : Mem w0 H0 (ownFm v xs :: LB) H w) (hlen : xs.length ≤ 1000000) :
    Calls Tryz.prog 163 #[v, .func (.func 164) #[] #[]] w (OwnFP w0 H0 LB H (fdd xs)) := by
  obtain ⟨a, c, rfl, -⟩ := hM.form 0 rfl
  by_cases h2 : xs.length < 2
  · have hd : Hid (fdd xs = xs) := by
      show _ = _
      match xs, h2 with
      | [], _ => rfl
      | [x], _ => rfl
    have h2' : (xs.length : Int) < 2 := by omega
    go_enter Tryz.func163, Tryz.ntmps163
    go_wp2_with fail
    go_ret
    exact ⟨_, rfl, by rw [hd.out]; exact hM⟩
  · obtain ⟨N, hN⟩ : ∃ N, xs.length = N := ⟨_, rfl⟩
    have hN2 : 2 ≤ N := by omega
    have hN6 : N ≤ 1000000 := by omega
    have hst : Hid (fdd (xs.take 1) = xs.take 1) := by
      show _ = _
      match xs with
      | [] => rfl
      | x :: r => rfl
    have hall : Hid (xs.take N = xs) := by show _ = _; rw [← hN, List.take_length]
    rw [hN] at hM
    simp only [hN]
    replace hN := Lib.hid hN
    clear h2 hlen
    go_enter Tryz.func163, Tryz.ntmps163
    go_wp2_with fail
    go_loopw [5] (fun vi wr => ∃ m : Nat, m + 1 ≤ N ∧ vi = .int .i64 ((m : Int) + 1) ∧ Hid (fdd (xs.take (m + 1)) = xs.take (m + 1)) ∧ Ext w wr) (fun vi _ => N - (intOf vi).toNat)
    case atStart => exact ⟨0, by omega, rfl, hst, Ext.rfl' _⟩
    case round =>
      clear hst
      obtain ⟨m, hm, rfl, hd, hxr⟩ := hrel
      have hMr := hM.ext hxr
      by_cases hlt : m + 1 < N
      · have hlx : m + 1 < xs.length := by rw [hN.out]; exact hlt
        obtain ⟨g, p3, q3, p4, q4, rfl, hg, gc1, hI1⟩ := fmsM_row hMr (List.getElem?_eq_getElem hlx)
        obtain ⟨g', r3, s3, r4, s4, e, -, gc0, hI0⟩ := fmsM_row hMr (List.getElem?_eq_getElem (show m < xs.length by omega))
        cases e
        have hja : decide (m + 1 < N) = true := by simpa using hlt
        have hgo := fun (h : (xs[m]'(by omega)) ≠ xs[m + 1]) => fdd_go (xs := xs) (i := m + 1) (Nat.succ_pos m) hlx hd.out h
        have hcs := fun (h : (xs[m]'(by omega)) = xs[m + 1]) => FCmpAt.start (xs := xs) (i := m + 1) (Nat.succ_pos m) hlx hd.out h
        have hr3 := fun W (hW : PLe H (ph W)) => join2_c xs[m + 1] xs[m] _ _ W (mono_FmR _ _ _ _ hW hI1) (mono_FmR _ _ _ _ hW hI0)
        generalize xs[m + 1] = x1 at *
        generalize xs[m] = x0 at *
        obtain ⟨qz, hqz⟩ : ∃ q, (x1 == x0) = q := ⟨_, rfl⟩
        simp only [hqz] at hr3
        replace hqz := Lib.hid hqz
        replace gc1 := Lib.hid gc1
        replace gc0 := Lib.hid gc0
        replace hgo := Lib.hid hgo
        replace hcs := Lib.hid hcs
        replace hr3 := Lib.hid hr3
        have hlti : ((m + 1 : Nat) : Int) < N := by omega
        have hmN : m < N := by omega
        clear hlx hI0 hI1




        have hwm : IntKind.i64.wrap ((m : Int) + 1 - 1) = (m : Int) := by rw [IntKind.wrap_i64]; omega
        have hwm3 : IntKind.i64.wrap (m : Int) = (m : Int) := by rw [IntKind.wrap_i64]; omega
        have hwm2 : IntKind.i64.wrap (((m + 1 : Nat) : Int) - 1) = (m : Int) := by rw [IntKind.wrap_i64]; omega
        go_upto_region 6 with (fail)
        (refine wp_region_I 11 (by kernel_rfl) (by kernel_rfl) ?_; simp only [List.toList_toArray, List.take_succ_cons, List.take_zero, List.drop_succ_cons, List.drop_zero])
        iterate 4 (refine wiA rfl (by simp) rfl ?_; (try simp only [List.nil_append, List.cons_append]))
        (refine walkI_is (u := ?_) rfl (by simp) rfl ?_ ?_; rotate_left; (focus (intro A w' hS hA K hK; (simp only [List.map_cons, List.map_nil, knows, Is, Op.operands, Call.operands, List.lookup_cons, List.lookup_nil, Nat.reduceBEq, Bool.false_eq_true, if_false, if_true, Act.eval, Array.getD_eq_getD_getElem?, List.getElem?_toArray, List.getElem?_cons_succ, List.getElem?_cons_zero, Option.getD_some, and_true, true_and, List.append_toArray, List.nil_append, List.cons_append, List.toList_toArray, Array.toList_append, Option.toArray, List.append_nil] at hA); first | (refine oper_load_mid 50 (.tmp 21) rfl g ((m + 1) * 4) (by simpa [Act.eval] using hA) (fmC x1 p3 q3 p4 q4) _ (fun j u h => hS.cell1 (gc1.out j u h)) Tryz.underlying50 rfl (by kernel_rfl) ?_; exact hK _ (Ext.rfl' _)) | (obtain ⟨hSc, hSf, hSs⟩ := hS.cells; go_simp; exact hK _ xN))); (try simp only [List.nil_append, List.cons_append]))
        iterate 4 (refine wiA rfl (by simp) rfl ?_; (try simp only [List.nil_append, List.cons_append]))
        (refine walkI_is (u := ?_) rfl (by simp) rfl ?_ ?_; rotate_left; (focus (intro A w' hS hA K hK; (simp only [List.map_cons, List.map_nil, knows, Is, Op.operands, Call.operands, List.lookup_cons, List.lookup_nil, Nat.reduceBEq, Bool.false_eq_true, if_false, if_true, Act.eval, Array.getD_eq_getD_getElem?, List.getElem?_toArray, List.getElem?_cons_succ, List.getElem?_cons_zero, Option.getD_some, and_true, true_and, List.append_toArray, List.nil_append, List.cons_append, List.toList_toArray, Array.toList_append, Option.toArray, List.append_nil] at hA); first | (refine oper_load_mid 50 (.tmp 26) rfl g (m * 4) (by simpa [Act.eval] using hA) (fmC x0 r3 s3 r4 s4) _ (fun j u h => hS.cell1 (gc0.out j u h)) Tryz.underlying50 rfl (by kernel_rfl) ?_; exact hK _ (Ext.rfl' _)) | (obtain ⟨hSc, hSf, hSs⟩ := hS.cells; go_simp; exact hK _ xN))); (try simp only [List.nil_append, List.cons_append]))
        (refine walkI_is (u := ?_) rfl (by simp) rfl ?_ ?_; rotate_left; (focus (intro A w' hS hA K hK; (simp only [List.map_cons, List.map_nil, knows, Is, Op.operands, Call.operands, List.lookup_cons, List.lookup_nil, Nat.reduceBEq, Bool.false_eq_true, if_false, if_true, Act.eval, Array.getD_eq_getD_getElem?, List.getElem?_toArray, List.getElem?_cons_succ, List.getElem?_cons_zero, Option.getD_some, and_true, true_and, List.append_toArray, List.nil_append, List.cons_append, List.toList_toArray, Array.toList_append, Option.toArray, List.append_nil] at hA); first | (go_simp; refine RetV_at (hr3.out w' (hMr.ple.trans hS.ple)) ?_; intro w6 hx6; exact hK _ hx6) | (obtain ⟨hSc, hSf, hSs⟩ := hS.cells; go_simp; exact hK _ xN))); (try simp only [List.nil_append, List.cons_append]))
        (refine walkI_nil ?_; simp only [List.nil_append, List.cons_append, fins, Is, forall_eq, Act.put, List.setIfInBounds_toArray, List.set_cons_zero, List.set_cons_succ])
        intro w3 hx3
        cases qz with
        | true =>
          have hday : x0 = x1 := by have := hqz.out; rw [beq_iff_eq] at this; exact this.symm
          have hC := Lib.hid (hcs.out hday)
          have hM3 := hMr.ext hx3
          have hxl : Hid (m + 1 + 1 ≤ xs.length) := Lib.hid (by rw [hN.out]; omega)
          have hcap0 : N ≤ c := by
            obtain ⟨cur, -, -, h3, -⟩ := hM3.cur 0 rfl
            rw [hN.out] at h3; exact h3
          clear hday hcs hgo hd hall hMr gc0 gc1 hr3
          go_wp2_with fail
          have hlt' := Lib.hid hlt
          replace hlti := Lib.hid hlti
          replace hja := Lib.hid hja
          clear hlt
          generalize decide ((N : Int) < 2) = z10
          generalize decide ((m : Int) + 1 < (N : Int)) = z15
          generalize hv12 : Value.int IntKind.i64 ((m : Int) + 1) = v12
          replace hv12 := Lib.hid hv12
          go_loopw [5, 7] (fun vi vk wr2 => ∃ (i k : Nat) (ys : List Fm), vi = .int .i64 (i : Int) ∧ vk = .int .i64 ((k : Int) + 1) ∧ m + 1 + (k + 1) ≤ N ∧ i < m + 1 + (k + 1) ∧ Hid (FCmpAt xs ys i (m + 1 + (k + 1))) ∧ Mem w0 H0 (ownFm (.slice (some ⟨g, 0, none⟩) N c) ys :: LB) H wr2) (fun _ vk _ => N - (intOf vk).toNat)
          case atStart => exact ⟨m + 1, 0, xs, by rw [← hv12.out]; go_num, by go_num, by omega, by omega, hC, hM3⟩
          case round =>
            clear hM3 hC
            obtain ⟨i, k, ys, rfl, rfl, hkN, hik, hD, hM⟩ := hrel
            have hyl : Hid (ys.length = N) := by show _ = _; rw [hD.out.1]; exact hN.out
            by_cases hlt2 : k + 1 < N - (m + 1)
            · have hjx : m + 1 + (k + 1) < xs.length := by rw [hN.out]; omega
              obtain ⟨hy1, hy0⟩ := hD.out.at hjx
              obtain ⟨g1, p3, q3, p4, q4, e, hg1, gc1, hI2⟩ := fmsM_row hM hy1
              cases e
              obtain ⟨g1, r3, s3, r4, s4, e, -, gc0, hI0⟩ := fmsM_row hM hy0
              cases e
              have hsk := fun (h : (xs[m + 1 + (k + 1) - 1]'(by omega)) = xs[m + 1 + (k + 1)]) => hD.out.skip hjx h
              have hkp := fun (h : (xs[m + 1 + (k + 1) - 1]'(by omega)) ≠ xs[m + 1 + (k + 1)]) => hD.out.keep hjx h
              have hr3 := fun W (hW : PLe H (ph W)) => join2_c xs[m + 1 + (k + 1)] (xs[m + 1 + (k + 1) - 1]'(by omega)) _ _ W (mono_FmR _ _ _ _ hW hI2) (mono_FmR _ _ _ _ hW hI0)
              generalize xs[m + 1 + (k + 1)] = z1 at *
              generalize (xs[m + 1 + (k + 1) - 1]'(by omega)) = z0 at *
              obtain ⟨q, hq⟩ : ∃ q, (z1 == z0) = q := ⟨_, rfl⟩
              simp only [hq] at hr3
              replace hq := Lib.hid hq
              have gd1 : Hid (∀ j u, (fmC z1 p3 q3 p4 q4)[j]? = some u → wr.cell? ⟨g, (m + 1) * 4 + (k + 1) * 4 + j, none⟩ = some u) := Lib.hid fun j u h => by
                have := gc1 j u h
                rwa [show (m + 1 + (k + 1)) * 4 + j = (m + 1) * 4 + (k + 1) * 4 + j by omega] at this
              have gd0 : Hid (∀ j u, (fmC z0 r3 s3 r4 s4)[j]? = some u → wr.cell? ⟨g, (m + 1) * 4 + k * 4 + j, none⟩ = some u) := Lib.hid fun j u h => by
                have := gc0 j u h
                rwa [show (m + 1 + (k + 1) - 1) * 4 + j = (m + 1) * 4 + k * 4 + j by omega] at this
              replace hr3 := Lib.hid hr3
              replace hsk := Lib.hid hsk
              replace hkp := Lib.hid hkp
              replace hy1 := Lib.hid hy1
              have hja2 : decide (k + 1 < N - (m + 1)) = true := by simpa using hlt2
              have hwk : IntKind.i64.wrap (k : Int) = (k : Int) := by rw [IntKind.wrap_i64]; omega
              have hiN : i < N := by omega
              have hkN2 : k < N - (m + 1) := by omega
              clear gc1 gc0 hy0 hjx hI0
              go_upto_region 11 with (fail)
              (refine wp_region_I 12 (by kernel_rfl) (by kernel_rfl) ?_; simp only [List.toList_toArray, List.take_succ_cons, List.take_zero, List.drop_succ_cons, List.drop_zero])
              iterate 4 (refine wiA rfl (by simp) rfl ?_; (try simp only [List.nil_append, List.cons_append]))
              (refine walkI_is (u := ?_) rfl (by simp) rfl ?_ ?_; rotate_left; (focus (intro A w' hS hA K hK; (simp only [List.map_cons, List.map_nil, knows, Is, Op.operands, Call.operands, List.lookup_cons, List.lookup_nil, Nat.reduceBEq, Bool.false_eq_true, if_false, if_true, Act.eval, Array.getD_eq_getD_getElem?, List.getElem?_toArray, List.getElem?_cons_succ, List.getElem?_cons_zero, Option.getD_some, and_true, true_and, List.append_toArray, List.nil_append, List.cons_append, List.toList_toArray, Array.toList_append, Option.toArray, List.append_nil] at hA); first | (refine oper_load_mid 50 (.tmp 41) rfl g ((m + 1) * 4 + (k + 1) * 4) (by simpa [Act.eval] using hA) (fmC z1 p3 q3 p4 q4) _ (fun j u h => hS.cell1 (gd1.out j u h)) Tryz.underlying50 rfl (by kernel_rfl) ?_; exact hK _ (Ext.rfl' _)) | (obtain ⟨hSc, hSf, hSs⟩ := hS.cells; go_simp; exact hK _ xN))); (try simp only [List.nil_append, List.cons_append]))
              iterate 4 (refine wiA rfl (by simp) rfl ?_; (try simp only [List.nil_append, List.cons_append]))
              (refine walkI_is (u := ?_) rfl (by simp) rfl ?_ ?_; rotate_left; (focus (intro A w' hS hA K hK; (simp only [List.map_cons, List.map_nil, knows, Is, Op.operands, Call.operands, List.lookup_cons, List.lookup_nil, Nat.reduceBEq, Bool.false_eq_true, if_false, if_true, Act.eval, Array.getD_eq_getD_getElem?, List.getElem?_toArray, List.getElem?_cons_succ, List.getElem?_cons_zero, Option.getD_some, and_true, true_and, List.append_toArray, List.nil_append, List.cons_append, List.toList_toArray, Array.toList_append, Option.toArray, List.append_nil] at hA); first | (refine oper_load_mid 50 (.tmp 46) rfl g ((m + 1) * 4 + k * 4) (by simpa [Act.eval] using hA) (fmC z0 r3 s3 r4 s4) _ (fun j u h => hS.cell1 (gd0.out j u h)) Tryz.underlying50 rfl (by kernel_rfl) ?_; exact hK _ (Ext.rfl' _)) | (obtain ⟨hSc, hSf, hSs⟩ := hS.cells; go_simp; exact hK _ xN))); (try simp only [List.nil_append, List.cons_append]))
              (refine walkI_is (u := ?_) rfl (by simp) rfl ?_ ?_; rotate_left; (focus (intro A w' hS hA K hK; (simp only [List.map_cons, List.map_nil, knows, Is, Op.operands, Call.operands, List.lookup_cons, List.lookup_nil, Nat.reduceBEq, Bool.false_eq_true, if_false, if_true, Act.eval, Array.getD_eq_getD_getElem?, List.getElem?_toArray, List.getElem?_cons_succ, List.getElem?_cons_zero, Option.getD_some, and_true, true_and, List.append_toArray, List.nil_append, List.cons_append, List.toList_toArray, Array.toList_append, Option.toArray, List.append_nil] at hA); first | (go_simp; refine RetV_at (hr3.out w' (hM.ple.trans hS.ple)) ?_; intro w6 hx6; exact hK _ hx6) | (obtain ⟨hSc, hSf, hSs⟩ := hS.cells; go_simp; exact hK _ xN))); (try simp only [List.nil_append, List.cons_append]))
              (refine wiA rfl (by simp) rfl ?_; (try simp only [List.nil_append, List.cons_append]))
              (refine walkI_nil ?_; simp only [List.nil_append, List.cons_append, fins, Is, forall_eq, Act.put, List.setIfInBounds_toArray, List.set_cons_zero, List.set_cons_succ])
              intro w7 hx7
              have hM7 := hM.ext hx7
              cases q with
              | true =>
                have hday2 : z0 = z1 := by have := hq.out; rw [beq_iff_eq] at this; exact this.symm
                have hD2 := Lib.hid (hsk.out hday2)
                clear hday2 hsk hkp
                go_wp2_with fail
                go_roundw
                case rel => exact ⟨i, k + 1, ys, by go_num, by go_num, by omega, by omega, hD2, hM7⟩
                case measure => simp [intOf]; omega
              | false =>
                have hday2 : ¬ z0 = z1 := by have := hq.out; rw [beq_eq_false_iff_ne] at this; exact fun e => this e.symm
                have hD2 := Lib.hid (hkp.out hday2)
                have gd7 : Hid (∀ j u, (fmC z1 p3 q3 p4 q4)[j]? = some u → w7.cell? ⟨g, (m + 1) * 4 + (k + 1) * 4 + j, none⟩ = some u) := Lib.hid fun j u h => hx7.cell1 (gd1.out j u h)
                have hiy : Hid (i < ys.length) := Lib.hid (by rw [hyl.out]; omega)
                have hia : decide (i < N) = true := by simpa using hiN
                clear hday2 hsk hkp gd1 gd0
                go_upto_region 12 with (fail)
                go_upto_region 13 with (first | (refine wpList_load_mid rfl 50 (.tmp 54) rfl g ((m + 1) * 4 + (k + 1) * 4) rfl (fmC z1 p3 q3 p4 q4) _ gd7.out Tryz.underlying50 rfl (by kernel_rfl) ?_) | (refine wpList_store_M (xs := ys) (n := N) (cap := c) (g := g) rfl 50 (.tmp 56) _ rfl i rfl (cs := fmC z1 p3 q3 p4 q4) rfl (x' := z1) hM7 0 rfl hiy.out hI2 rfl (one_fmC z1 p3 q3 p4 q4) (by kernel_rfl) ?c5))
                case c5 =>
                  intro w5 hM5
                  try simp only [List.set_cons_zero] at hM5
                  have hkN4 : Hid (m + 1 + (k + 1 + 1) ≤ N) := Lib.hid (by omega)
                  have hik4 : Hid (i + 1 < m + 1 + (k + 1 + 1)) := Lib.hid (by omega)
                  replace hN2 := Lib.hid hN2
                  replace hkN := Lib.hid hkN
                  replace hmN := Lib.hid hmN
                  replace hm := Lib.hid hm
                  go_wp2_with fail
                  go_roundw
                  case rel => exact ⟨i + 1, k + 1, ys.set i z1, by go_num, by go_num, hkN4.out, hik4.out, hD2, hM5⟩
                  case measure => simp [intOf]; omega
            · have hja2 : decide (k + 1 < N - (m + 1)) = false := by simpa using hlt2
              have hkN3 : m + 1 + (k + 1) = N := by omega
              have hdn : Hid (ys.take i = fdd xs) := by
                have h := hD.out
                rw [hkN3, ← hN.out] at h
                exact Lib.hid h.done
              have hil : Hid (i ≤ ys.length) := Lib.hid (by rw [hyl.out]; omega)
              have hiN : i < N := by omega
              have hcap : N ≤ c := by
                obtain ⟨cur, -, -, h3, -⟩ := hM.cur 0 rfl
                rw [hyl.out] at h3; exact h3
              clear hD hkN3
              go_upto_region 14 with (fail)
              go_upto_region 15 with (refine wpList_clear_M (xs := ys) (n := N) (cap := c) (g := g) rfl (.tmp 61) 45 rfl i rfl Tryz.underlying45 zeroFm1 rfl (by kernel_rfl) hM 0 rfl hil.out ?d5)
              case d5 =>
                intro w5 hM5
                try simp only [List.set_cons_zero] at hM5
                rw [hdn.out] at hM5
                go_wp2_with fail
                go_ret
                exact ⟨_, rfl, hM5⟩
        | false =>
          have hday : ¬ x0 = x1 := by have := hqz.out; rw [beq_eq_false_iff_ne] at this; exact fun e => this e.symm
          have hD := Lib.hid (hgo.out hday)
          clear hday hcs hgo
          go_wp2_with fail
          go_roundw
          case rel => exact ⟨m + 1, by omega, by go_num, hD, hxr.then hx3⟩
          case measure => simp [intOf]; omega
      · have hja : decide (m + 1 < N) = false := by simpa using hlt
        have hdd : Hid (fdd xs = xs) := by
          show _ = _
          have h := hd.out
          rw [show m + 1 = N by omega, hall.out] at h
          exact h
        have hlti : ¬ ((m + 1 : Nat) : Int) < N := by omega
        go_wp2_with fail
        go_ret
        exact ⟨_, rfl, by rw [hdd.out]; exact hMr⟩
end Go.Proofs.YtnpnjcaomakehaaGreat
