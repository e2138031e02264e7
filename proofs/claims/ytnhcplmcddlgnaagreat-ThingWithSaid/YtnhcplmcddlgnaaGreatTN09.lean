/- slices.SortFunc laid in plain words.; the world behind a sort of a row of one's own, in the words of chunks.; drawn regions by an invariant that only grows, as CalmI, where the world is just grown and drawn.; a world that kept what lay and drew no less has only grown and drawn.; comparisons of values, in worlds that only grow (as slices.SortFunc wants it; turned out of Order).; slices.SortFunc at values, by compareValues (turned out of FSo).; slices.SortFunc laid in plain words.; slices.Clone, slices.Contains, slices.Sort at []int; Has of priorartref01. -/
import Derived.Shelf.SlGeneric
import Derived.Shelf.SlSortCmp.WholeK
import Derived.Shelf.SlSortCmp.NoneTotal
import Derived.Ground.SlsfProg
import Derived.Test.YtnhcplmcddlgnaaGreatProg
import Derived.Sort.Grow
import Derived.Shelf.Slices.Clone
import Derived.Shelf.Slices.Turned
import Derived.Shelf.Slices.In.SortNone
import Derived.Shelf.Sort.Plain
import Derived.Sort.OwnSortedInts
import Derived.Test.YtnhcplmcddlgnaaGreatTN00
import Derived.Test.YtnhcplmcddlgnaaGreatTN02
import Derived.Test.YtnhcplmcddlgnaaGreatTN03
import Derived.Test.YtnhcplmcddlgnaaGreatTN06
import Derived.Test.YtnhcplmcddlgnaaGreatTN08
namespace Go.Proofs.YtnhcplmcddlgnaaGreat
open Go.Shelf
def sSortVl_ren : Go.Shelf.Ren := ⟨fun | 6 => 39 | 15 => 65 | 14 => 66 | 28 => 86 | 29 => 87 | 20 => 88 | 21 => 89 | 22 => 90 | 23 => 91 | 24 => 92 | 25 => 93 | 26 => 94 | 27 => 95 | 46 => 109 | 47 => 105 | 48 => 106 | 49 => 110 | 50 => 111 | 57 => 115 | n => n, fun | 22 => 25 | 24 => 46 | 25 => 62 | 3 => 3 | 39 => 84 | 0 => 0 | 53 => 109 | 55 => 111 | 4 => 4 | 46 => 101 | 45 => 100 | 50 => 106 | 5 => 5 | 9 => 9 | 66 => 123 | 70 => 127 | 76 => 132 | 77 => 133 | n => n, fun | n => n⟩
theorem sSortVl : Go.Proofs.SlLaysF0.n6 Tryz.prog sSortVl_ren := {
  mixed := by kernel_rfl
  f6 := ⟨Tryz.f39.name, by decide, Tryz.func39.trans (congrArg some (by kernel_rfl))⟩
  f14 := ⟨Tryz.f66.name, by decide, Tryz.func66.trans (congrArg some (by kernel_rfl))⟩
  f15 := Tryz.func65.trans (congrArg some (by kernel_rfl))
  f20 := ⟨Tryz.f88.name, by decide, Tryz.func88.trans (congrArg some (by kernel_rfl))⟩
  f21 := ⟨Tryz.f89.name, by decide, Tryz.func89.trans (congrArg some (by kernel_rfl))⟩
  f22 := ⟨Tryz.f90.name, by decide, Tryz.func90.trans (congrArg some (by kernel_rfl))⟩
  f23 := ⟨Tryz.f91.name, by decide, Tryz.func91.trans (congrArg some (by kernel_rfl))⟩
  f24 := ⟨Tryz.f92.name, by decide, Tryz.func92.trans (congrArg some (by kernel_rfl))⟩
  f25 := ⟨Tryz.f93.name, by decide, Tryz.func93.trans (congrArg some (by kernel_rfl))⟩
  f26 := ⟨Tryz.f94.name, by decide, Tryz.func94.trans (congrArg some (by kernel_rfl))⟩
  f27 := ⟨Tryz.f95.name, by decide, Tryz.func95.trans (congrArg some (by kernel_rfl))⟩
  f28 := Tryz.func86.trans (congrArg some (by kernel_rfl))
  f29 := Tryz.func87.trans (congrArg some (by kernel_rfl))
  f46 := ⟨Tryz.f109.name, by decide, Tryz.func109.trans (congrArg some (by kernel_rfl))⟩
  f47 := Tryz.func105.trans (congrArg some (by kernel_rfl))
  f48 := Tryz.func106.trans (congrArg some (by kernel_rfl))
  f49 := ⟨Tryz.f110.name, by decide, Tryz.func110.trans (congrArg some (by kernel_rfl))⟩
  f50 := ⟨Tryz.f111.name, by decide, Tryz.func111.trans (congrArg some (by kernel_rfl))⟩
  f57 := ⟨Tryz.f115.name, by decide, Tryz.func115.trans (congrArg some (by kernel_rfl))⟩
  t0 := Tryz.underlying0
  a0 := Tryz.isAgg0
  z0 := Tryz.sizeOf0
  v0 := Tryz.zeroValue0
  t3 := Tryz.underlying3
  a3 := Tryz.isAgg3
  z3 := Tryz.sizeOf3
  v3 := Tryz.zeroValue3
  t4 := Tryz.underlying4
  a4 := Tryz.isAgg4
  z4 := Tryz.sizeOf4
  v4 := Tryz.zeroValue4
  t5 := Tryz.underlying5
  a5 := Tryz.isAgg5
  z5 := Tryz.sizeOf5
  v5 := Tryz.zeroValue5
  t9 := Tryz.underlying9
  a9 := Tryz.isAgg9
  z9 := Tryz.sizeOf9
  v9 := Tryz.zeroValue9
  t22 := Tryz.underlying25
  a22 := Tryz.isAgg25
  z22 := Tryz.sizeOf25
  v22 := Tryz.zeroValue25
  t25 := Tryz.underlying62
  a25 := Tryz.isAgg62
  z25 := Tryz.sizeOf62
  v25 := Tryz.zeroValue62
  t39 := Tryz.underlying84
  a39 := Tryz.isAgg84
  z39 := Tryz.sizeOf84
  v39 := Tryz.zeroValue84
  t45 := Tryz.underlying100
  a45 := Tryz.isAgg100
  z45 := Tryz.sizeOf100
  v45 := Tryz.zeroValue100
  t46 := Tryz.underlying101
  a46 := Tryz.isAgg101
  z46 := Tryz.sizeOf101
  v46 := Tryz.zeroValue101
  t50 := Tryz.underlying106
  a50 := Tryz.isAgg106
  z50 := Tryz.sizeOf106
  v50 := Tryz.zeroValue106
  t53 := Tryz.underlying109
  a53 := Tryz.isAgg109
  z53 := Tryz.sizeOf109
  v53 := Tryz.zeroValue109
  t55 := Tryz.underlying111
  a55 := Tryz.isAgg111
  z55 := Tryz.sizeOf111
  v55 := Tryz.zeroValue111
  t66 := Tryz.underlying123
  a66 := Tryz.isAgg123
  z66 := Tryz.sizeOf123
  v66 := Tryz.zeroValue123
  t70 := Tryz.underlying127
  a70 := Tryz.isAgg127
  z70 := Tryz.sizeOf127
  v70 := Tryz.zeroValue127
  t76 := Tryz.underlying132
  a76 := Tryz.isAgg132
  z76 := Tryz.sizeOf132
  v76 := Tryz.zeroValue132
  t77 := Tryz.underlying133
  a77 := Tryz.isAgg133
  z77 := Tryz.sizeOf133
  v77 := Tryz.zeroValue133 }
end Go.Proofs.YtnhcplmcddlgnaaGreat
namespace Go.Proofs.YtnhcplmcddlgnaaGreat
open Go.RowKit Go.Shelf Go.Lib Go.Sort
set_option linter.unusedSimpArgs false
set_option linter.unusedVariables false
set_option linter.unusedSectionVars false
section
variable {α : Type} [Inhabited α]
theorem gflat_get (enc : α → List Value) (k : Nat) (hk : ∀ x, (enc x).length = k) : ∀ (l : List α) (t : Nat), t < l.length * k → (l.flatMap enc)[t]? = some ((enc (l[t / k]?.getD default))[t % k]!)
  | [], t, h => by simp at h
  | x :: l, t, h => by
    have hk0 : 0 < k := Nat.pos_of_ne_zero fun e => by subst e; simp at h
    rw [List.flatMap_cons]
    by_cases ht : t < k
    · rw [List.getElem?_append_left (by rw [hk]; exact ht), Nat.div_eq_of_lt ht, Nat.mod_eq_of_lt ht]
      simp [hk, ht]
    · have hd : t / k = (t - k) / k + 1 := by rw [Nat.div_eq_sub_div hk0 (by omega)]
      have hm : t % k = (t - k) % k := by rw [Nat.mod_eq_sub_mod (by omega)]
      rw [List.getElem?_append_right (by rw [hk]; omega), hk, hd, hm, gflat_get enc k hk l (t - k) (by rw [List.length_cons, Nat.add_mul] at h; omega)]
      simp
theorem gflat_len (enc : α → List Value) (k : Nat) (hk : ∀ x, (enc x).length = k) (l : List α) : (l.flatMap enc).length = l.length * k := by
  induction l with
  | nil => simp
  | cons x l ih => rw [List.flatMap_cons, List.length_append, hk, ih, List.length_cons, Nat.add_mul]; omega
theorem flatK_eq (enc : α → List Value) (k : Nat) (hk : ∀ x, (enc x).length = k) (d : Array α) : flatK enc k d = (d.toList.flatMap enc).toArray := by
  apply Array.ext
  · simp [gflat_len enc k hk]
  · intro t h1 h2
    have h3 := gflat_get enc k hk d.toList t (by simpa using h1)
    have h4 := get_flatK enc k d t (by simpa using h1)
    rw [getElem!_pos _ t h1] at h4
    rw [h4]
    have h5 : (d.toList.flatMap enc).toArray[t]? = some ((enc (d.toList[t / k]?.getD default))[t % k]!) := by simpa using h3
    rw [Array.getElem?_eq_getElem h2] at h5
    rw [Option.some.inj h5]
    congr 2
    rw [getElem!_def]
    simp
    cases d[t / k]? <;> rfl
theorem putCells_eq (F c : Array Value) (h : F.size ≤ c.size) : putCells id 0 F c = (F.toList ++ c.toList.drop F.size).toArray := by
  apply Array.ext_getElem?
  intro t
  unfold putCells
  rw [Array.getElem?_mapIdx]
  have e : ((F.toList ++ c.toList.drop F.size).toArray)[t]? = (F.toList ++ c.toList.drop F.size)[t]? := List.getElem?_toArray
  have hFl : F.toList.length = F.size := by simp
  rw [e]
  by_cases ht : t < c.size
  · by_cases hf : t < F.size
    · rw [List.getElem?_append_left (by rw [hFl]; exact hf)]
      simp [ht, hf]
    · rw [List.getElem?_append_right (by rw [hFl]; omega), List.getElem?_drop, hFl, show F.size + (t - F.size) = t by omega]
      simp [ht, hf]
  · rw [List.getElem?_append_right (by rw [hFl]; omega), List.getElem?_drop, hFl, show F.size + (t - F.size) = t by omega]
    simp [ht]
theorem flat_cells {E : PH → List Value → α → Prop} {H : PH} (enc : α → List Value) (k : Nat) (hk : ∀ x, (enc x).length = k) : ∀ (l : List α), (∀ x ∈ l, E H (enc x) x) → Cells H E k (l.flatMap enc) l
  | [], _ => rfl
  | x :: l, h => ⟨enc x, l.flatMap enc, List.flatMap_cons, hk x, h x (by simp), flat_cells enc k hk l fun y hy => h y (by simp [hy])⟩
theorem cells_flat {E : PH → List Value → α → Prop} {H : PH} (enc : α → List Value) (k : Nat) (he : ∀ cs x, E H cs x → cs = enc x) : ∀ {l : List α} {c : List Value}, Cells H E k c l → c = l.flatMap enc ∧ ∀ x ∈ l, E H (enc x) x
  | [], c, h => ⟨h, fun x hx => by cases hx⟩
  | x :: l, c, h => by
    obtain ⟨cs, rest, rfl, h1, h2, h3⟩ := h
    obtain ⟨r1, r2⟩ := cells_flat enc k he h3
    have := he _ _ h2
    subst this
    refine ⟨by rw [List.flatMap_cons, ← r1], fun y hy => ?_⟩
    rcases List.mem_cons.1 hy with rfl | hy
    · exact h2
    · exact r2 y hy
/-- the world behind a sort, in the words of chunks -/
theorem sorted_own {E : PH → List Value → α → Prop} {H : PH} {T : TypeId} {w : World} {g cap n : Nat} {cur : Array Value} {xs : List α} {d' : Array α} {os : Array Obj} (enc : α → List Value) (k : Nat) (hk : ∀ x, (enc x).length = k) (he : ∀ cs x, E H cs x → cs = enc x)
    (hg : w.heap[g]? = some (.cells cur T (0, 0))) (hx : xs.length ≤ cap) (hc : cap ≤ maxLen) (hs : cur.size = cap * k) (hC : Cells H E k (cur.toList.take (xs.length * k)) xs) (hp : d'.toList.Perm xs) :
    OwnC H (sortWorldK enc k w g 0 n d' os) E k T (.slice (some ⟨g, 0, none⟩) xs.length cap) d'.toList ∧ w.grownBy (sortWorldK enc k w g 0 n d' os) (some g) := by
  have hlt : g < w.heap.size := (Array.getElem?_eq_some_iff.1 hg).1
  have hmul : xs.length * k ≤ cap * k := Nat.mul_le_mul_right _ hx
  have hlen := hp.length_eq
  have hd : d'.size = xs.length := by simpa using hlen
  obtain ⟨-, r2⟩ := cells_flat enc k he hC
  have hblk : ∀ j, j < w.heap.size → (sortWorldK enc k w g 0 n d' os).heap[j]? = (w.heap.modify g (onCells (putCells id 0 (flatK enc k d'))))[j]? := by
    intro j hj
    show (w.heap.modify g _ ++ os)[j]? = _
    rw [Array.getElem?_append_left (by simpa using hj)]
  have hsz : w.heap.size ≤ (sortWorldK enc k w g 0 n d' os).heap.size := by
    show w.heap.size ≤ (w.heap.modify g _ ++ os).size
    simp
  refine ⟨.inr ⟨g, cap, putCells id 0 (flatK enc k d') cur, by rw [← hlen], ?_, by rw [hlen]; exact hx, hc, ?_, ?_⟩, ⟨rfl, rfl, rfl, hsz, fun j hj hne => ?_⟩⟩
  · rw [hblk g hlt, Array.getElem?_modify, if_pos rfl, hg]; rfl
  · simp [putCells, hs]
  · have hF : (flatK enc k d').size ≤ cur.size := by rw [size_flatK, hd, hs]; exact hmul
    rw [putCells_eq _ _ hF, flatK_eq enc k hk]
    have : d'.toList.length * k = (d'.toList.flatMap enc).length := (gflat_len enc k hk _).symm
    simp only [this, List.take_left']
    exact flat_cells enc k hk _ fun x hx => r2 x (hp.mem_iff.1 hx)
  · rw [hblk j hj, Array.getElem?_modify, if_neg (fun e => hne (by rw [e]))]
end
end Go.Proofs.YtnhcplmcddlgnaaGreat
namespace Go.Proofs.YtnhcplmcddlgnaaGreat
open Go.Sort
/-- the world has only grown, and drawn -/
def Gw (a b : World) : Prop := ∃ q os, b = grow (a.drewN q) os
theorem Gw.rfl' (w : World) : Gw w w := ⟨0, #[], by rw [grow_empty]; rfl⟩
theorem Gw.then {a b c : World} (h : Gw a b) (k : Gw b c) : Gw a c := by
  obtain ⟨q, os, rfl⟩ := h
  obtain ⟨q', os', rfl⟩ := k
  refine ⟨q + q', os ++ os', ?_⟩
  simp [grow, World.drewN, Array.append_assoc, Nat.add_assoc]
theorem Gw.drew' {a b : World} (h : Gw a b) : Gw a b.drew := h.then ⟨1, #[], by rw [grow_empty]; rfl⟩
theorem Gw.new (w : World) (o : Obj) : Gw w (w.alloc o) := ⟨0, #[o], by rw [alloc_eq_grow]; rfl⟩
theorem Gw.ext {a b : World} (h : Gw a b) : Ext a b := by
  obtain ⟨q, os, rfl⟩ := h
  refine ⟨rfl, rfl, rfl, by simp [grow, World.drewN], fun k hk => ?_⟩
  show ((a.drewN q).heap ++ os)[k]? = _
  rw [Array.getElem?_append_left (by exact hk)]; rfl
theorem Gw.size {a b : World} (h : Gw a b) : a.heap.size ≤ b.heap.size := h.ext.size
end Go.Proofs.YtnhcplmcddlgnaaGreat
namespace Go.Proofs.YtnhcplmcddlgnaaGreat.Gg
open Go.RowKit
set_option linter.unusedSimpArgs false
set_option linter.unusedVariables false
abbrev Prop1 := Value → World → Prop
abbrev Env := List (Tmp × Prop1)
/-- from world W on, what holds lasts -/
def Stable (W : World) (R : Prop1) : Prop := ∀ v w w', Gw W w → R v w → Gw w w' → R v w'
/-- at the operands, act A is as a, or meets what the environment says -/
def knows (A a : Act) (w : World) (E : Env) : List Operand → Prop
  | [] => True
  | x :: xs => (match x with
      | .tmp t => (match E.lookup t with
        | some R => R (A.eval x) w
        | none => A.eval x = a.eval x)
      | _ => A.eval x = a.eval x) ∧ knows A a w E xs
/-- a pointer that comes back is to a block of the operation's own -/
def Fr (w : World) (v : Value) (w' : World) : Prop := ∀ g, v = .pointer (some ⟨g, 0, none⟩) → w.heap.size ≤ g ∧ g < w'.heap.size
/-- the pointers in these slots are to different blocks -/
def Dist (D : List Tmp) (A : Act) : Prop := ∀ d ∈ D, ∀ d' ∈ D, d ≠ d' → ∀ g g', A.tmps.getD d undef = .pointer (some ⟨g, 0, none⟩) → A.tmps.getD d' undef = .pointer (some ⟨g', 0, none⟩) → g ≠ g'
def RunsI (P : Program) (D : List Tmp) (W : World) (a : Act) (E : Env) (o : Oper) (R : Prop1) : Prop :=
  ∀ A w, Gw W w → knows A a w E o.op.operands.toList → ∀ K : Act → World → Prop, (∀ v w', Gw w w' → R v w' → (∀ d ∈ D, o.dst = some d → Fr w v w') → K (A.put o.dst v) w') → o.wp P A w K (fun _ _ _ => False)
def doesI (P : Program) (ops : Array Oper) (D : List Tmp) (W : World) (a : Act) (E : Env) (o : Oper) (R : Prop1) : Prop :=
  (o.guard = none ∧ RunsI P D W a E o R) ∨
  ∃ g b tg Rg, o.guard = some (g, b) ∧ (ops[g]?).bind (·.dst) = some tg ∧ E.lookup tg = some Rg ∧
    ((∀ v w, Rg v w → v = .bool b) ∧ RunsI P D W a E o R ∨ (∀ v w, Rg v w → v ≠ .bool b) ∧ ∀ w, R undef w)
/-- the acts that the environment allows -/
def fins (K : Act → World → Prop) (w : World) : Env → Act → Prop
  | [], a => K a w
  | (d, R) :: rest, a => ∀ v, R v w → fins K w rest (a.put (some d) v)
/-- the walk in the order of the text -/
def walkI (P : Program) (ops : Array Oper) (D : List Tmp) (W : World) (a : Act) (K : Act → World → Prop) : List Oper → Env → Prop
  | [], E => ∀ w, Gw W w → fins K w E a
  | o :: rest, E => ∃ d R, o.dst = some d ∧ d < a.tmps.size ∧ Stable W R ∧ doesI P ops D W a E o R ∧ walkI P ops D W a K rest (E ++ [(d, R)])
def afters (ops : Array Oper) (i : Nat) : List Nat := match ops[i]? with
  | some o => (o.after.toList.filter (Region.binds .any)).map (·.on)
  | none => []
def need (ops : Array Oper) : Nat → Nat → Nat → Bool
  | 0, _, _ => false
  | f + 1, i, j => (afters ops i).any fun k => k == j || need ops f k j
def okPre (ops : Array Oper) (m i : Nat) : Bool := match ops[i]? with
  | some oi => (match oi.dst with
      | some d => (List.range m).all fun j => j == i || (ops[j]?).bind (·.dst) != some d
      | none => false) &&
    (oi.looksAt ops).all fun t => (List.range m).all fun j => (ops[j]?).bind (·.dst) != some t || (afters ops i).contains j
  | none => false
def okI (ops : Array Oper) (m : Nat) : Bool :=
  decide (m ≤ ops.size) && Region.noSelect ops && (List.range ops.size).all (fun i => (afters ops i).all fun j => decide (j < i)) &&
  (List.range m).all (okPre ops m) && (List.range ops.size).all (fun i => decide (i < m) || (List.range i).all fun j => need ops i i j)
section
variable {P : Program} {ops : Array Oper} {Q : Exit → Act → World → Prop}
/-- what the walk has shown, step by step, with the whole environment in hand -/
structure StepI (P : Program) (ops : Array Oper) (D : List Tmp) (W : World) (a : Act) (E : Env) (i : Nat) (d : Tmp) (R : Prop1) : Prop where
  lt : d < a.tmps.size
  st : Stable W R
  go : ∃ o, ops[i]? = some o ∧ o.dst = some d ∧ doesI P ops D W a (E.take i) o R
theorem walkI_env {D : List Tmp} {W : World} {a : Act} {K : Act → World → Prop} : ∀ (l : List Oper) (E0 : Env), (∀ j o, l[j]? = some o → ops[E0.length + j]? = some o) → walkI P ops D W a K l E0 →
    ∃ E : Env, E.length = l.length ∧ (∀ i d R, E[i]? = some (d, R) → StepI P ops D W a (E0 ++ E) (E0.length + i) d R) ∧ ∀ w, Gw W w → fins K w (E0 ++ E) a := by
  intro l
  induction l with
  | nil => intro E0 _ h; exact ⟨[], rfl, by simp, by simpa [walkI] using h⟩
  | cons o rest ih =>
    intro E0 hl h
    obtain ⟨d, R, h1, h2, h3, h4, h5⟩ := h
    obtain ⟨E, e1, e2, e3⟩ := ih (E0 ++ [(d, R)]) (fun j o' hj => by
      have := hl (j + 1) o' (by simpa using hj)
      rw [← this]; congr 1; simp; omega) h5
    refine ⟨(d, R) :: E, by simp [e1], fun i d' R' hi => ?_, by simpa using e3⟩
    cases i with
    | zero =>
      simp only [List.getElem?_cons_zero, Option.some.injEq, Prod.mk.injEq] at hi
      obtain ⟨rfl, rfl⟩ := hi
      refine ⟨h2, h3, o, hl 0 o rfl, h1, ?_⟩
      have : (E0 ++ (d, R) :: E).take (E0.length + 0) = E0 := by simp
      rw [this]; exact h4
    | succ i =>
      have := e2 i d' R' (by simpa using hi)
      rw [List.append_assoc, List.singleton_append] at this
      have e : (E0 ++ [(d, R)]).length + i = E0.length + (i + 1) := by simp; omega
      rwa [e] at this
structure InvI (ops : Array Oper) (D : List Tmp) (m : Nat) (E : Env) (W : World) (a : Act) (listed : Array Bool) (A : Act) (w : World) : Prop where
  size : listed.size = ops.size
  clo : ∀ i, listed.getD i false = true → ∀ j ∈ afters ops i, listed.getD j false = true
  post : ∀ i, m ≤ i → listed.getD i false = false
  ext : Gw W w
  defs : A.defers = a.defers
  tsz : A.tmps.size = a.tmps.size
  same : ∀ t, (∀ i, i < m → listed.getD i false = true → (ops[i]?).bind (·.dst) ≠ some t) → A.tmps[t]? = a.tmps[t]?
  has : ∀ i d R, listed.getD i false = true → E[i]? = some (d, R) → R (A.tmps.getD d undef) w
  dlt : ∀ i d, i < m → listed.getD i false = true → (ops[i]?).bind (·.dst) = some d → d ∈ D → ∀ g, A.tmps.getD d undef = .pointer (some ⟨g, 0, none⟩) → g < w.heap.size
  dne : ∀ i j d d', i < m → j < m → i ≠ j → listed.getD i false = true → listed.getD j false = true → (ops[i]?).bind (·.dst) = some d → (ops[j]?).bind (·.dst) = some d' → d ∈ D → d' ∈ D →
    ∀ g g', A.tmps.getD d undef = .pointer (some ⟨g, 0, none⟩) → A.tmps.getD d' undef = .pointer (some ⟨g', 0, none⟩) → g ≠ g'
theorem need_listed {listed : Array Bool} (hc : ∀ i, listed.getD i false = true → ∀ j ∈ afters ops i, listed.getD j false = true) : ∀ (f i j : Nat), need ops f i j = true → (∀ k ∈ afters ops i, listed.getD k false = true) → listed.getD j false = true := by
  intro f
  induction f with
  | zero => intro i j h; simp [need] at h
  | succ f ih =>
    intro i j h hi
    simp only [need, List.any_eq_true, Bool.or_eq_true, beq_iff_eq] at h
    obtain ⟨k, hk, rfl | h⟩ := h
    · exact hi _ hk
    · exact ih k j h (hc k (hi k hk))
theorem mem_afters {i j : Nat} : j ∈ afters ops i ↔ ∃ o, ops[i]? = some o ∧ ∃ e ∈ o.after, Region.binds .any e = true ∧ e.on = j := by
  unfold afters
  cases h : ops[i]? with
  | none => simp
  | some o =>
    simp only [List.mem_map, List.mem_filter, Array.mem_toList_iff, Option.some.injEq]
    constructor
    · rintro ⟨e, ⟨h1, h2⟩, h3⟩; exact ⟨o, rfl, e, h1, h2, h3⟩
    · rintro ⟨_, rfl, e, h1, h2, h3⟩; exact ⟨e, ⟨h1, h2⟩, h3⟩
theorem ready_afters {i : Nat} {listed : Array Bool} : i ∈ Region.ready .any ops listed ↔ listed.getD i true = false ∧ (∃ o, ops[i]? = some o) ∧ ∀ j ∈ afters ops i, listed.getD j false = true := by
  rw [mem_ready]
  constructor
  · rintro ⟨h1, o, h2, h3⟩
    refine ⟨h1, ⟨o, h2⟩, fun j hj => ?_⟩
    obtain ⟨o', h4, e, h5, h6, rfl⟩ := mem_afters.1 hj
    rw [h2] at h4; cases h4
    exact h3 e h5 h6
  · rintro ⟨h1, ⟨o, h2⟩, h3⟩
    exact ⟨h1, o, h2, fun e he hb => h3 _ (mem_afters.2 ⟨o, h2, e, he, hb, rfl⟩)⟩
theorem getD_tf {listed : Array Bool} {i : Nat} (h : i < listed.size) : listed.getD i true = listed.getD i false := by
  simp [Array.getD_eq_getD_getElem?, h]
theorem env_get {E : Env} {i : Nat} (h : i < E.length) : ∃ d R, E[i]? = some (d, R) := ⟨E[i].1, E[i].2, by rw [List.getElem?_eq_getElem h]⟩
theorem lookup_getD {E : Env} {t : Tmp} {R : Prop1} (h : E.lookup t = some R) : ∃ i : Nat, E[i]? = some (t, R) := by
  induction E with
  | nil => simp at h
  | cons x xs ih =>
    obtain ⟨d, S⟩ := x
    rw [List.lookup_cons] at h
    cases hb : t == d with
    | true =>
      simp only [hb] at h
      cases h
      exact ⟨0, by simp [eq_of_beq hb]⟩
    | false =>
      simp only [hb] at h
      obtain ⟨i, hi⟩ := ih h
      exact ⟨i + 1, by simpa using hi⟩
theorem lookup_none {E : Env} {t : Tmp} (h : E.lookup t = none) : ∀ (i : Nat) (d : Tmp) (R : Prop1), E[i]? = some (d, R) → d ≠ t := by
  induction E with
  | nil => simp
  | cons x xs ih =>
    obtain ⟨d, S⟩ := x
    rw [List.lookup_cons] at h
    cases hb : t == d with
    | true => simp [hb] at h
    | false =>
      simp only [hb] at h
      intro i d' R hi
      cases i with
      | zero => simp at hi; obtain ⟨rfl, -⟩ := hi; intro e; subst e; simp at hb
      | succ i => exact ih h i d' R (by simpa using hi)
theorem wp_weaken {o : Oper} {A : Act} {w : World} {K : Act → World → Prop} (h : o.wp P A w K (fun _ _ _ => False)) : o.wp P A w K Q := by
  unfold Oper.wp at *
  generalize (execOp A.eval o).run P w = r at *
  cases r with
  | ok n w' =>
    cases n <;> simp only [Oper.upon] at h ⊢
    case enter f args =>
      refine Calls.mono h fun e w'' he => ?_
      cases e with
      | returned u => exact he
      | panicked c => exact he.elim
      | outgrown => obtain ⟨_, _, hf⟩ := he; exact hf.elim
    all_goals exact h
  | halt x w' => cases x <;> simp only [Oper.upon] at h
/-- the ops behind: in the order of the text -/
theorem wpAny_tail {m : Nat} (hlt : ∀ i j, j ∈ afters ops i → j < i) (hpost : ∀ i, m ≤ i → i < ops.size → ∀ j, j < i → need ops i i j = true) : ∀ (n i : Nat) (listed : Array Bool) (A : Act) (w : World), n + i = ops.size → m ≤ i → listed.size = ops.size →
    (∀ j, j < ops.size → listed.getD j false = decide (j < i)) → wpList P ops Q (ops.toList.drop i) A w → wpAny P .any ops Q n listed A w := by
  intro n
  induction n with
  | zero =>
    intro i listed A w hn hm hs hl h
    have hr : Region.ready .any ops listed = [] := by
      rw [List.eq_nil_iff_forall_not_mem]
      intro j hj
      obtain ⟨h1, ⟨o, h2⟩, -⟩ := ready_afters.1 hj
      have hj' : j < ops.size := (Array.getElem?_eq_some_iff.1 h2).1
      rw [getD_tf (by omega), hl j hj'] at h1
      simp at h1; omega
    rw [List.drop_of_length_le (by simp; omega)] at h
    exact ⟨hr, h⟩
  | succ n ih =>
    intro i listed A w hn hm hs hl h
    have hi : i < ops.size := by omega
    have hready : ∀ j, j ∈ Region.ready .any ops listed → j = i := by
      intro j hj
      obtain ⟨h1, ⟨o, h2⟩, h3⟩ := ready_afters.1 hj
      have hj' : j < ops.size := (Array.getElem?_eq_some_iff.1 h2).1
      rw [getD_tf (by omega), hl j hj'] at h1
      simp at h1
      rcases Nat.lt_or_ge i j with h4 | h4
      · have hcl : ∀ i', listed.getD i' false = true → ∀ j ∈ afters ops i', listed.getD j false = true := by
          intro i' hi' k hk
          have hk' := hlt i' k hk
          by_cases hb : i' < ops.size
          · rw [hl i' hb] at hi'
            rw [hl k (by omega)]
            simp at hi' ⊢; omega
          · simp [Array.getD_eq_getD_getElem?, Array.getElem?_eq_none (show listed.size ≤ i' by omega)] at hi'
        have := need_listed hcl j j i (hpost j (by omega) hj' i h4) h3
        rw [hl i hi] at this
        simp at this
      · omega
    have hii : i ∈ Region.ready .any ops listed := by
      rw [ready_afters]
      refine ⟨by rw [getD_tf (by omega), hl i hi]; simp, ⟨ops[i], by simp [hi]⟩, fun j hj => ?_⟩
      have := hlt i j hj
      rw [hl j (by omega)]; simp; exact this
    refine ⟨fun h0 => absurd hii (by rw [h0]; exact List.not_mem_nil), fun j hj => ?_⟩
    obtain rfl := hready j hj
    rw [List.drop_eq_getElem_cons (by simpa using hi)] at h
    have key : ∀ (A' : Act) (w' : World), wpList P ops Q (ops.toList.drop (j + 1)) A' w' → wpAny P .any ops Q n (listed.setIfInBounds j true) A' w' := by
      intro A' w' h'
      refine ih (j + 1) _ A' w' (by omega) (by omega) (by simpa using hs) (fun k hk => ?_) h'
      by_cases hkj : j = k
      · subst hkj; simp [Array.getD_eq_getD_getElem?, hs, hi]
      · rw [getD_set_ne _ hkj, hl k hk]
        simp only [decide_eq_decide]; omega
    unfold wpList at h
    unfold wpOp
    simp only [hi, getElem?_pos]
    simp only [Array.getElem_toList] at h
    split
    · rename_i hw
      rw [if_pos hw] at h
      exact h.imp (Oper.wp_mono key) id
    · rename_i hw
      rw [if_neg hw] at h
      exact key _ _ h
theorem fins_done {K : Act → World → Prop} {w : World} : ∀ (E : Env) (a A : Act), A.defers = a.defers → A.tmps.size = a.tmps.size → (∀ (i : Nat) (d : Tmp) (R : Prop1), E[i]? = some (d, R) → d < a.tmps.size ∧ R (A.tmps.getD d undef) w) → (∀ t, (∀ (i : Nat) (d : Tmp) (R : Prop1), E[i]? = some (d, R) → d ≠ t) → A.tmps[t]? = a.tmps[t]?) → fins K w E a → K A w := by
  intro E
  induction E with
  | nil =>
    intro a A hd hs _ ht h
    have : A = a := by
      cases A; cases a
      simp only at hd hs ht
      subst hd
      congr 1
      refine Array.ext_getElem? fun i => ht i (by simp)
    subst this; exact h
  | cons x xs ih =>
    obtain ⟨d, R⟩ := x
    intro a A hd hs hh ht h
    obtain ⟨h1, h2⟩ := hh 0 d R rfl
    refine ih (a.put (some d) (A.tmps.getD d undef)) A hd (by simpa [Act.put] using hs) (fun i d' R' hi => ?_) (fun t hx => ?_) (h _ h2)
    · have := hh (i + 1) d' R' (by simpa using hi)
      exact ⟨by simpa [Act.put] using this.1, this.2⟩
    · by_cases hdt : d = t
      · subst hdt
        simp only [Act.put]
        rw [Array.getElem?_setIfInBounds_self_of_lt h1]
        have : d < A.tmps.size := by rw [hs]; exact h1
        simp [Array.getD_eq_getD_getElem?, this]
      · rw [ht t fun i d' R' hi => ?_]
        · simp only [Act.put]; rw [Array.getElem?_setIfInBounds_ne hdt]
        · cases i with
          | zero => simp at hi; obtain ⟨rfl, -⟩ := hi; exact hdt
          | succ i => exact hx i d' R' (by simpa using hi)
theorem wpAny_region_D (m : Nat) (D : List Tmp) {a : Act} {W : World} (hc : okI ops m = true) (hD : (D.all fun d => (List.range m).any fun i => (ops[i]?).bind (·.dst) == some d) = true)
    (h : walkI P ops D W a (fun A w => Dist D A → wpList P ops Q (ops.toList.drop m) A w) (ops.toList.take m) []) : wpAny P .any ops Q ops.size (Array.replicate ops.size false) a { W with drawn := W.drawn + 1 } := by
  simp only [okI, Bool.and_eq_true, decide_eq_true_eq, List.all_eq_true, List.mem_range, Bool.or_eq_true] at hc
  obtain ⟨⟨⟨⟨hm1, hsel⟩, hlt'⟩, hpre⟩, hpost'⟩ := hc
  have hlt : ∀ i j, j ∈ afters ops i → j < i := by
    intro i j hj
    by_cases hi : i < ops.size
    · exact hlt' i hi j hj
    · obtain ⟨o, ho, -⟩ := mem_afters.1 hj
      rw [Array.getElem?_eq_none (by omega)] at ho; cases ho
  have hpost : ∀ i, m ≤ i → i < ops.size → ∀ j, j < i → need ops i i j = true := by
    intro i h1 h2 j hj
    rcases hpost' i h2 with h3 | h3
    · omega
    · exact h3 j hj
  obtain ⟨E, e1, e2, e3⟩ := walkI_env (ops := ops) (ops.toList.take m) [] (fun j o hj => by
    rw [List.getElem?_take] at hj
    split at hj
    · simpa using hj
    · cases hj) h
  simp only [List.nil_append, List.length_nil, Nat.zero_add] at e2 e3
  have hEl : E.length = m := by rw [e1]; simp; omega
  have dstE : ∀ (i : Nat) (d : Tmp) (R : Prop1), E[i]? = some (d, R) → (ops[i]?).bind (·.dst) = some d ∧ i < m := by
    intro i d R hi
    obtain ⟨o, h1, h2, -⟩ := (e2 i d R hi).go
    exact ⟨by simp [h1, h2], by rw [← hEl]; exact (List.getElem?_eq_some_iff.1 hi).1⟩
  have distinct : ∀ (i j : Nat) (d : Tmp), i < m → j < m → (ops[i]?).bind (·.dst) = some d → (ops[j]?).bind (·.dst) = some d → i = j := by
    intro i j d hi hj h1 h2
    have := hpre i hi
    unfold okPre at this
    cases ho : ops[i]? with
    | none => simp [ho] at h1
    | some o =>
      simp only [ho, Option.bind_some] at h1 this
      simp only [h1, Bool.and_eq_true, List.all_eq_true, List.mem_range, Bool.or_eq_true, beq_iff_eq, bne_iff_ne] at this
      rcases this.1 j hj with h3 | h3
      · exact h3.symm
      · exact absurd h2 h3
  have distOf : ∀ (listed : Array Bool) (A : Act) (w : World), InvI ops D m E W a listed A w → (∀ i, i < m → listed.getD i false = true) → Dist D A := by
    intro listed A w hI hall d hd d' hd' hne g g' hg hg'
    simp only [List.all_eq_true, List.any_eq_true, List.mem_range, beq_iff_eq] at hD
    obtain ⟨i, hi, h1⟩ := hD d hd
    obtain ⟨j, hj, h2⟩ := hD d' hd'
    refine hI.dne i j d d' hi hj (fun e => ?_) (hall i hi) (hall j hj) h1 h2 hd hd' g g' hg hg'
    subst e
    rw [h1] at h2
    exact hne (Option.some.inj h2)
  have main : ∀ (n : Nat) (listed : Array Bool) (A : Act) (w : World), (List.range ops.size).countP (fun i => !listed.getD i false) = n → InvI ops D m E W a listed A w → wpAny P .any ops Q n listed A w := by
    intro n
    induction n with
    | zero =>
      intro listed A w hn hI
      by_cases hmn : m < ops.size
      · exfalso
        rw [List.countP_eq_zero] at hn
        have := hn m (List.mem_range.2 hmn)
        rw [hI.post m (Nat.le_refl _)] at this
        simp at this
      · have hall : ∀ i, i < ops.size → listed.getD i false = true := by
          intro i hi
          rw [List.countP_eq_zero] at hn
          have := hn i (List.mem_range.2 hi)
          simpa using this
        have hmm : m = ops.size := by omega
        have hall' : ∀ i, i < m → listed.getD i false = true := fun i hi => hall i (by omega)
        refine wpAny_tail (m := m) hlt hpost 0 ops.size listed A w (by omega) (by omega) hI.size (fun j hj => by rw [hall j hj]; simp [hj]) ?_
        have hdist : Dist D A := distOf listed A w hI hall'
        have := fins_done E a A hI.defs hI.tsz (fun i d R hi => ⟨(e2 i d R hi).lt, hI.has i d R (hall i (by have := (dstE i d R hi).2; omega)) hi⟩) (fun t ht => hI.same t fun i hi _ hdi => by
          have hiE : i < E.length := by omega
          obtain ⟨d, R, hx'⟩ := env_get hiE
          have h5 := (dstE i d R hx').1
          rw [hdi] at h5
          cases h5
          exact ht i _ R hx' rfl) (e3 w hI.ext)
        have := this hdist
        rw [hmm] at this; exact this
    | succ n ih =>
      intro listed A w hn hI
      have hsz := hI.size
      by_cases hall : ∀ i, i < m → listed.getD i false = true
      · -- all of the first part are done
        have hdone := fins_done E a A hI.defs hI.tsz (fun i d R hi => ⟨(e2 i d R hi).lt, hI.has i d R (hall i (dstE i d R hi).2) hi⟩) (fun t ht => hI.same t fun i hi _ hdi => by
          have hiE : i < E.length := by omega
          obtain ⟨d, R, hx'⟩ := env_get hiE
          have h5 := (dstE i d R hx').1
          rw [hdi] at h5
          cases h5
          exact ht i _ R hx' rfl) (e3 w hI.ext)
        have hdone := hdone (distOf listed A w hI hall)
        have hl : ∀ j, j < ops.size → listed.getD j false = decide (j < m) := by
          intro j hj
          by_cases hjm : j < m
          · rw [hall j hjm]; simp [hjm]
          · rw [hI.post j (by omega)]; simp [hjm]
        have hcount : n + 1 + m = ops.size := by
          have h1 : (List.range ops.size).countP (fun i => !listed.getD i false) = (List.range ops.size).countP (fun i => decide (m ≤ i)) := by
            refine List.countP_congr fun i hi => ?_
            rw [hl i (List.mem_range.1 hi)]
            by_cases hx : i < m <;> simp [hx] <;> omega
          have h2 : ∀ k, (List.range k).countP (fun i => decide (m ≤ i)) = k - m := by
            intro k
            induction k with
            | zero => simp
            | succ k ihk =>
              rw [List.range_succ, List.countP_append, ihk]
              by_cases hx : m ≤ k
              · simp [hx]; omega
              · simp [hx]; omega
          rw [h1, h2] at hn; omega
        exact wpAny_tail (m := m) hlt hpost (n + 1) m listed A w hcount (Nat.le_refl _) hsz hl hdone
      · refine ⟨fun h0 => ?_, fun i hi => ?_⟩
        · -- some op is ready
          exfalso
          apply hall
          intro i
          induction i using Nat.strongRecOn with
          | ind i ihi =>
            intro him
            cases hx : listed.getD i false with
            | true => rfl
            | false =>
              have : i ∈ Region.ready .any ops listed := by
                rw [ready_afters]
                refine ⟨by rw [getD_tf (by omega)]; exact hx, ⟨ops[i]'(by omega), by simp [show i < ops.size by omega]⟩, fun j hj => ?_⟩
                have := hlt i j hj
                exact ihi j this (by omega)
              rw [h0] at this; cases this
        · obtain ⟨h1, ⟨oi, h2⟩, h3⟩ := ready_afters.1 hi
          have hio : i < ops.size := (Array.getElem?_eq_some_iff.1 h2).1
          have him : i < m := by
            rcases Nat.lt_or_ge i m with h | h
            · exact h
            · exfalso
              apply hall
              intro j hj
              exact need_listed hI.clo i i j (hpost i h hio j (by omega)) h3
          rw [getD_tf (by omega)] at h1
          have hiE : i < E.length := by omega
          obtain ⟨d, R, hx'⟩ := env_get hiE
          have hst := e2 i d R hx'
          obtain ⟨o', ho', hdst, hdo⟩ := hst.go
          obtain rfl : o' = oi := by rw [h2] at ho'; exact (Option.some.inj ho').symm
          have hok := hpre i him
          simp only [okPre, h2, hdst, Bool.and_eq_true, List.all_eq_true, List.mem_range, Bool.or_eq_true, beq_iff_eq, bne_iff_ne, List.contains_iff_mem] at hok
          -- what the operands are
          have hslot : ∀ t, t ∈ o'.looksAt ops → (∀ R', (E.take i).lookup t = some R' → R' (A.tmps.getD t undef) w) ∧ ((E.take i).lookup t = none → A.tmps[t]? = a.tmps[t]?) := by
            intro t ht
            refine ⟨fun R' hR' => ?_, fun hn' => ?_⟩
            · obtain ⟨j, hj⟩ := lookup_getD hR'
              have hji : j < i := by
                have := (List.getElem?_eq_some_iff.1 hj).1
                rw [List.length_take] at this; omega
              rw [List.getElem?_take, if_pos hji] at hj
              have hdj := dstE j t R' hj
              rcases hok.2 t ht j hdj.2 with h4 | h4
              · exact absurd hdj.1 h4
              · exact hI.has j t R' (h3 j h4) hj
            · refine hI.same t fun j hj hlj hdj => ?_
              rcases hok.2 t ht j hj with h4 | h4
              · exact h4 hdj
              · have hji := hlt i j h4
                have hjE : j < E.length := by omega
                obtain ⟨d', R', hy'⟩ := env_get hjE
                have h5 := (dstE j d' R' hy').1
                rw [hdj] at h5
                cases h5
                exact lookup_none hn' j t R' (by rw [List.getElem?_take, if_pos hji]; exact hy') rfl
          have hknow : ∀ l : List Operand, (∀ x ∈ l, ∀ t, x = .tmp t → t ∈ o'.looksAt ops) → knows A a w (E.take i) l := by
            intro l
            induction l with
            | nil => intro _; trivial
            | cons x xs ihx =>
              intro hl
              refine ⟨?_, ihx fun y hy => hl y (by simp [hy])⟩
              cases x with
              | tmp t =>
                have hs := hslot t (hl _ (by simp) t rfl)
                simp only []
                cases hlk : (E.take i).lookup t with
                | some R' =>
                  simp only []
                  have := hs.1 R' hlk
                  simpa [Act.eval] using this
                | none =>
                  simp only []
                  have := hs.2 hlk
                  simp only [Act.eval, Array.getD_eq_getD_getElem?, this]
              | _ => rfl
          have hops : knows A a w (E.take i) o'.op.operands.toList := hknow _ fun x hx t ht => by
            subst ht
            exact List.mem_append_left _ (List.mem_filterMap.2 ⟨.tmp t, hx, rfl⟩)
          -- behind it
          have key : ∀ v w', Gw w w' → R v w' → (∀ e ∈ D, o'.dst = some e → Fr w v w') → wpAny P .any ops Q n (listed.setIfInBounds i true) (A.put o'.dst v) w' := by
            intro v w' hww hR hFr
            have hdA : d < A.tmps.size := by rw [hI.tsz]; exact hst.lt
            refine ih _ _ _ ?_ ?_
            · have h6 : (List.range ops.size).countP (fun k => !listed.getD k false) = (List.range ops.size).countP (fun k => !(listed.setIfInBounds i true).getD k false) + 1 := by
                have gen : ∀ (l : List Nat), l.Nodup → i ∈ l → l.countP (fun k => !listed.getD k false) = l.countP (fun k => !(listed.setIfInBounds i true).getD k false) + 1 := by
                  intro l
                  induction l with
                  | nil => intro _ h; cases h
                  | cons x xs ihl =>
                    intro hnd hmem
                    rw [List.nodup_cons] at hnd
                    rcases List.mem_cons.1 hmem with rfl | hmem
                    · have h7 : xs.countP (fun k => !listed.getD k false) = xs.countP (fun k => !(listed.setIfInBounds i true).getD k false) := by
                        refine List.countP_congr fun k hk => ?_
                        rw [getD_set_ne _ (fun e => hnd.1 (by rw [e]; exact hk))]
                      rw [List.countP_cons, List.countP_cons, h7]
                      have h8 : (listed.setIfInBounds i true).getD i false = true := by simp [Array.getD_eq_getD_getElem?, show i < listed.size by omega]
                      rw [h1, h8]; simp
                    · have hne : i ≠ x := fun e => hnd.1 (by rw [← e]; exact hmem)
                      rw [List.countP_cons, List.countP_cons, ihl hnd.2 hmem, getD_set_ne _ hne]; omega
                exact gen _ List.nodup_range (List.mem_range.2 hio)
              omega
            · refine ⟨by simpa using hI.size, fun k hk j hj => ?_, fun k hk => ?_, Gw.then hI.ext hww, by rw [hdst]; exact hI.defs, by rw [hdst]; simpa [Act.put] using hI.tsz, fun t ht => ?_, fun k d' R' hk hE' => ?_, fun k d' hk hlk hdk hdD g hg => ?_, fun k l d1 d2 hk hl hkl hlk hll hdk hdl h1D h2D g g' hg hg' => ?_⟩
              · by_cases hki : i = k
                · subst hki
                  have := h3 j hj
                  exact getD_set_true this
                · rw [getD_set_ne _ hki] at hk
                  exact getD_set_true (hI.clo k hk j hj)
              · rw [getD_set_ne _ (by omega)]; exact hI.post k hk
              · have hdt : d ≠ t := by
                  intro e; subst e
                  exact ht i him (by simp [Array.getD_eq_getD_getElem?, show i < listed.size by omega]) (by simp [h2, hdst])
                rw [hdst]
                simp only [Act.put]
                rw [Array.getElem?_setIfInBounds_ne hdt]
                exact hI.same t fun k hk hlk => ht k hk (getD_set_true hlk)
              · by_cases hki : i = k
                · subst hki
                  rw [hx'] at hE'
                  cases hE'
                  rw [hdst]
                  simp only [Act.put]
                  have : (A.tmps.setIfInBounds d v).getD d undef = v := by simp [Array.getD_eq_getD_getElem?, hdA]
                  rw [this]; exact hR
                · rw [getD_set_ne _ hki] at hk
                  have h7 := hI.has k d' R' hk hE'
                  have hne : d ≠ d' := fun e => by
                    subst e
                    have h8 := dstE k d R' hE'
                    exact hki (distinct i k d him h8.2 (by simp [h2, hdst]) h8.1)
                  rw [hdst]
                  simp only [Act.put]
                  have : (A.tmps.setIfInBounds d v).getD d' undef = A.tmps.getD d' undef := by simp [Array.getD_eq_getD_getElem?, Array.getElem?_setIfInBounds_ne hne]
                  rw [this]
                  exact (e2 k d' R' hE').st _ _ _ hI.ext h7 hww
              · by_cases hki : i = k
                · subst hki
                  obtain rfl : d' = d := by rw [h2, Option.bind_some, hdst] at hdk; exact (Option.some.inj hdk).symm
                  rw [hdst] at hg
                  simp only [Act.put] at hg
                  have : (A.tmps.setIfInBounds d' v).getD d' undef = v := by simp [Array.getD_eq_getD_getElem?, hdA]
                  rw [this] at hg
                  exact (hFr d' hdD hdst g hg).2
                · rw [getD_set_ne _ hki] at hlk
                  have hne : d ≠ d' := fun e => by
                    subst e
                    exact hki (distinct i k d him hk (by simp [h2, hdst]) hdk)
                  rw [hdst] at hg
                  simp only [Act.put] at hg
                  have : (A.tmps.setIfInBounds d v).getD d' undef = A.tmps.getD d' undef := by simp [Array.getD_eq_getD_getElem?, Array.getElem?_setIfInBounds_ne hne]
                  rw [this] at hg
                  have := hI.dlt k d' hk hlk hdk hdD g hg
                  have := hww.size
                  omega
              · have slotO : ∀ k d', k < m → k ≠ i → (ops[k]?).bind (·.dst) = some d' → (A.put o'.dst v).tmps.getD d' undef = A.tmps.getD d' undef := by
                  intro k d' hk hki hdk
                  have hne : d ≠ d' := fun e => by
                    subst e
                    exact hki (distinct i k d him hk (by simp [h2, hdst]) hdk).symm
                  rw [hdst]
                  simp only [Act.put]
                  simp [Array.getD_eq_getD_getElem?, Array.getElem?_setIfInBounds_ne hne]
                have slotI : ∀ d', (ops[i]?).bind (·.dst) = some d' → (A.put o'.dst v).tmps.getD d' undef = v ∧ o'.dst = some d' := by
                  intro d' hdk
                  obtain rfl : d' = d := by rw [h2, Option.bind_some, hdst] at hdk; exact (Option.some.inj hdk).symm
                  refine ⟨?_, hdst⟩
                  rw [hdst]
                  simp only [Act.put]
                  simp [Array.getD_eq_getD_getElem?, hdA]
                by_cases hki : i = k
                · subst hki
                  have a1 := slotI d1 hdk
                  rw [a1.1] at hg
                  rw [slotO l d2 hl (Ne.symm hkl) hdl] at hg'
                  rw [getD_set_ne _ hkl] at hll
                  have b1 := hFr d1 h1D a1.2 g hg
                  have b2 := hI.dlt l d2 hl hll hdl h2D g' hg'
                  omega
                · rw [getD_set_ne _ hki] at hlk
                  rw [slotO k d1 hk (Ne.symm hki) hdk] at hg
                  by_cases hli : i = l
                  · subst hli
                    have a1 := slotI d2 hdl
                    rw [a1.1] at hg'
                    have b1 := hFr d2 h2D a1.2 g' hg'
                    have b2 := hI.dlt k d1 hk hlk hdk h1D g hg
                    omega
                  · rw [getD_set_ne _ hli] at hll
                    rw [slotO l d2 hl (Ne.symm hli) hdl] at hg'
                    exact hI.dne k l d1 d2 hk hl hkl hlk hll hdk hdl h1D h2D g g' hg hg'
          unfold wpOp
          simp only [h2]
          have runs : RunsI P D W a (E.take i) o' R → o'.wp P A w (wpAny P .any ops Q n (listed.setIfInBounds i true)) Q := fun hr => wp_weaken (hr A w hI.ext hops _ key)
          rcases hdo with ⟨hg, hr⟩ | ⟨g, b, tg, Rg, hg, htg, hlk, hcase⟩
          · rw [if_pos (by simp [Region.wanted, hg])]
            exact .inl (runs hr)
          · have hsg := (hslot tg (List.mem_append_right _ (by simp [hg, htg]))).1 Rg hlk
            obtain ⟨jg, hjg⟩ := lookup_getD hlk
            have hjg' : E[jg]? = some (tg, Rg) := by
              rw [List.getElem?_take] at hjg
              split at hjg
              · exact hjg
              · cases hjg
            have htsz : tg < A.tmps.size := by rw [hI.tsz]; exact (e2 jg tg Rg hjg').lt
            have hyl : ∀ c, A.tmps.getD tg undef = .bool c → yielded ops A.tmps g = some c := by
              intro c hcv
              have : A.tmps[tg]? = some (.bool c) := by
                rw [← hcv]; simp [Array.getD_eq_getD_getElem?, htsz]
              simp [yielded, htg, this]
            rcases hcase with ⟨h4, hr⟩ | ⟨h4, h5⟩
            · rw [if_pos (by simp [Region.wanted, hg, hyl b (h4 _ _ hsg)])]
              exact .inl (runs hr)
            · rw [if_neg (by
                simp only [Region.wanted, hg, beq_iff_eq]
                intro hy
                refine h4 _ _ hsg ?_
                unfold yielded at hy
                simp only [htg, Option.bind_some] at hy
                split at hy
                · rename_i c hc
                  cases hy
                  simp [Array.getD_eq_getD_getElem?, hc]
                · cases hy)]
              exact key undef w (Gw.rfl' w) (h5 w) (fun _ _ _ g hg => by cases hg)
  have h0 : (List.range ops.size).countP (fun i => !(Array.replicate ops.size false).getD i false) = ops.size := by
    have : (List.range ops.size).countP (fun i => !(Array.replicate ops.size false).getD i false) = (List.range ops.size).length := by
      rw [List.countP_eq_length]
      intro i hi
      have := List.mem_range.1 hi
      simp [Array.getD_eq_getD_getElem?, this]
    rw [this, List.length_range]
  have hf : ∀ i, (Array.replicate ops.size false).getD i false = false := by
    intro i
    by_cases h : i < ops.size
    · simp [Array.getD_eq_getD_getElem?, h]
    · simp [Array.getD_eq_getD_getElem?, Array.getElem?_eq_none, show ops.size ≤ i by omega]
  exact main ops.size _ a _ h0 ⟨by simp, fun i hi => absurd hi (by rw [hf]; simp), fun i _ => hf i, Gw.drew' (Gw.rfl' W), rfl, rfl, fun _ _ => rfl, fun i d R hi => absurd hi (by rw [hf]; simp), fun i d _ hi => absurd hi (by rw [hf]; simp), fun i j d d' _ _ _ hi => absurd hi (by rw [hf]; simp)⟩
theorem wp_region_D (m : Nat) (D : List Tmp) {id : Nat} {a : Act} {W : World} (hm : P.follows .mixedOrders = true) (hc : okI ops m = true) (hD : (D.all fun d => (List.range m).any fun i => (ops[i]?).bind (·.dst) == some d) = true)
    (h : walkI P ops D W a (fun A w => Dist D A → wpList P ops Q (ops.toList.drop m) A w) (ops.toList.take m) []) : (Code.region id ops true).wp P Q a W :=
  wp_region_any hm (wpAny_region_D m D hc hD h)
theorem wp_region_I (m : Nat) {id : Nat} {a : Act} {W : World} (hm : P.follows .mixedOrders = true) (hc : okI ops m = true)
    (h : walkI P ops [] W a (fun A w => wpList P ops Q (ops.toList.drop m) A w) (ops.toList.take m) []) : (Code.region id ops true).wp P Q a W := by
  refine wp_region_D m [] hm hc rfl ?_
  have : (fun A w => Dist [] A → wpList P ops Q (ops.toList.drop m) A w) = fun A w => wpList P ops Q (ops.toList.drop m) A w := by
    funext A w
    exact propext ⟨fun h => h (fun _ h => by cases h), fun h _ => h⟩
  rw [this]; exact h
/-- a fixed value -/
abbrev Is (u : Value) : Prop1 := fun v _ => v = u
theorem walkI_step {D : List Tmp} {W : World} {a : Act} {K : Act → World → Prop} {o : Oper} {rest : List Oper} {E : Env} {d : Tmp} (R : Prop1) (hd : o.dst = some d) (hl : d < a.tmps.size) (hg : o.guard = none) (hs : Stable W R)
    (hr : ∀ A w, Gw W w → knows A a w E o.op.operands.toList → ∀ K : Act → World → Prop, (∀ v w', Gw w w' → R v w' → K (A.put (some d) v) w') → o.wp P A w K (fun _ _ _ => False))
    (h : walkI P ops D W a K rest (E ++ [(d, R)])) (hn : d ∉ D := by simp) : walkI P ops D W a K (o :: rest) E :=
  ⟨d, R, hd, hl, hs, .inl ⟨hg, by
    unfold RunsI; rw [hd]
    exact fun A w h1 h2 K hK => hr A w h1 h2 K fun v w' h3 h4 => hK v w' h3 h4 fun e he hde => by cases hde; exact absurd he hn⟩, h⟩
theorem walkI_is {D : List Tmp} {W : World} {a : Act} {K : Act → World → Prop} {o : Oper} {rest : List Oper} {E : Env} {d : Tmp} {u : Value} (hd : o.dst = some d) (hl : d < a.tmps.size) (hg : o.guard = none)
    (hr : ∀ A w, Gw W w → knows A a w E o.op.operands.toList → ∀ K : Act → World → Prop, (∀ w', Gw w w' → K (A.put (some d) u) w') → o.wp P A w K (fun _ _ _ => False))
    (h : walkI P ops D W a K rest (E ++ [(d, Is u)])) (hn : d ∉ D := by simp) : walkI P ops D W a K (o :: rest) E :=
  walkI_step (Is u) hd hl hg (fun _ _ _ _ h _ => h) (fun A w hw hk K hK => hr A w hw hk K fun w' hw' => hK u w' hw' rfl) h hn
theorem walkI_yes {D : List Tmp} {W : World} {a : Act} {K : Act → World → Prop} {o : Oper} {rest : List Oper} {E : Env} {d g tg : Nat} {b : Bool} (R : Prop1) (hd : o.dst = some d) (hl : d < a.tmps.size) (hg : o.guard = some (g, b)) (htg : (ops[g]?).bind (·.dst) = some tg) (hlk : E.lookup tg = some (Is (.bool b))) (hs : Stable W R)
    (hr : ∀ A w, Gw W w → knows A a w E o.op.operands.toList → ∀ K : Act → World → Prop, (∀ v w', Gw w w' → R v w' → K (A.put (some d) v) w') → o.wp P A w K (fun _ _ _ => False))
    (h : walkI P ops D W a K rest (E ++ [(d, R)])) (hn : d ∉ D := by simp) : walkI P ops D W a K (o :: rest) E :=
  ⟨d, R, hd, hl, hs, .inr ⟨g, b, tg, _, hg, htg, hlk, .inl ⟨fun _ _ h => h, by
    unfold RunsI; rw [hd]
    exact fun A w h1 h2 K hK => hr A w h1 h2 K fun v w' h3 h4 => hK v w' h3 h4 fun e he hde => by cases hde; exact absurd he hn⟩⟩, h⟩
theorem walkI_yesis {D : List Tmp} {W : World} {a : Act} {K : Act → World → Prop} {o : Oper} {rest : List Oper} {E : Env} {d g tg : Nat} {b : Bool} {u : Value} (hd : o.dst = some d) (hl : d < a.tmps.size) (hg : o.guard = some (g, b)) (htg : (ops[g]?).bind (·.dst) = some tg) (hlk : E.lookup tg = some (Is (.bool b)))
    (hr : ∀ A w, Gw W w → knows A a w E o.op.operands.toList → ∀ K : Act → World → Prop, (∀ w', Gw w w' → K (A.put (some d) u) w') → o.wp P A w K (fun _ _ _ => False))
    (h : walkI P ops D W a K rest (E ++ [(d, Is u)])) (hn : d ∉ D := by simp) : walkI P ops D W a K (o :: rest) E :=
  walkI_yes (Is u) hd hl hg htg hlk (fun _ _ _ _ h _ => h) (fun A w hw hk K hK => hr A w hw hk K fun w' hw' => hK u w' hw' rfl) h hn
theorem walkI_no {D : List Tmp} {W : World} {a : Act} {K : Act → World → Prop} {o : Oper} {rest : List Oper} {E : Env} {d g tg : Nat} {b : Bool} {u : Value} (hd : o.dst = some d) (hl : d < a.tmps.size) (hg : o.guard = some (g, b)) (htg : (ops[g]?).bind (·.dst) = some tg) (hlk : E.lookup tg = some (Is u)) (hbc : u ≠ .bool b)
    (h : walkI P ops D W a K rest (E ++ [(d, Is undef)])) : walkI P ops D W a K (o :: rest) E :=
  ⟨d, Is undef, hd, hl, fun _ _ _ _ h _ => h, .inr ⟨g, b, tg, _, hg, htg, hlk, .inr ⟨fun _ _ h => by rw [h]; exact hbc, fun _ => rfl⟩⟩, h⟩
/-- a new block -/
theorem walkI_new {D : List Tmp} {W : World} {a : Act} {K : Act → World → Prop} {o : Oper} {rest : List Oper} {E : Env} {d : Tmp} (R : Prop1) (hd : o.dst = some d) (hl : d < a.tmps.size) (hg : o.guard = none) (hs : Stable W R)
    (hr : ∀ A w, Gw W w → knows A a w E o.op.operands.toList → ∀ K : Act → World → Prop, (∀ v w', Gw w w' → R v w' → Fr w v w' → K (A.put (some d) v) w') → o.wp P A w K (fun _ _ _ => False))
    (h : walkI P ops D W a K rest (E ++ [(d, R)])) : walkI P ops D W a K (o :: rest) E :=
  ⟨d, R, hd, hl, hs, .inl ⟨hg, by
    unfold RunsI; rw [hd]
    exact fun A w h1 h2 K hK => hr A w h1 h2 K fun v w' h3 h4 h5 => hK v w' h3 h4 fun _ _ _ => h5⟩, h⟩
theorem walkI_nil {D : List Tmp} {W : World} {a : Act} {K : Act → World → Prop} {E : Env} (h : ∀ w, Gw W w → fins K w E a) : walkI P ops D W a K [] E := h
end
end Go.Proofs.YtnhcplmcddlgnaaGreat.Gg
namespace Go.Proofs.YtnhcplmcddlgnaaGreat
open Go.RowKit Go.Shelf Go.Sort
set_option linter.unusedVariables false
theorem Gw.drawn {a b : World} (h : Gw a b) : a.drawn ≤ b.drawn := by
  obtain ⟨q, os, rfl⟩ := h
  show a.drawn ≤ a.drawn + q
  omega
theorem Gw.of {a b : World} (h : Ext a b) (hd : a.drawn ≤ b.drawn) : Gw a b := by
  refine ⟨b.drawn - a.drawn, b.heap.extract a.heap.size b.heap.size, ?_⟩
  have hh : b.heap = a.heap ++ b.heap.extract a.heap.size b.heap.size := by
    apply Array.ext_getElem?
    intro k
    rcases Nat.lt_or_ge k a.heap.size with hk | hk
    · rw [Array.getElem?_append_left hk, h.block k hk]
    · rw [Array.getElem?_append_right hk, Array.getElem?_extract]
      split
      · congr 1; omega
      · rw [Array.getElem?_eq_none]; omega
  have h1 := h.os
  have h2 := h.tape
  have h3 := h.output
  obtain ⟨bh, bt, bd, bo, bu⟩ := b
  obtain ⟨ah, at', ad, ao, au⟩ := a
  simp only at *
  subst h1 h2 h3
  show _ = World.mk (ah ++ _) _ (ad + (bd - ad)) _ _
  rw [← hh, show ad + (bd - ad) = bd by omega]
  rfl
theorem Gw.set' {a b : World} (h : Gw a b) {p : Addr} (hp : a.heap.size ≤ p.block) (v : Value) : Gw a (b.setCell p v) := Gw.of (h.ext.set' hp v) h.drawn
theorem Gw.drewNx {a b : World} (h : Gw a b) (n : Nat) : Gw a (b.drewN n) := h.then ⟨n, #[], by rw [grow_empty]⟩
theorem Gw.allocx {a b : World} (h : Gw a b) (o : Obj) : Gw a (b.alloc o) := h.then (Gw.new b o)
def RetG (w : World) (v : Value) (e : Ending) (w' : World) : Prop := e = .returned v ∧ Gw w w'
theorem RetG_at {P : Program} {f : FuncId} {args : Array Value} {w : World} {v : Value} {K : Ending → World → Prop} (h : Calls P f args w (RetG w v)) (hK : ∀ w', Gw w w' → K (.returned v) w') : Calls P f args w K :=
  h.mono (by rintro e w' ⟨rfl, h⟩; exact hK w' h)
theorem stab_NewBoxG {W : World} (W0 : World) (c : Array Value) (T : TypeId) : Gg.Stable W (NewBox W0 c T) := fun v w w' _ ⟨g, h1, h2, h3⟩ e => ⟨g, h1, h2.keep e.ext, h3⟩
end Go.Proofs.YtnhcplmcddlgnaaGreat
namespace Go.Proofs.YtnhcplmcddlgnaaGreat
open Go.RowKit Go.Shelf Go.Sort
set_option linter.unusedSimpArgs false
set_option linter.unusedVariables false
theorem isNaN_g (n : Int) (w : World) : Calls Tryz.prog 75 #[.int .i64 n] w (RetG w (.bool false)) := by
  go_enter Tryz.func75, Tryz.ntmps75
  go_wp2_with fail
  go_ret
  exact ⟨rfl, (by repeat (first | (with_reducible assumption) | (with_reducible exact Gw.rfl' _) | (with_reducible exact Gw.new _ _) | (with_reducible refine Gw.allocx ?_ _) | (with_reducible refine Gw.drew' ?_) | (with_reducible refine Gw.drewNx ?_ _) | (with_reducible refine Gw.then (b := ?_) ?_ ?_; rotate_left; rotate_left; (with_reducible assumption))))⟩
theorem cmpI_g (a b : Int) (w : World) : Calls Tryz.prog 58 #[.int .i64 a, .int .i64 b] w (RetG w (.int .i64 (cmpI a b))) := by
  go_enter Tryz.func58, Tryz.ntmps58
  go_wp2_with fail
  refine RetG_at (isNaN_g a _) ?_
  intro w1 hb1
  go_wp2_with fail
  refine RetG_at (isNaN_g b _) ?_
  intro w2 hb2
  by_cases h1 : a < b
  · go_wp2_with fail
    go_ret
    exact ⟨ret_int (cmpI_lt (by omega)).symm, (by repeat (first | (with_reducible assumption) | (with_reducible exact Gw.rfl' _) | (with_reducible exact Gw.new _ _) | (with_reducible refine Gw.allocx ?_ _) | (with_reducible refine Gw.drew' ?_) | (with_reducible refine Gw.drewNx ?_ _) | (with_reducible refine Gw.then (b := ?_) ?_ ?_; rotate_left; rotate_left; (with_reducible assumption))))⟩
  · by_cases h2 : b < a
    · go_wp2_with fail
      go_ret
      exact ⟨ret_int (cmpI_gt (by omega)).symm, (by repeat (first | (with_reducible assumption) | (with_reducible exact Gw.rfl' _) | (with_reducible exact Gw.new _ _) | (with_reducible refine Gw.allocx ?_ _) | (with_reducible refine Gw.drew' ?_) | (with_reducible refine Gw.drewNx ?_ _) | (with_reducible refine Gw.then (b := ?_) ?_ ?_; rotate_left; rotate_left; (with_reducible assumption))))⟩
    · go_wp2_with fail
      go_ret
      exact ⟨ret_int (cmpI_eq (by omega) (by omega)).symm, (by repeat (first | (with_reducible assumption) | (with_reducible exact Gw.rfl' _) | (with_reducible exact Gw.new _ _) | (with_reducible refine Gw.allocx ?_ _) | (with_reducible refine Gw.drew' ?_) | (with_reducible refine Gw.drewNx ?_ _) | (with_reducible refine Gw.then (b := ?_) ?_ ?_; rotate_left; rotate_left; (with_reducible assumption))))⟩
set_option maxHeartbeats 400000 in
theorem keyOf_g (v : Val) (w : World) (h1 : I64 v.attr) (h2 : I64 v.n.num) (h3 : I64 v.n.den) :
    Calls Tryz.prog 67 #[.agg #[.int .i64 v.attr, .int .i64 v.n.num, .int .i64 v.n.den]] w (RetG w (.agg #[.int .i64 v.attr, .int .i64 v.n.num, .int .i64 v.n.den])) := by
  go_enter Tryz.func67, Tryz.ntmps67
  go_wp2_with fail
  exact bodyPost_ret (v := .agg #[.int .i64 v.attr, .int .i64 v.n.num, .int .i64 v.n.den]) (by simp [results, Tryz.results67, go_sem]) rfl ⟨rfl, (by repeat (first | (with_reducible assumption) | (with_reducible exact Gw.rfl' _) | (with_reducible exact Gw.new _ _) | (with_reducible refine Gw.allocx ?_ _) | (with_reducible refine Gw.drew' ?_) | (with_reducible refine Gw.drewNx ?_ _) | (with_reducible refine Gw.then (b := ?_) ?_ ?_; rotate_left; rotate_left; (with_reducible assumption))))⟩
set_option maxHeartbeats 1000000 in
theorem slicesCompare_g (vs ws : Value) (xs ys : List Int) (w : World) (hr : IntsR (ph w) vs xs) (hs : IntsR (ph w) ws ys) :
    Calls Tryz.prog 68 #[vs, ws] w (RetG w (.int .i64 (cmpL cmpI xs ys))) := by
  obtain ⟨a, c, rfl, hlen, hr⟩ := hr.form
  obtain ⟨a', c', rfl, hlen', hs⟩ := hs.form
  have hcD := Lib.hid (fun k h => cmpL_done (f := cmpI) (xs := xs) (ys := ys) (k := k) h)
  go_enter Tryz.func68, Tryz.ntmps68
  go_wp2_with fail
  go_loopw [11] (fun i wr => ∃ k : Nat, k ≤ xs.length ∧ k ≤ ys.length ∧ i = .int .i64 k ∧ Hid (zeroUpto cmpI xs ys k) ∧ Gw w wr) (fun i _ => xs.length - (intOf i).toNat)
  case atStart => exact ⟨0, Nat.zero_le _, Nat.zero_le _, rfl, Lib.hid (fun j _ _ h => by omega), (by repeat (first | (with_reducible assumption) | (with_reducible exact Gw.rfl' _) | (with_reducible exact Gw.new _ _) | (with_reducible refine Gw.allocx ?_ _) | (with_reducible refine Gw.drew' ?_) | (with_reducible refine Gw.drewNx ?_ _) | (with_reducible refine Gw.then (b := ?_) ?_ ?_; rotate_left; rotate_left; (with_reducible assumption))))⟩
  case round =>
    obtain ⟨k, hk, hk', rfl, HZ, hb⟩ := hrel
    by_cases hx : k < xs.length
    · obtain ⟨b, o, rfl, h0, hi, hbl⟩ := IntsR.at (hr.mono mono_IntR hb.ext.ple) k hx
      by_cases hy : k < ys.length
      · obtain ⟨b', o', rfl, h0', hi', hbl'⟩ := IntsR.at (hs.mono mono_IntR hb.ext.ple) k hy
        have hsucc := Lib.hid (fun h => zeroUpto_succ HZ.out hx hy h)
        have hat := Lib.hid (fun h => cmpL_at hx hy HZ.out h)
        generalize xs[k] = x at *
        generalize ys[k] = y at *
        clear hr hs
        go_wp2_with fail
        refine RetG_at (cmpI_g x y _) ?_
        intro w2 hb2
        by_cases hz : cmpI x y = 0
        · have hzb : (cmpI x y == 0) = true := by simpa using hz
          replace hz := Lib.hid hz
          generalize cmpI x y = z at *
          go_wp2_with fail
          go_roundw
          case rel => exact ⟨k + 1, by omega, by omega, by go_num, Lib.hid (hsucc.out hz.out), (by repeat (first | (with_reducible assumption) | (with_reducible exact Gw.rfl' _) | (with_reducible exact Gw.new _ _) | (with_reducible refine Gw.allocx ?_ _) | (with_reducible refine Gw.drew' ?_) | (with_reducible refine Gw.drewNx ?_ _) | (with_reducible refine Gw.then (b := ?_) ?_ ?_; rotate_left; rotate_left; (with_reducible assumption))))⟩
          case measure => simp [intOf]; omega
        · have hzb : (cmpI x y == 0) = false := by simpa using hz
          replace hz := Lib.hid hz
          generalize cmpI x y = z at *
          go_wp2_with fail
          go_ret
          exact ⟨ret_int (hat.out hz.out).symm, (by repeat (first | (with_reducible assumption) | (with_reducible exact Gw.rfl' _) | (with_reducible exact Gw.new _ _) | (with_reducible refine Gw.allocx ?_ _) | (with_reducible refine Gw.drew' ?_) | (with_reducible refine Gw.drewNx ?_ _) | (with_reducible refine Gw.then (b := ?_) ?_ ?_; rotate_left; rotate_left; (with_reducible assumption))))⟩
      · have hd := Lib.hid (hcD.out k HZ.out (.inr hy))
        have hgt := Lib.hid (cmpI_gt (a := xs.length) (b := ys.length) (by omega))
        clear hr hs
        go_wp2_with fail
        go_ret
        exact ⟨ret_int (by rw [hd.out, hgt.out]), (by repeat (first | (with_reducible assumption) | (with_reducible exact Gw.rfl' _) | (with_reducible exact Gw.new _ _) | (with_reducible refine Gw.allocx ?_ _) | (with_reducible refine Gw.drew' ?_) | (with_reducible refine Gw.drewNx ?_ _) | (with_reducible refine Gw.then (b := ?_) ?_ ?_; rotate_left; rotate_left; (with_reducible assumption))))⟩
    · have hd := Lib.hid (hcD.out k HZ.out (.inl hx))
      clear hr hs
      by_cases hlt : xs.length < ys.length
      · have hgt := Lib.hid (cmpI_lt (a := xs.length) (b := ys.length) (by omega))
        go_wp2_with fail
        go_ret
        exact ⟨ret_int (by rw [hd.out, hgt.out]), (by repeat (first | (with_reducible assumption) | (with_reducible exact Gw.rfl' _) | (with_reducible exact Gw.new _ _) | (with_reducible refine Gw.allocx ?_ _) | (with_reducible refine Gw.drew' ?_) | (with_reducible refine Gw.drewNx ?_ _) | (with_reducible refine Gw.then (b := ?_) ?_ ?_; rotate_left; rotate_left; (with_reducible assumption))))⟩
      · have hgt := Lib.hid (cmpI_eq (a := xs.length) (b := ys.length) (by omega) (by omega))
        go_wp2_with fail
        go_ret
        exact ⟨ret_int (by rw [hd.out, hgt.out]), (by repeat (first | (with_reducible assumption) | (with_reducible exact Gw.rfl' _) | (with_reducible exact Gw.new _ _) | (with_reducible refine Gw.allocx ?_ _) | (with_reducible refine Gw.drew' ?_) | (with_reducible refine Gw.drewNx ?_ _) | (with_reducible refine Gw.then (b := ?_) ?_ ?_; rotate_left; rotate_left; (with_reducible assumption))))⟩
set_option maxRecDepth 100000 in
set_option maxHeartbeats 1000000 in
theorem compareValues_g (x y : Val) (w : World) (hx : VOk x) (hy : VOk y) : Calls Tryz.prog 40 #[.agg #[.int .i64 x.attr, .int .i64 x.n.num, .int .i64 x.n.den], .agg #[.int .i64 y.attr, .int .i64 y.n.num, .int .i64 y.n.den]] w (RetG w (.int .i64 (cmpV x y))) := by
  obtain ⟨x1, x2, x3⟩ := hx
  obtain ⟨y1, y2, y3⟩ := hy
  have hcv : Hid (cmpV x y = cmpL cmpI [x.attr, x.n.num, x.n.den] [y.attr, y.n.num, y.n.den]) := rfl
  go_enter Tryz.func40, Tryz.ntmps40
  go_wp2_with fail
  refine Gg.wp_region_D 6 [5, 6] (by kernel_rfl) (by kernel_rfl) (by kernel_rfl) ?_
  simp only [List.toList_toArray, List.take_succ_cons, List.take_zero, List.drop_succ_cons, List.drop_zero]
  (refine Gg.walkI_is (u := ?_) rfl (by simp) rfl ?_ ?_; rotate_left; (focus (intro A w' hS hA K hK; (simp only [List.map_cons, List.map_nil, Gg.knows, Gg.Is, Op.operands, Call.operands, List.lookup_cons, List.lookup_nil, Nat.reduceBEq, Bool.false_eq_true, if_false, if_true, Act.eval, Array.getD_eq_getD_getElem?, List.getElem?_toArray, List.getElem?_cons_succ, List.getElem?_cons_zero, Option.getD_some, and_true, true_and, List.append_toArray, List.nil_append, List.cons_append, List.toList_toArray, Array.toList_append, Option.toArray, List.append_nil] at hA); first | fail | (obtain ⟨hSc, hSf, hSs⟩ := hS.ext.cells; go_simp; exact hK _ (by first | exact Gw.rfl' _ | exact Gw.new _ _ | assumption)))); (try simp only [List.nil_append, List.cons_append]))
  (refine Gg.walkI_is (u := ?_) rfl (by simp) rfl ?_ ?_; rotate_left; (focus (intro A w' hS hA K hK; (simp only [List.map_cons, List.map_nil, Gg.knows, Gg.Is, Op.operands, Call.operands, List.lookup_cons, List.lookup_nil, Nat.reduceBEq, Bool.false_eq_true, if_false, if_true, Act.eval, Array.getD_eq_getD_getElem?, List.getElem?_toArray, List.getElem?_cons_succ, List.getElem?_cons_zero, Option.getD_some, and_true, true_and, List.append_toArray, List.nil_append, List.cons_append, List.toList_toArray, Array.toList_append, Option.toArray, List.append_nil] at hA); first | (go_simp; refine RetG_at (keyOf_g x _ x1 x2 x3) ?_; intro w'' hbx; exact hK _ hbx) | (obtain ⟨hSc, hSf, hSs⟩ := hS.ext.cells; go_simp; exact hK _ (by first | exact Gw.rfl' _ | exact Gw.new _ _ | assumption)))); (try simp only [List.nil_append, List.cons_append]))
  (refine Gg.walkI_is (u := ?_) rfl (by simp) rfl ?_ ?_; rotate_left; (focus (intro A w' hS hA K hK; (simp only [List.map_cons, List.map_nil, Gg.knows, Gg.Is, Op.operands, Call.operands, List.lookup_cons, List.lookup_nil, Nat.reduceBEq, Bool.false_eq_true, if_false, if_true, Act.eval, Array.getD_eq_getD_getElem?, List.getElem?_toArray, List.getElem?_cons_succ, List.getElem?_cons_zero, Option.getD_some, and_true, true_and, List.append_toArray, List.nil_append, List.cons_append, List.toList_toArray, Array.toList_append, Option.toArray, List.append_nil] at hA); first | fail | (obtain ⟨hSc, hSf, hSs⟩ := hS.ext.cells; go_simp; exact hK _ (by first | exact Gw.rfl' _ | exact Gw.new _ _ | assumption)))); (try simp only [List.nil_append, List.cons_append]))
  (refine Gg.walkI_is (u := ?_) rfl (by simp) rfl ?_ ?_; rotate_left; (focus (intro A w' hS hA K hK; (simp only [List.map_cons, List.map_nil, Gg.knows, Gg.Is, Op.operands, Call.operands, List.lookup_cons, List.lookup_nil, Nat.reduceBEq, Bool.false_eq_true, if_false, if_true, Act.eval, Array.getD_eq_getD_getElem?, List.getElem?_toArray, List.getElem?_cons_succ, List.getElem?_cons_zero, Option.getD_some, and_true, true_and, List.append_toArray, List.nil_append, List.cons_append, List.toList_toArray, Array.toList_append, Option.toArray, List.append_nil] at hA); first | (go_simp; refine RetG_at (keyOf_g y _ y1 y2 y3) ?_; intro w'' hbx; exact hK _ hbx) | (obtain ⟨hSc, hSf, hSs⟩ := hS.ext.cells; go_simp; exact hK _ (by first | exact Gw.rfl' _ | exact Gw.new _ _ | assumption)))); (try simp only [List.nil_append, List.cons_append]))
  refine Gg.walkI_new (NewBox w #[.int .i64 0, .int .i64 0, .int .i64 0] 90) rfl (by simp) rfl (stab_NewBoxG _ _ _) ?_ ?_
  · intro A w' hS hA K hK
    go_simp
    have hs := hS.size
    simp at hs
    exact hK _ _ (Gw.new _ _) ⟨_, rfl, Own.new _ _ _, by omega⟩ (fun g e => by cases e; simp)
  simp only [List.nil_append, List.cons_append]
  refine Gg.walkI_new (NewBox w #[.int .i64 0, .int .i64 0, .int .i64 0] 90) rfl (by simp) rfl (stab_NewBoxG _ _ _) ?_ ?_
  · intro A w' hS hA K hK
    go_simp
    have hs := hS.size
    simp at hs
    exact hK _ _ (Gw.new _ _) ⟨_, rfl, Own.new _ _ _, by omega⟩ (fun g e => by cases e; simp)
  (refine Gg.walkI_nil ?_; simp only [List.nil_append, List.cons_append, Gg.fins, Gg.Is, forall_eq, Act.put, List.setIfInBounds_toArray, List.set_cons_zero, List.set_cons_succ])
  rintro w2 hb2 v5 ⟨g5, rfl, ho5, hg5⟩ v6 ⟨g6, rfl, ho6, hg6⟩ hdist
  have hne : g5 ≠ g6 := hdist 5 (by simp) 6 (by simp) (by decide) g5 g6 rfl rfl
  have hb : Gw w w2 := (by repeat (first | (with_reducible assumption) | (with_reducible exact Gw.rfl' _) | (with_reducible exact Gw.new _ _) | (with_reducible refine Gw.allocx ?_ _) | (with_reducible refine Gw.drew' ?_) | (with_reducible refine Gw.drewNx ?_ _) | (with_reducible refine Gw.then (b := ?_) ?_ ?_; rotate_left; rotate_left; (with_reducible assumption))))
  obtain ⟨q1, q2⟩ := ho5.facts
  obtain ⟨r1, r2⟩ := ho6.facts
  have q3 := ho5.lt
  have r3 := ho6.lt
  clear hb2 hdist
  go_upto_region 2 with (fail)
  have h5 : Own _ g5 #[.int .i64 x.attr, .int .i64 x.n.num, .int .i64 x.n.den] 90 := (((((ho5.set 0 (.int .i64 x.attr)).set 1 (.int .i64 x.n.num)).set 2 (.int .i64 x.n.den)).setOther (p := ⟨g6, 0, none⟩) hne (.int .i64 y.attr)).setOther (p := ⟨g6, 1, none⟩) hne (.int .i64 y.n.num)).setOther (p := ⟨g6, 2, none⟩) hne (.int .i64 y.n.den)
  have h6 : Own _ g6 #[.int .i64 y.attr, .int .i64 y.n.num, .int .i64 y.n.den] 90 := (((((ho6.setOther (p := ⟨g5, 0, none⟩) (Ne.symm hne) (.int .i64 x.attr)).setOther (p := ⟨g5, 1, none⟩) (Ne.symm hne) (.int .i64 x.n.num)).setOther (p := ⟨g5, 2, none⟩) (Ne.symm hne) (.int .i64 x.n.den)).set 0 (.int .i64 y.attr)).set 1 (.int .i64 y.n.num)).set 2 (.int .i64 y.n.den)
  have hb' := (((((hb.set' (p := ⟨g5, 0, none⟩) hg5 (.int .i64 x.attr)).set' (p := ⟨g5, 1, none⟩) hg5 (.int .i64 x.n.num)).set' (p := ⟨g5, 2, none⟩) hg5 (.int .i64 x.n.den)).set' (p := ⟨g6, 0, none⟩) hg6 (.int .i64 y.attr)).set' (p := ⟨g6, 1, none⟩) hg6 (.int .i64 y.n.num)).set' (p := ⟨g6, 2, none⟩) hg6 (.int .i64 y.n.den)
  clear ho5 ho6 hb q1 q2 q3 r1 r2 r3
  generalize (((((w2.setCell _ _).setCell _ _).setCell _ _).setCell _ _).setCell _ _).setCell _ _ = W at *
  have e5 : Hid (IntsR (ph W) (.slice (some ⟨g5, 0, none⟩) 3 3) [x.attr, x.n.num, x.n.den]) := sliceArr h5 (cells3 x1 x2 x3) rfl (by simp [maxLen])
  have e6 : Hid (IntsR (ph W) (.slice (some ⟨g6, 0, none⟩) 3 3) [y.attr, y.n.num, y.n.den]) := sliceArr h6 (cells3 y1 y2 y3) rfl (by simp [maxLen])
  clear h5 h6
  (refine Gg.wp_region_I 3 (by kernel_rfl) (by kernel_rfl) ?_; simp only [List.toList_toArray, List.take_succ_cons, List.take_zero, List.drop_succ_cons, List.drop_zero])
  iterate 2 (refine Gg.walkI_is (u := ?_) rfl (by simp) rfl ?_ ?_; rotate_left; (focus (intro A w' hS hA K hK; (simp only [List.map_cons, List.map_nil, Gg.knows, Gg.Is, Op.operands, Call.operands, List.lookup_cons, List.lookup_nil, Nat.reduceBEq, Bool.false_eq_true, if_false, if_true, Act.eval, Array.getD_eq_getD_getElem?, List.getElem?_toArray, List.getElem?_cons_succ, List.getElem?_cons_zero, Option.getD_some, and_true, true_and, List.append_toArray, List.nil_append, List.cons_append, List.toList_toArray, Array.toList_append, Option.toArray, List.append_nil] at hA); first | fail | (obtain ⟨hSc, hSf, hSs⟩ := hS.ext.cells; go_simp; exact hK _ (by first | exact Gw.rfl' _ | exact Gw.new _ _ | assumption)))); (try simp only [List.nil_append, List.cons_append]))
  (refine Gg.walkI_is (u := ?_) rfl (by simp) rfl ?_ ?_; rotate_left; (focus (intro A w' hS hA K hK; (simp only [List.map_cons, List.map_nil, Gg.knows, Gg.Is, Op.operands, Call.operands, List.lookup_cons, List.lookup_nil, Nat.reduceBEq, Bool.false_eq_true, if_false, if_true, Act.eval, Array.getD_eq_getD_getElem?, List.getElem?_toArray, List.getElem?_cons_succ, List.getElem?_cons_zero, Option.getD_some, and_true, true_and, List.append_toArray, List.nil_append, List.cons_append, List.toList_toArray, Array.toList_append, Option.toArray, List.append_nil] at hA); first | (go_simp; refine RetG_at (slicesCompare_g _ _ _ _ _ (e5.out.mono mono_IntR hS.ext.ple) (e6.out.mono mono_IntR hS.ext.ple)) ?_; intro w'' hbx; exact hK _ hbx) | (obtain ⟨hSc, hSf, hSs⟩ := hS.ext.cells; go_simp; exact hK _ (by first | exact Gw.rfl' _ | exact Gw.new _ _ | assumption)))); (try simp only [List.nil_append, List.cons_append]))
  (refine Gg.walkI_nil ?_; simp only [List.nil_append, List.cons_append, Gg.fins, Gg.Is, forall_eq, Act.put, List.setIfInBounds_toArray, List.set_cons_zero, List.set_cons_succ])
  intro w3 hb3
  rw [← hcv.out]
  generalize cmpV x y = z at *
  go_wp2_with fail
  go_ret
  exact ⟨rfl, (by repeat (first | (with_reducible assumption) | (with_reducible exact Gw.rfl' _) | (with_reducible exact Gw.new _ _) | (with_reducible refine Gw.allocx ?_ _) | (with_reducible refine Gw.drew' ?_) | (with_reducible refine Gw.drewNx ?_ _) | (with_reducible refine Gw.then (b := ?_) ?_ ?_; rotate_left; rotate_left; (with_reducible assumption))))⟩
end Go.Proofs.YtnhcplmcddlgnaaGreat
namespace Go.Proofs.YtnhcplmcddlgnaaGreat
open Go.RowKit Go.Shelf Go.Lib Go.Sort
set_option linter.unusedSimpArgs false
set_option linter.unusedVariables false
set_option linter.unusedSectionVars false
/-- a value whose numbers are machine numbers -/
structure VlT where
  v : Val
  ok : VOk v
def encVl (x : VlT) : List Value := valC x.v
instance instVlT : Inhabited VlT := ⟨⟨⟨0, ⟨0, 0⟩⟩, by simp [VOk, I64]⟩⟩
def cmpVT (x y : VlT) : Int := cmpV x.v y.v
theorem swoVl : SWO (ltOf cmpVT) where
  irrefl x := by unfold ltOf cmpVT; rw [((cmpV_ord x.v).eq x.v).2 rfl]; rfl
  trans x y z h1 h2 := by
    unfold ltOf at *
    have h1 := of_decide_eq_true h1
    have h2 := of_decide_eq_true h2
    unfold cmpVT at *
    refine decide_eq_true ?_
    have a1 := (cmpV_ord x.v).tr y.v z.v (by omega) (by omega)
    rcases Int.lt_or_eq_of_le a1 with h | h
    · exact h
    · have e := ((cmpV_ord x.v).eq z.v).1 h
      rw [← e] at h2
      have := (cmpV_ord x.v).opp y.v
      omega
  ntrans x y z h1 h2 := by
    unfold ltOf at *
    have h1 := of_decide_eq_false h1
    have h2 := of_decide_eq_false h2
    unfold cmpVT at *
    refine decide_eq_false fun h3 => ?_
    have n1 := (cmpV_ord x.v).opp y.v
    have n2 := (cmpV_ord y.v).opp z.v
    have n3 := (cmpV_ord x.v).opp z.v
    have := (cmpV_ord z.v).tr y.v x.v (by omega) (by omega)
    omega
def VTR (_ : PH) (cs : List Value) (x : VlT) : Prop := cs = encVl x
theorem cells_VT {H : PH} : ∀ {xs : List Val} {c : List Value}, Cells H ValR 3 c xs → ∃ ts : List VlT, ts.map VlT.v = xs ∧ Cells H VTR 3 c ts
  | [], c, h => ⟨[], rfl, h⟩
  | x :: xs, c, h => by
    obtain ⟨cs, rest, rfl, h1, h2, h3⟩ := h
    obtain ⟨ts, e, h4⟩ := cells_VT h3
    exact ⟨⟨x, h2.2⟩ :: ts, by rw [List.map_cons, e], _, rest, rfl, h1, h2.1, h4⟩
theorem cells_VF {H : PH} : ∀ {ts : List VlT} {c : List Value}, Cells H VTR 3 c ts → Cells H ValR 3 c (ts.map VlT.v)
  | [], c, h => h
  | x :: ts, c, h => by
    obtain ⟨cs, rest, rfl, h1, rfl, h3⟩ := h
    exact ⟨_, rest, rfl, h1, ⟨rfl, x.ok⟩, cells_VF h3⟩
theorem one_encVl (x : VlT) : ∀ v ∈ encVl x, v.oneCell' = true := one_valC x.v
def SortVP (H : PH) (w : World) (v : Value) (xs : List Val) (e : Ending) (w' : World) : Prop :=
  e = .returned (.tuple #[]) ∧ ∃ xs', xs'.Perm xs ∧ xs'.Pairwise (fun x y : Val => cmpV x y ≤ 0) ∧ OwnC H w' ValR 3 46 v xs' ∧ w.grownBy w' v.ownBlock
set_option maxHeartbeats 1000000 in
theorem sortVl_c (H : PH) (v : Value) (xs : List Val) (w : World) (hl : PLe H (ph w)) (hb : ∀ k, v.ownBlock = some k → H k = none) (hO : OwnC H w ValR 3 46 v xs) (hn : xs.length ≤ 1000000) :
    Calls Tryz.prog 39 #[v, .func (.func 40) #[] #[]] w (SortVP H w v xs) := by
  rcases hO with ⟨rfl, rfl⟩ | ⟨g, cap, cur, rfl, hg, h1, h2, h3, h4⟩
  · have hS := AnyF.slices_SortFunc_none (P := Tryz.prog) (ρ := sSortVl_ren) { sSortVl with } none 0 (.func (.func 40) #[] #[]) w
    change Calls Tryz.prog 39 _ _ _ at hS
    refine hS.mono ?_
    rintro e w' ⟨rfl, rfl⟩
    exact ⟨rfl, [], List.Perm.refl _, List.Pairwise.nil, .inl ⟨rfl, rfl⟩, ⟨rfl, rfl, rfl, Nat.le_refl _, fun _ _ _ => rfl⟩⟩
  · have hgn : H g = none := hb g rfl
    obtain ⟨ts, rfl, h4⟩ := cells_VT h4
    simp only [List.length_map] at *
    have hlt : g < w.heap.size := (Array.getElem?_eq_some_iff.1 hg).1
    have hmul : ts.length * 3 ≤ cap * 3 := Nat.mul_le_mul_right _ h1
    obtain ⟨r1, r2⟩ := cells_flat encVl 3 (fun _ _ h => h) h4
    have hH : HoldsK encVl 3 w g 0 ts.toArray := by
      intro j hj
      rw [size_flatK] at hj
      have hj' : j < ts.length * 3 := by simpa using hj
      rw [Nat.zero_add]
      refine ⟨?_, by simp [World.frozen?, hg]⟩
      rw [show w.cell? ⟨g, j, none⟩ = cur[j]? by simp [World.cell?, hg]]
      have e1 : cur[j]? = (cur.toList.take (ts.length * 3))[j]? := by rw [List.getElem?_take, if_pos hj']; simp
      rw [e1, r1, flatK_eq encVl 3 (fun _ => rfl), id]
      have hl : j < (ts.flatMap encVl).length := by rw [gflat_len encVl 3 (fun _ => rfl)]; exact hj'
      simp
      rw [List.getElem?_eq_getElem hl]; rfl
    have eg : ∀ args w, (callFunc 40 args).run Tryz.prog w = .ok (.enter 40 args) w := enters_of Tryz.func40 (by kernel_rfl) rfl
    have hcon := AnyQ.slices_SortFunc sSortVl 3 Tryz.isAgg46 Tryz.sizeOf46 encVl (fun _ => rfl) (fun x v hv => one_encVl x v (by simpa using hv)) cmpVT swoVl 40 #[] g 0 cap ts.toArray w eg
      (fun m os dk hs x y => compareValues_g x.v y.v _ x.ok y.ok) hH hlt (by simp; omega)
    change Calls Tryz.prog 39 _ _ _ at hcon
    rw [show ts.toArray.size = ts.length by simp] at hcon
    refine hcon.mono ?_
    rintro e w' ⟨rfl, d', n, os, ⟨hp1, -, hp2⟩, hs, rfl⟩
    have hp : d'.toList.Perm ts := by
      have : d'.size = ts.length := by simpa using hp1
      have e2 : (ts.toArray.extract 0 ts.length).toList = ts := by simp
      have e3 : (d'.extract 0 ts.length).toList = d'.toList := by rw [← this]; simp
      rw [e2, e3] at hp2
      exact hp2
    have hd : d'.size = ts.length := by simpa using hp.length_eq
    obtain ⟨o1, o2⟩ := sorted_own (os := os) (n := n) (E := VTR) (H := H) encVl 3 (fun _ => rfl) (fun _ _ h => h) hg h1 h2 h3 h4 hp
    refine ⟨rfl, d'.toList.map VlT.v, hp.map _, ?_, ?_, o2⟩
    · rw [List.pairwise_map, List.pairwise_iff_getElem]
      intro i j hi hj hij
      have hj' : j < d'.size := by simpa using hj
      have := hs i j (Nat.zero_le _) hij (by omega)
      rw [getElem!_pos d' j hj', getElem!_pos d' i (by omega)] at this
      have this := of_decide_eq_false this
      unfold cmpVT at this
      simp only [Array.getElem_toList]
      have e := (cmpV_ord (d'[i]'(by omega)).v).opp (d'[j]'(by omega)).v
      generalize cmpV (d'[i]'(by omega)).v (d'[j]'(by omega)).v = z at *
      generalize cmpV (d'[j]'(by omega)).v (d'[i]'(by omega)).v = z' at *
      omega
    · rcases o1 with ⟨e, -⟩ | ⟨g', cap', cur', e, k1, k2, k3, k4, k5⟩
      · cases e
      · simp only [Value.slice.injEq, Option.some.injEq, Addr.mk.injEq, true_and, and_true] at e
        obtain ⟨rfl, e2, rfl⟩ := e
        refine .inr ⟨g, cap, cur', ?_, k1, by rw [List.length_map]; exact k2, k3, k4, ?_⟩
        · rw [List.length_map, hp.length_eq]
        · rw [List.length_map]; exact cells_VF k5
end Go.Proofs.YtnhcplmcddlgnaaGreat
namespace Go.Proofs.YtnhcplmcddlgnaaGreat
open Go.Shelf
def soInt_ren : Go.Shelf.Ren := ⟨fun | 189 => 37 | 125 => 65 | 257 => 64 | 128 => 86 | 129 => 87 | 294 => 77 | 295 => 78 | 296 => 79 | 297 => 80 | 298 => 81 | 299 => 82 | 216 => 83 | 300 => 84 | 301 => 85 | 328 => 104 | 329 => 105 | 330 => 106 | 331 => 107 | 332 => 108 | 215 => 75 | 343 => 114 | n => n, fun | 28 => 22 | 3 => 3 | 46 => 84 | 0 => 0 | 51 => 109 | 53 => 111 | 4 => 4 | 183 => 101 | 182 => 100 | 131 => 106 | 5 => 5 | 9 => 9 | 218 => 123 | 222 => 127 | 228 => 132 | 229 => 133 | n => n, fun | n => n⟩
theorem soInt : Go.Proofs.Lays.n189 Tryz.prog soInt_ren := {
  mixed := by kernel_rfl
  f125 := Tryz.func65.trans (congrArg some (by kernel_rfl))
  f128 := Tryz.func86.trans (congrArg some (by kernel_rfl))
  f129 := Tryz.func87.trans (congrArg some (by kernel_rfl))
  f189 := Tryz.func37.trans (congrArg some (by kernel_rfl))
  f215 := Tryz.func75.trans (congrArg some (by kernel_rfl))
  f216 := Tryz.func83.trans (congrArg some (by kernel_rfl))
  f257 := Tryz.func64.trans (congrArg some (by kernel_rfl))
  f294 := Tryz.func77.trans (congrArg some (by kernel_rfl))
  f295 := Tryz.func78.trans (congrArg some (by kernel_rfl))
  f296 := Tryz.func79.trans (congrArg some (by kernel_rfl))
  f297 := Tryz.func80.trans (congrArg some (by kernel_rfl))
  f298 := Tryz.func81.trans (congrArg some (by kernel_rfl))
  f299 := Tryz.func82.trans (congrArg some (by kernel_rfl))
  f300 := Tryz.func84.trans (congrArg some (by kernel_rfl))
  f301 := Tryz.func85.trans (congrArg some (by kernel_rfl))
  f328 := Tryz.func104.trans (congrArg some (by kernel_rfl))
  f329 := Tryz.func105.trans (congrArg some (by kernel_rfl))
  f330 := Tryz.func106.trans (congrArg some (by kernel_rfl))
  f331 := Tryz.func107.trans (congrArg some (by kernel_rfl))
  f332 := Tryz.func108.trans (congrArg some (by kernel_rfl))
  f343 := Tryz.func114.trans (congrArg some (by kernel_rfl))
  t0 := Tryz.underlying0
  a0 := Tryz.isAgg0
  z0 := Tryz.sizeOf0
  v0 := Tryz.zeroValue0
  t3 := Tryz.underlying3
  a3 := Tryz.isAgg3
  z3 := Tryz.sizeOf3
  v3 := Tryz.zeroValue3
  t4 := Tryz.underlying4
  a4 := Tryz.isAgg4
  z4 := Tryz.sizeOf4
  v4 := Tryz.zeroValue4
  t5 := Tryz.underlying5
  a5 := Tryz.isAgg5
  z5 := Tryz.sizeOf5
  v5 := Tryz.zeroValue5
  t9 := Tryz.underlying9
  a9 := Tryz.isAgg9
  z9 := Tryz.sizeOf9
  v9 := Tryz.zeroValue9
  t28 := Tryz.underlying22
  a28 := Tryz.isAgg22
  z28 := Tryz.sizeOf22
  v28 := Tryz.zeroValue22
  t46 := Tryz.underlying84
  a46 := Tryz.isAgg84
  z46 := Tryz.sizeOf84
  v46 := Tryz.zeroValue84
  t51 := Tryz.underlying109
  a51 := Tryz.isAgg109
  z51 := Tryz.sizeOf109
  v51 := Tryz.zeroValue109
  t53 := Tryz.underlying111
  a53 := Tryz.isAgg111
  z53 := Tryz.sizeOf111
  v53 := Tryz.zeroValue111
  t131 := Tryz.underlying106
  a131 := Tryz.isAgg106
  z131 := Tryz.sizeOf106
  v131 := Tryz.zeroValue106
  t182 := Tryz.underlying100
  a182 := Tryz.isAgg100
  z182 := Tryz.sizeOf100
  v182 := Tryz.zeroValue100
  t183 := Tryz.underlying101
  a183 := Tryz.isAgg101
  z183 := Tryz.sizeOf101
  v183 := Tryz.zeroValue101
  t218 := Tryz.underlying123
  a218 := Tryz.isAgg123
  z218 := Tryz.sizeOf123
  v218 := Tryz.zeroValue123
  t222 := Tryz.underlying127
  a222 := Tryz.isAgg127
  z222 := Tryz.sizeOf127
  v222 := Tryz.zeroValue127
  t228 := Tryz.underlying132
  a228 := Tryz.isAgg132
  z228 := Tryz.sizeOf132
  v228 := Tryz.zeroValue132
  t229 := Tryz.underlying133
  a229 := Tryz.isAgg133
  z229 := Tryz.sizeOf133
  v229 := Tryz.zeroValue133 }
end Go.Proofs.YtnhcplmcddlgnaaGreat
namespace Go.Proofs.YtnhcplmcddlgnaaGreat
open Go.RowKit Go.Shelf Go.Sort
set_option linter.unusedSimpArgs false
set_option linter.unusedVariables false
theorem cellsI {h : PH} : ∀ (l : List Int), (∀ x ∈ l, I64 x) → Cells h IntR 1 (l.map (Value.int .i64)) l
  | [], _ => rfl
  | x :: l, hx => ⟨[.int .i64 x], l.map (Value.int .i64), rfl, rfl, ⟨rfl, hx x (by simp)⟩, cellsI l fun y hy => hx y (by simp [hy])⟩
theorem cellsD {h : PH} : ∀ {l : List Int} {c : List Value}, Cells h IntR 1 c l → c = l.map (Value.int .i64) ∧ ∀ x ∈ l, I64 x
  | [], c, hc => ⟨hc, by simp⟩
  | x :: l, c, hc => by
    obtain ⟨d, e, rfl, h1, ⟨rfl, h2⟩, h3⟩ := hc
    obtain ⟨rfl, h4⟩ := cellsD h3
    refine ⟨rfl, fun y hy => ?_⟩
    rcases List.mem_cons.1 hy with rfl | hy
    · exact h2
    · exact h4 y hy
theorem ownI_of {w : World} {base n : Nat} {v : Value} {l : List Int} (h : w.ownsRow base 3 1 v n (l.map (Value.int .i64))) (hx : ∀ x ∈ l, I64 x) : OwnI base w v l := by
  obtain ⟨h1, ⟨rfl, rfl⟩ | ⟨g, cap, cur, rfl, h2, h3, h4, h5, h6, h7⟩⟩ := h
  · exact .inl ⟨rfl, by simpa using h1⟩
  · have hn : l.length = n := by simpa using h1
    subst hn
    exact .inr ⟨g, cap, cur, rfl, h2, rfl, h3, h4, h5, h6, by rw [h7]; exact cellsI l hx⟩
theorem sort_i (xs : List Int) (v : Value) (base : Nat) (w : World) (h : OwnI base w v xs) (hl : xs.length ≤ 1000000) : Calls Tryz.prog 37 #[v] w (fun e w' => e = .returned (.tuple #[]) ∧ OwnI base w' v (xs.mergeSort fun x y => decide (x ≤ y)) ∧ w.grownBy w' v.ownBlock) := by
  rcases h with ⟨rfl, rfl⟩ | ⟨g, cap, cur, rfl, h1, h2, h3, h4, h5, h6, h7⟩
  · refine (Any.slices_Sort_int_none soInt none 0 w).mono ?_
    rintro e w' ⟨rfl, rfl⟩
    exact ⟨rfl, by rw [List.mergeSort_nil]; exact OwnS.nil _ _ _ _ _ _, rfl, rfl, rfl, Nat.le_refl _, fun _ _ _ => rfl⟩
  · obtain ⟨h8, h9⟩ := cellsD h7
    rw [Nat.mul_one] at h8
    have hlt : g < w.heap.size := (Array.getElem?_eq_some_iff.1 h3).1
    refine (Any.slices_Sort_int soInt g 0 cap xs w (holds_of_blockI h3 h8) hlt (by omega)).mono ?_
    rintro e w' ⟨rfl, n, os, rfl⟩
    refine ⟨rfl, ?_, grownBy_sortedI _⟩
    have h := ownsRow_sortedI (n := n) (os := os) (ts := xs.mergeSort fun x y => decide (x ≤ y)) (List.length_mergeSort _) h1 h3 h4 h5 h6
    exact ownI_of h fun x hx => h9 x (List.mem_mergeSort.1 hx)
end Go.Proofs.YtnhcplmcddlgnaaGreat
