/- Lemmas for FY, part 9: the world behind a sort of a row of one's own, in the words of chunks, and more. -/
import Derived.Shelf.SlSortCmp.WholeK
import Derived.Shelf.SlSortCmp.NoneTotal
import Derived.Sort.Grow
import Derived.Test.YtnpnjcaomakehaaGreatFY00
import Derived.Test.YtnpnjcaomakehaaGreatFY01
set_option linter.unusedSimpArgs false
set_option linter.unusedVariables false
namespace Go.Proofs.YtnpnjcaomakehaaGreat
open Go.RowKit Go.Shelf Go.Lib Go.Sort
set_option linter.unusedSectionVars false
section
variable {α : Type} [Inhabited α]
theorem gflat_get (enc : α → List Value) (k : Nat) (hk : ∀ x, (enc x).length = k) : ∀ (l : List α) (t : Nat), t < l.length * k → (l.flatMap enc)[t]? = some ((enc (l[t / k]?.getD default))[t % k]!)
  | [], t, h => by simp at h
  | x :: l, t, h => by
    have hk0 : 0 < k := Nat.pos_of_ne_zero fun e => by subst e; simp at h
    rw [List.flatMap_cons]
    by_cases ht : t < k
    · rw [List.getElem?_append_left (by rw [hk]; exact ht), Nat.div_eq_of_lt ht, Nat.mod_eq_of_lt ht]
      simp [hk, ht]
    · have hd : t / k = (t - k) / k + 1 := by rw [Nat.div_eq_sub_div hk0 (by omega)]
      have hm : t % k = (t - k) % k := by rw [Nat.mod_eq_sub_mod (by omega)]
      rw [List.getElem?_append_right (by rw [hk]; omega), hk, hd, hm, gflat_get enc k hk l (t - k) (by rw [List.length_cons, Nat.add_mul] at h; omega)]
      simp
theorem gflat_len (enc : α → List Value) (k : Nat) (hk : ∀ x, (enc x).length = k) (l : List α) : (l.flatMap enc).length = l.length * k := by
  induction l with
  | nil => simp
  | cons x l ih => rw [List.flatMap_cons, List.length_append, hk, ih, List.length_cons, Nat.add_mul]; omega
theorem flatK_eq (enc : α → List Value) (k : Nat) (hk : ∀ x, (enc x).length = k) (d : Array α) : flatK enc k d = (d.toList.flatMap enc).toArray := by
  apply Array.ext
  · simp [gflat_len enc k hk]
  · intro t h1 h2
    have h3 := gflat_get enc k hk d.toList t (by simpa using h1)
    have h4 := get_flatK enc k d t (by simpa using h1)
    rw [getElem!_pos _ t h1] at h4
    rw [h4]
    have h5 : (d.toList.flatMap enc).toArray[t]? = some ((enc (d.toList[t / k]?.getD default))[t % k]!) := by simpa using h3
    rw [Array.getElem?_eq_getElem h2] at h5
    rw [Option.some.inj h5]
    congr 2
    rw [getElem!_def]
    simp
    cases d[t / k]? <;> rfl
theorem putCells_eq (F c : Array Value) (h : F.size ≤ c.size) : putCells id 0 F c = (F.toList ++ c.toList.drop F.size).toArray := by
  apply Array.ext_getElem?
  intro t
  unfold putCells
  rw [Array.getElem?_mapIdx]
  have e : ((F.toList ++ c.toList.drop F.size).toArray)[t]? = (F.toList ++ c.toList.drop F.size)[t]? := List.getElem?_toArray
  have hFl : F.toList.length = F.size := by simp
  rw [e]
  by_cases ht : t < c.size
  · by_cases hf : t < F.size
    · rw [List.getElem?_append_left (by rw [hFl]; exact hf)]
      simp [ht, hf]
    · rw [List.getElem?_append_right (by rw [hFl]; omega), List.getElem?_drop, hFl, show F.size + (t - F.size) = t by omega]
      simp [ht, hf]
  · rw [List.getElem?_append_right (by rw [hFl]; omega), List.getElem?_drop, hFl, show F.size + (t - F.size) = t by omega]
    simp [ht]
theorem flat_cells {E : PH → List Value → α → Prop} {H : PH} (enc : α → List Value) (k : Nat) (hk : ∀ x, (enc x).length = k) : ∀ (l : List α), (∀ x ∈ l, E H (enc x) x) → Cells H E k (l.flatMap enc) l
  | [], _ => rfl
  | x :: l, h => ⟨enc x, l.flatMap enc, List.flatMap_cons, hk x, h x (by simp), flat_cells enc k hk l fun y hy => h y (by simp [hy])⟩
theorem cells_flat {E : PH → List Value → α → Prop} {H : PH} (enc : α → List Value) (k : Nat) (he : ∀ cs x, E H cs x → cs = enc x) : ∀ {l : List α} {c : List Value}, Cells H E k c l → c = l.flatMap enc ∧ ∀ x ∈ l, E H (enc x) x
  | [], c, h => ⟨h, fun x hx => by cases hx⟩
  | x :: l, c, h => by
    obtain ⟨cs, rest, rfl, h1, h2, h3⟩ := h
    obtain ⟨r1, r2⟩ := cells_flat enc k he h3
    have := he _ _ h2
    subst this
    refine ⟨by rw [List.flatMap_cons, ← r1], fun y hy => ?_⟩
    rcases List.mem_cons.1 hy with rfl | hy
    · exact h2
    · exact r2 y hy
theorem sorted_own {E : PH → List Value → α → Prop} {H : PH} {T : TypeId} {w : World} {g cap n : Nat} {cur : Array Value} {xs : List α} {d' : Array α} {os : Array Obj} (enc : α → List Value) (k : Nat) (hk : ∀ x, (enc x).length = k) (he : ∀ cs x, E H cs x → cs = enc x)
    (hg : w.heap[g]? = some (.cells cur T (0, 0))) (hx : xs.length ≤ cap) (hc : cap ≤ maxLen) (hs : cur.size = cap * k) (hC : Cells H E k (cur.toList.take (xs.length * k)) xs) (hp : d'.toList.Perm xs) :
    OwnC H (sortWorldK enc k w g 0 n d' os) E k T (.slice (some ⟨g, 0, none⟩) xs.length cap) d'.toList ∧ w.grownBy (sortWorldK enc k w g 0 n d' os) (some g) := by
  have hlt : g < w.heap.size := (Array.getElem?_eq_some_iff.1 hg).1
  have hmul : xs.length * k ≤ cap * k := Nat.mul_le_mul_right _ hx
  have hlen := hp.length_eq
  have hd : d'.size = xs.length := by simpa using hlen
  obtain ⟨-, r2⟩ := cells_flat enc k he hC
  have hblk : ∀ j, j < w.heap.size → (sortWorldK enc k w g 0 n d' os).heap[j]? = (w.heap.modify g (onCells (putCells id 0 (flatK enc k d'))))[j]? := by
    intro j hj
    show (w.heap.modify g _ ++ os)[j]? = _
    rw [Array.getElem?_append_left (by simpa using hj)]
  have hsz : w.heap.size ≤ (sortWorldK enc k w g 0 n d' os).heap.size := by
    show w.heap.size ≤ (w.heap.modify g _ ++ os).size
    simp
  refine ⟨.inr ⟨g, cap, putCells id 0 (flatK enc k d') cur, by rw [← hlen], ?_, by rw [hlen]; exact hx, hc, ?_, ?_⟩, ⟨rfl, rfl, rfl, hsz, fun j hj hne => ?_⟩⟩
  · rw [hblk g hlt, Array.getElem?_modify, if_pos rfl, hg]; rfl
  · simp [putCells, hs]
  · have hF : (flatK enc k d').size ≤ cur.size := by rw [size_flatK, hd, hs]; exact hmul
    rw [putCells_eq _ _ hF, flatK_eq enc k hk]
    have : d'.toList.length * k = (d'.toList.flatMap enc).length := (gflat_len enc k hk _).symm
    simp only [this, List.take_left']
    exact flat_cells enc k hk _ fun x hx => r2 x (hp.mem_iff.1 hx)
  · rw [hblk j hj, Array.getElem?_modify, if_neg (fun e => hne (by rw [e]))]
end
end Go.Proofs.YtnpnjcaomakehaaGreat
namespace Go.Proofs.YtnpnjcaomakehaaGreat
open Go.Sort
def Gw (a b : World) : Prop := ∃ q os, b = grow (a.drewN q) os
theorem Gw.rfl' (w : World) : Gw w w := ⟨0, #[], by rw [grow_empty]; rfl⟩
theorem Gw.then {a b c : World} (h : Gw a b) (k : Gw b c) : Gw a c := by
  obtain ⟨q, os, rfl⟩ := h
  obtain ⟨q', os', rfl⟩ := k
  refine ⟨q + q', os ++ os', ?_⟩
  simp [grow, World.drewN, Array.append_assoc, Nat.add_assoc]
theorem Gw.drew' {a b : World} (h : Gw a b) : Gw a b.drew := h.then ⟨1, #[], by rw [grow_empty]; rfl⟩
theorem Gw.new (w : World) (o : Obj) : Gw w (w.alloc o) := ⟨0, #[o], by rw [alloc_eq_grow]; rfl⟩
theorem Gw.ext {a b : World} (h : Gw a b) : Ext a b := by
  obtain ⟨q, os, rfl⟩ := h
  refine ⟨rfl, rfl, rfl, by simp [grow, World.drewN], fun k hk => ?_⟩
  show ((a.drewN q).heap ++ os)[k]? = _
  rw [Array.getElem?_append_left (by exact hk)]; rfl
theorem Gw.size {a b : World} (h : Gw a b) : a.heap.size ≤ b.heap.size := h.ext.size
end Go.Proofs.YtnpnjcaomakehaaGreat
namespace Go.Proofs.YtnpnjcaomakehaaGreat.Gg
open Go.RowKit
abbrev Prop1 := Value → World → Prop
abbrev Env := List (Tmp × Prop1)
def Stable (W : World) (R : Prop1) : Prop := ∀ v w w', Gw W w → R v w → Gw w w' → R v w'
def knows (A a : Act) (w : World) (E : Env) : List Operand → Prop
  | [] => True
  | x :: xs => (match x with
      | .tmp t => (match E.lookup t with
        | some R => R (A.eval x) w
        | none => A.eval x = a.eval x)
      | _ => A.eval x = a.eval x) ∧ knows A a w E xs
def Fr (w : World) (v : Value) (w' : World) : Prop := ∀ g, v = .pointer (some ⟨g, 0, none⟩) → w.heap.size ≤ g ∧ g < w'.heap.size
def Dist (D : List Tmp) (A : Act) : Prop := ∀ d ∈ D, ∀ d' ∈ D, d ≠ d' → ∀ g g', A.tmps.getD d undef = .pointer (some ⟨g, 0, none⟩) → A.tmps.getD d' undef = .pointer (some ⟨g', 0, none⟩) → g ≠ g'
def RunsI (P : Program) (D : List Tmp) (W : World) (a : Act) (E : Env) (o : Oper) (R : Prop1) : Prop :=
  ∀ A w, Gw W w → knows A a w E o.op.operands.toList → ∀ K : Act → World → Prop, (∀ v w', Gw w w' → R v w' → (∀ d ∈ D, o.dst = some d → Fr w v w') → K (A.put o.dst v) w') → o.wp P A w K (fun _ _ _ => False)
def doesI (P : Program) (ops : Array Oper) (D : List Tmp) (W : World) (a : Act) (E : Env) (o : Oper) (R : Prop1) : Prop :=
  (o.guard = none ∧ RunsI P D W a E o R) ∨
  ∃ g b tg Rg, o.guard = some (g, b) ∧ (ops[g]?).bind (·.dst) = some tg ∧ E.lookup tg = some Rg ∧
    ((∀ v w, Rg v w → v = .bool b) ∧ RunsI P D W a E o R ∨ (∀ v w, Rg v w → v ≠ .bool b) ∧ ∀ w, R undef w)
def fins (K : Act → World → Prop) (w : World) : Env → Act → Prop
  | [], a => K a w
  | (d, R) :: rest, a => ∀ v, R v w → fins K w rest (a.put (some d) v)
def walkI (P : Program) (ops : Array Oper) (D : List Tmp) (W : World) (a : Act) (K : Act → World → Prop) : List Oper → Env → Prop
  | [], E => ∀ w, Gw W w → fins K w E a
  | o :: rest, E => ∃ d R, o.dst = some d ∧ d < a.tmps.size ∧ Stable W R ∧ doesI P ops D W a E o R ∧ walkI P ops D W a K rest (E ++ [(d, R)])
def afters (ops : Array Oper) (i : Nat) : List Nat := match ops[i]? with
  | some o => (o.after.toList.filter (Region.binds .any)).map (·.on)
  | none => []
def need (ops : Array Oper) : Nat → Nat → Nat → Bool
  | 0, _, _ => false
  | f + 1, i, j => (afters ops i).any fun k => k == j || need ops f k j
def okPre (ops : Array Oper) (m i : Nat) : Bool := match ops[i]? with
  | some oi => (match oi.dst with
      | some d => (List.range m).all fun j => j == i || (ops[j]?).bind (·.dst) != some d
      | none => false) &&
    (oi.looksAt ops).all fun t => (List.range m).all fun j => (ops[j]?).bind (·.dst) != some t || (afters ops i).contains j
  | none => false
def okI (ops : Array Oper) (m : Nat) : Bool :=
  decide (m ≤ ops.size) && Region.noSelect ops && (List.range ops.size).all (fun i => (afters ops i).all fun j => decide (j < i)) &&
  (List.range m).all (okPre ops m) && (List.range ops.size).all (fun i => decide (i < m) || (List.range i).all fun j => need ops i i j)
section
variable {P : Program} {ops : Array Oper} {Q : Exit → Act → World → Prop}
structure StepI (P : Program) (ops : Array Oper) (D : List Tmp) (W : World) (a : Act) (E : Env) (i : Nat) (d : Tmp) (R : Prop1) : Prop where
  lt : d < a.tmps.size
  st : Stable W R
  go : ∃ o, ops[i]? = some o ∧ o.dst = some d ∧ doesI P ops D W a (E.take i) o R
theorem walkI_env {D : List Tmp} {W : World} {a : Act} {K : Act → World → Prop} : ∀ (l : List Oper) (E0 : Env), (∀ j o, l[j]? = some o → ops[E0.length + j]? = some o) → walkI P ops D W a K l E0 →
    ∃ E : Env, E.length = l.length ∧ (∀ i d R, E[i]? = some (d, R) → StepI P ops D W a (E0 ++ E) (E0.length + i) d R) ∧ ∀ w, Gw W w → fins K w (E0 ++ E) a := by
  intro l
  induction l with
  | nil => intro E0 _ h; exact ⟨[], rfl, by simp, by simpa [walkI] using h⟩
  | cons o rest ih =>
    intro E0 hl h
    obtain ⟨d, R, h1, h2, h3, h4, h5⟩ := h
    obtain ⟨E, e1, e2, e3⟩ := ih (E0 ++ [(d, R)]) (fun j o' hj => by
      have := hl (j + 1) o' (by simpa using hj)
      rw [← this]; congr 1; simp; omega) h5
    refine ⟨(d, R) :: E, by simp [e1], fun i d' R' hi => ?_, by simpa using e3⟩
    cases i with
    | zero =>
      simp only [List.getElem?_cons_zero, Option.some.injEq, Prod.mk.injEq] at hi
      obtain ⟨rfl, rfl⟩ := hi
      refine ⟨h2, h3, o, hl 0 o rfl, h1, ?_⟩
      have : (E0 ++ (d, R) :: E).take (E0.length + 0) = E0 := by simp
      rw [this]; exact h4
    | succ i =>
      have := e2 i d' R' (by simpa using hi)
      rw [List.append_assoc, List.singleton_append] at this
      have e : (E0 ++ [(d, R)]).length + i = E0.length + (i + 1) := by simp; omega
      rwa [e] at this
structure InvI (ops : Array Oper) (D : List Tmp) (m : Nat) (E : Env) (W : World) (a : Act) (listed : Array Bool) (A : Act) (w : World) : Prop where
  size : listed.size = ops.size
  clo : ∀ i, listed.getD i false = true → ∀ j ∈ afters ops i, listed.getD j false = true
  post : ∀ i, m ≤ i → listed.getD i false = false
  ext : Gw W w
  defs : A.defers = a.defers
  tsz : A.tmps.size = a.tmps.size
  same : ∀ t, (∀ i, i < m → listed.getD i false = true → (ops[i]?).bind (·.dst) ≠ some t) → A.tmps[t]? = a.tmps[t]?
  has : ∀ i d R, listed.getD i false = true → E[i]? = some (d, R) → R (A.tmps.getD d undef) w
  dlt : ∀ i d, i < m → listed.getD i false = true → (ops[i]?).bind (·.dst) = some d → d ∈ D → ∀ g, A.tmps.getD d undef = .pointer (some ⟨g, 0, none⟩) → g < w.heap.size
  dne : ∀ i j d d', i < m → j < m → i ≠ j → listed.getD i false = true → listed.getD j false = true → (ops[i]?).bind (·.dst) = some d → (ops[j]?).bind (·.dst) = some d' → d ∈ D → d' ∈ D →
    ∀ g g', A.tmps.getD d undef = .pointer (some ⟨g, 0, none⟩) → A.tmps.getD d' undef = .pointer (some ⟨g', 0, none⟩) → g ≠ g'
theorem need_listed {listed : Array Bool} (hc : ∀ i, listed.getD i false = true → ∀ j ∈ afters ops i, listed.getD j false = true) : ∀ (f i j : Nat), need ops f i j = true → (∀ k ∈ afters ops i, listed.getD k false = true) → listed.getD j false = true := by
  intro f
  induction f with
  | zero => intro i j h; simp [need] at h
  | succ f ih =>
    intro i j h hi
    simp only [need, List.any_eq_true, Bool.or_eq_true, beq_iff_eq] at h
    obtain ⟨k, hk, rfl | h⟩ := h
    · exact hi _ hk
    · exact ih k j h (hc k (hi k hk))
theorem mem_afters {i j : Nat} : j ∈ afters ops i ↔ ∃ o, ops[i]? = some o ∧ ∃ e ∈ o.after, Region.binds .any e = true ∧ e.on = j := by
  unfold afters
  cases h : ops[i]? with
  | none => simp
  | some o =>
    simp only [List.mem_map, List.mem_filter, Array.mem_toList_iff, Option.some.injEq]
    constructor
    · rintro ⟨e, ⟨h1, h2⟩, h3⟩; exact ⟨o, rfl, e, h1, h2, h3⟩
    · rintro ⟨_, rfl, e, h1, h2, h3⟩; exact ⟨e, ⟨h1, h2⟩, h3⟩
theorem ready_afters {i : Nat} {listed : Array Bool} : i ∈ Region.ready .any ops listed ↔ listed.getD i true = false ∧ (∃ o, ops[i]? = some o) ∧ ∀ j ∈ afters ops i, listed.getD j false = true := by
  rw [mem_ready]
  constructor
  · rintro ⟨h1, o, h2, h3⟩
    refine ⟨h1, ⟨o, h2⟩, fun j hj => ?_⟩
    obtain ⟨o', h4, e, h5, h6, rfl⟩ := mem_afters.1 hj
    rw [h2] at h4; cases h4
    exact h3 e h5 h6
  · rintro ⟨h1, ⟨o, h2⟩, h3⟩
    exact ⟨h1, o, h2, fun e he hb => h3 _ (mem_afters.2 ⟨o, h2, e, he, hb, rfl⟩)⟩
theorem getD_tf {listed : Array Bool} {i : Nat} (h : i < listed.size) : listed.getD i true = listed.getD i false := by
  simp [Array.getD_eq_getD_getElem?, h]
theorem env_get {E : Env} {i : Nat} (h : i < E.length) : ∃ d R, E[i]? = some (d, R) := ⟨E[i].1, E[i].2, by rw [List.getElem?_eq_getElem h]⟩
theorem lookup_getD {E : Env} {t : Tmp} {R : Prop1} (h : E.lookup t = some R) : ∃ i : Nat, E[i]? = some (t, R) := by
  induction E with
  | nil => simp at h
  | cons x xs ih =>
    obtain ⟨d, S⟩ := x
    rw [List.lookup_cons] at h
    cases hb : t == d with
    | true =>
      simp only [hb] at h
      cases h
      exact ⟨0, by simp [eq_of_beq hb]⟩
    | false =>
      simp only [hb] at h
      obtain ⟨i, hi⟩ := ih h
      exact ⟨i + 1, by simpa using hi⟩
theorem lookup_none {E : Env} {t : Tmp} (h : E.lookup t = none) : ∀ (i : Nat) (d : Tmp) (R : Prop1), E[i]? = some (d, R) → d ≠ t := by
  induction E with
  | nil => simp
  | cons x xs ih =>
    obtain ⟨d, S⟩ := x
    rw [List.lookup_cons] at h
    cases hb : t == d with
    | true => simp [hb] at h
    | false =>
      simp only [hb] at h
      intro i d' R hi
      cases i with
      | zero => simp at hi; obtain ⟨rfl, -⟩ := hi; intro e; subst e; simp at hb
      | succ i => exact ih h i d' R (by simpa using hi)
theorem wp_weaken {o : Oper} {A : Act} {w : World} {K : Act → World → Prop} (h : o.wp P A w K (fun _ _ _ => False)) : o.wp P A w K Q := by
  unfold Oper.wp at *
  generalize (execOp A.eval o).run P w = r at *
  cases r with
  | ok n w' =>
    cases n <;> simp only [Oper.upon] at h ⊢
    case enter f args =>
      refine Calls.mono h fun e w'' he => ?_
      cases e with
      | returned u => exact he
      | panicked c => exact he.elim
      | outgrown => obtain ⟨_, _, hf⟩ := he; exact hf.elim
    all_goals exact h
  | halt x w' => cases x <;> simp only [Oper.upon] at h
theorem wpAny_tail {m : Nat} (hlt : ∀ i j, j ∈ afters ops i → j < i) (hpost : ∀ i, m ≤ i → i < ops.size → ∀ j, j < i → need ops i i j = true) : ∀ (n i : Nat) (listed : Array Bool) (A : Act) (w : World), n + i = ops.size → m ≤ i → listed.size = ops.size →
    (∀ j, j < ops.size → listed.getD j false = decide (j < i)) → wpList P ops Q (ops.toList.drop i) A w → wpAny P .any ops Q n listed A w := by
  intro n
  induction n with
  | zero =>
    intro i listed A w hn hm hs hl h
    have hr : Region.ready .any ops listed = [] := by
      rw [List.eq_nil_iff_forall_not_mem]
      intro j hj
      obtain ⟨h1, ⟨o, h2⟩, -⟩ := ready_afters.1 hj
      have hj' : j < ops.size := (Array.getElem?_eq_some_iff.1 h2).1
      rw [getD_tf (by omega), hl j hj'] at h1
      simp at h1; omega
    rw [List.drop_of_length_le (by simp; omega)] at h
    exact ⟨hr, h⟩
  | succ n ih =>
    intro i listed A w hn hm hs hl h
    have hi : i < ops.size := by omega
    have hready : ∀ j, j ∈ Region.ready .any ops listed → j = i := by
      intro j hj
      obtain ⟨h1, ⟨o, h2⟩, h3⟩ := ready_afters.1 hj
      have hj' : j < ops.size := (Array.getElem?_eq_some_iff.1 h2).1
      rw [getD_tf (by omega), hl j hj'] at h1
      simp at h1
      rcases Nat.lt_or_ge i j with h4 | h4
      · have hcl : ∀ i', listed.getD i' false = true → ∀ j ∈ afters ops i', listed.getD j false = true := by
          intro i' hi' k hk
          have hk' := hlt i' k hk
          by_cases hb : i' < ops.size
          · rw [hl i' hb] at hi'
            rw [hl k (by omega)]
            simp at hi' ⊢; omega
          · simp [Array.getD_eq_getD_getElem?, Array.getElem?_eq_none (show listed.size ≤ i' by omega)] at hi'
        have := need_listed hcl j j i (hpost j (by omega) hj' i h4) h3
        rw [hl i hi] at this
        simp at this
      · omega
    have hii : i ∈ Region.ready .any ops listed := by
      rw [ready_afters]
      refine ⟨by rw [getD_tf (by omega), hl i hi]; simp, ⟨ops[i], by simp [hi]⟩, fun j hj => ?_⟩
      have := hlt i j hj
      rw [hl j (by omega)]; simp; exact this
    refine ⟨fun h0 => absurd hii (by rw [h0]; exact List.not_mem_nil), fun j hj => ?_⟩
    obtain rfl := hready j hj
    rw [List.drop_eq_getElem_cons (by simpa using hi)] at h
    have key : ∀ (A' : Act) (w' : World), wpList P ops Q (ops.toList.drop (j + 1)) A' w' → wpAny P .any ops Q n (listed.setIfInBounds j true) A' w' := by
      intro A' w' h'
      refine ih (j + 1) _ A' w' (by omega) (by omega) (by simpa using hs) (fun k hk => ?_) h'
      by_cases hkj : j = k
      · subst hkj; simp [Array.getD_eq_getD_getElem?, hs, hi]
      · rw [getD_set_ne _ hkj, hl k hk]
        simp only [decide_eq_decide]; omega
    unfold wpList at h
    unfold wpOp
    simp only [hi, getElem?_pos]
    simp only [Array.getElem_toList] at h
    split
    · rename_i hw
      rw [if_pos hw] at h
      exact h.imp (Oper.wp_mono key) id
    · rename_i hw
      rw [if_neg hw] at h
      exact key _ _ h
theorem fins_done {K : Act → World → Prop} {w : World} : ∀ (E : Env) (a A : Act), A.defers = a.defers → A.tmps.size = a.tmps.size → (∀ (i : Nat) (d : Tmp) (R : Prop1), E[i]? = some (d, R) → d < a.tmps.size ∧ R (A.tmps.getD d undef) w) → (∀ t, (∀ (i : Nat) (d : Tmp) (R : Prop1), E[i]? = some (d, R) → d ≠ t) → A.tmps[t]? = a.tmps[t]?) → fins K w E a → K A w := by
  intro E
  induction E with
  | nil =>
    intro a A hd hs _ ht h
    have : A = a := by
      cases A; cases a
      simp only at hd hs ht
      subst hd
      congr 1
      refine Array.ext_getElem? fun i => ht i (by simp)
    subst this; exact h
  | cons x xs ih =>
    obtain ⟨d, R⟩ := x
    intro a A hd hs hh ht h
    obtain ⟨h1, h2⟩ := hh 0 d R rfl
    refine ih (a.put (some d) (A.tmps.getD d undef)) A hd (by simpa [Act.put] using hs) (fun i d' R' hi => ?_) (fun t hx => ?_) (h _ h2)
    · have := hh (i + 1) d' R' (by simpa using hi)
      exact ⟨by simpa [Act.put] using this.1, this.2⟩
    · by_cases hdt : d = t
      · subst hdt
        simp only [Act.put]
        rw [Array.getElem?_setIfInBounds_self_of_lt h1]
        have : d < A.tmps.size := by rw [hs]; exact h1
        simp [Array.getD_eq_getD_getElem?, this]
      · rw [ht t fun i d' R' hi => ?_]
        · simp only [Act.put]; rw [Array.getElem?_setIfInBounds_ne hdt]
        · cases i with
          | zero => simp at hi; obtain ⟨rfl, -⟩ := hi; exact hdt
          | succ i => exact hx i d' R' (by simpa using hi)
theorem wpAny_region_D (m : Nat) (D : List Tmp) {a : Act} {W : World} (hc : okI ops m = true) (hD : (D.all fun d => (List.range m).any fun i => (ops[i]?).bind (·.dst) == some d) = true)
    (h : walkI P ops D W a (fun A w => Dist D A → wpList P ops Q (ops.toList.drop m) A w) (ops.toList.take m) []) : wpAny P .any ops Q ops.size (Array.replicate ops.size false) a { W with drawn := W.drawn + 1 } := by
  simp only [okI, Bool.and_eq_true, decide_eq_true_eq, List.all_eq_true, List.mem_range, Bool.or_eq_true] at hc
  obtain ⟨⟨⟨⟨hm1, hsel⟩, hlt'⟩, hpre⟩, hpost'⟩ := hc
  have hlt : ∀ i j, j ∈ afters ops i → j < i := by
    intro i j hj
    by_cases hi : i < ops.size
    · exact hlt' i hi j hj
    · obtain ⟨o, ho, -⟩ := mem_afters.1 hj
      rw [Array.getElem?_eq_none (by omega)] at ho; cases ho
  have hpost : ∀ i, m ≤ i → i < ops.size → ∀ j, j < i → need ops i i j = true := by
    intro i h1 h2 j hj
    rcases hpost' i h2 with h3 | h3
    · omega
    · exact h3 j hj
  obtain ⟨E, e1, e2, e3⟩ := walkI_env (ops := ops) (ops.toList.take m) [] (fun j o hj => by
    rw [List.getElem?_take] at hj
    split at hj
    · simpa using hj
    · cases hj) h
  simp only [List.nil_append, List.length_nil, Nat.zero_add] at e2 e3
  have hEl : E.length = m := by rw [e1]; simp; omega
  have dstE : ∀ (i : Nat) (d : Tmp) (R : Prop1), E[i]? = some (d, R) → (ops[i]?).bind (·.dst) = some d ∧ i < m := by
    intro i d R hi
    obtain ⟨o, h1, h2, -⟩ := (e2 i d R hi).go
    exact ⟨by simp [h1, h2], by rw [← hEl]; exact (List.getElem?_eq_some_iff.1 hi).1⟩
  have distinct : ∀ (i j : Nat) (d : Tmp), i < m → j < m → (ops[i]?).bind (·.dst) = some d → (ops[j]?).bind (·.dst) = some d → i = j := by
    intro i j d hi hj h1 h2
    have := hpre i hi
    unfold okPre at this
    cases ho : ops[i]? with
    | none => simp [ho] at h1
    | some o =>
      simp only [ho, Option.bind_some] at h1 this
      simp only [h1, Bool.and_eq_true, List.all_eq_true, List.mem_range, Bool.or_eq_true, beq_iff_eq, bne_iff_ne] at this
      rcases this.1 j hj with h3 | h3
      · exact h3.symm
      · exact absurd h2 h3
  have distOf : ∀ (listed : Array Bool) (A : Act) (w : World), InvI ops D m E W a listed A w → (∀ i, i < m → listed.getD i false = true) → Dist D A := by
    intro listed A w hI hall d hd d' hd' hne g g' hg hg'
    simp only [List.all_eq_true, List.any_eq_true, List.mem_range, beq_iff_eq] at hD
    obtain ⟨i, hi, h1⟩ := hD d hd
    obtain ⟨j, hj, h2⟩ := hD d' hd'
    refine hI.dne i j d d' hi hj (fun e => ?_) (hall i hi) (hall j hj) h1 h2 hd hd' g g' hg hg'
    subst e
    rw [h1] at h2
    exact hne (Option.some.inj h2)
  have main : ∀ (n : Nat) (listed : Array Bool) (A : Act) (w : World), (List.range ops.size).countP (fun i => !listed.getD i false) = n → InvI ops D m E W a listed A w → wpAny P .any ops Q n listed A w := by
    intro n
    induction n with
    | zero =>
      intro listed A w hn hI
      by_cases hmn : m < ops.size
      · exfalso
        rw [List.countP_eq_zero] at hn
        have := hn m (List.mem_range.2 hmn)
        rw [hI.post m (Nat.le_refl _)] at this
        simp at this
      · have hall : ∀ i, i < ops.size → listed.getD i false = true := by
          intro i hi
          rw [List.countP_eq_zero] at hn
          have := hn i (List.mem_range.2 hi)
          simpa using this
        have hmm : m = ops.size := by omega
        have hall' : ∀ i, i < m → listed.getD i false = true := fun i hi => hall i (by omega)
        refine wpAny_tail (m := m) hlt hpost 0 ops.size listed A w (by omega) (by omega) hI.size (fun j hj => by rw [hall j hj]; simp [hj]) ?_
        have hdist : Dist D A := distOf listed A w hI hall'
        have := fins_done E a A hI.defs hI.tsz (fun i d R hi => ⟨(e2 i d R hi).lt, hI.has i d R (hall i (by have := (dstE i d R hi).2; omega)) hi⟩) (fun t ht => hI.same t fun i hi _ hdi => by
          have hiE : i < E.length := by omega
          obtain ⟨d, R, hx'⟩ := env_get hiE
          have h5 := (dstE i d R hx').1
          rw [hdi] at h5
          cases h5
          exact ht i _ R hx' rfl) (e3 w hI.ext)
        have := this hdist
        rw [hmm] at this; exact this
    | succ n ih =>
      intro listed A w hn hI
      have hsz := hI.size
      by_cases hall : ∀ i, i < m → listed.getD i false = true
      · -- all of the first part are done
        have hdone := fins_done E a A hI.defs hI.tsz (fun i d R hi => ⟨(e2 i d R hi).lt, hI.has i d R (hall i (dstE i d R hi).2) hi⟩) (fun t ht => hI.same t fun i hi _ hdi => by
          have hiE : i < E.length := by omega
          obtain ⟨d, R, hx'⟩ := env_get hiE
          have h5 := (dstE i d R hx').1
          rw [hdi] at h5
          cases h5
          exact ht i _ R hx' rfl) (e3 w hI.ext)
        have hdone := hdone (distOf listed A w hI hall)
        have hl : ∀ j, j < ops.size → listed.getD j false = decide (j < m) := by
          intro j hj
          by_cases hjm : j < m
          · rw [hall j hjm]; simp [hjm]
          · rw [hI.post j (by omega)]; simp [hjm]
        have hcount : n + 1 + m = ops.size := by
          have h1 : (List.range ops.size).countP (fun i => !listed.getD i false) = (List.range ops.size).countP (fun i => decide (m ≤ i)) := by
            refine List.countP_congr fun i hi => ?_
            rw [hl i (List.mem_range.1 hi)]
            by_cases hx : i < m <;> simp [hx] <;> omega
          have h2 : ∀ k, (List.range k).countP (fun i => decide (m ≤ i)) = k - m := by
            intro k
            induction k with
            | zero => simp
            | succ k ihk =>
              rw [List.range_succ, List.countP_append, ihk]
              by_cases hx : m ≤ k
              · simp [hx]; omega
              · simp [hx]; omega
          rw [h1, h2] at hn; omega
        exact wpAny_tail (m := m) hlt hpost (n + 1) m listed A w hcount (Nat.le_refl _) hsz hl hdone
      · refine ⟨fun h0 => ?_, fun i hi => ?_⟩
        · -- some op is ready
          exfalso
          apply hall
          intro i
          induction i using Nat.strongRecOn with
          | ind i ihi =>
            intro him
            cases hx : listed.getD i false with
            | true => rfl
            | false =>
              have : i ∈ Region.ready .any ops listed := by
                rw [ready_afters]
                refine ⟨by rw [getD_tf (by omega)]; exact hx, ⟨ops[i]'(by omega), by simp [show i < ops.size by omega]⟩, fun j hj => ?_⟩
                have := hlt i j hj
                exact ihi j this (by omega)
              rw [h0] at this; cases this
        · obtain ⟨h1, ⟨oi, h2⟩, h3⟩ := ready_afters.1 hi
          have hio : i < ops.size := (Array.getElem?_eq_some_iff.1 h2).1
          have him : i < m := by
            rcases Nat.lt_or_ge i m with h | h
            · exact h
            · exfalso
              apply hall
              intro j hj
              exact need_listed hI.clo i i j (hpost i h hio j (by omega)) h3
          rw [getD_tf (by omega)] at h1
          have hiE : i < E.length := by omega
          obtain ⟨d, R, hx'⟩ := env_get hiE
          have hst := e2 i d R hx'
          obtain ⟨o', ho', hdst, hdo⟩ := hst.go
          obtain rfl : o' = oi := by rw [h2] at ho'; exact (Option.some.inj ho').symm
          have hok := hpre i him
          simp only [okPre, h2, hdst, Bool.and_eq_true, List.all_eq_true, List.mem_range, Bool.or_eq_true, beq_iff_eq, bne_iff_ne, List.contains_iff_mem] at hok
          -- what the operands are
          have hslot : ∀ t, t ∈ o'.looksAt ops → (∀ R', (E.take i).lookup t = some R' → R' (A.tmps.getD t undef) w) ∧ ((E.take i).lookup t = none → A.tmps[t]? = a.tmps[t]?) := by
            intro t ht
            refine ⟨fun R' hR' => ?_, fun hn' => ?_⟩
            · obtain ⟨j, hj⟩ := lookup_getD hR'
              have hji : j < i := by
                have := (List.getElem?_eq_some_iff.1 hj).1
                rw [List.length_take] at this; omega
              rw [List.getElem?_take, if_pos hji] at hj
              have hdj := dstE j t R' hj
              rcases hok.2 t ht j hdj.2 with h4 | h4
              · exact absurd hdj.1 h4
              · exact hI.has j t R' (h3 j h4) hj
            · refine hI.same t fun j hj hlj hdj => ?_
              rcases hok.2 t ht j hj with h4 | h4
              · exact h4 hdj
              · have hji := hlt i j h4
                have hjE : j < E.length := by omega
                obtain ⟨d', R', hy'⟩ := env_get hjE
                have h5 := (dstE j d' R' hy').1
                rw [hdj] at h5
                cases h5
                exact lookup_none hn' j t R' (by rw [List.getElem?_take, if_pos hji]; exact hy') rfl
          have hknow : ∀ l : List Operand, (∀ x ∈ l, ∀ t, x = .tmp t → t ∈ o'.looksAt ops) → knows A a w (E.take i) l := by
            intro l
            induction l with
            | nil => intro _; trivial
            | cons x xs ihx =>
              intro hl
              refine ⟨?_, ihx fun y hy => hl y (by simp [hy])⟩
              cases x with
              | tmp t =>
                have hs := hslot t (hl _ (by simp) t rfl)
                simp only []
                cases hlk : (E.take i).lookup t with
                | some R' =>
                  simp only []
                  have := hs.1 R' hlk
                  simpa [Act.eval] using this
                | none =>
                  simp only []
                  have := hs.2 hlk
                  simp only [Act.eval, Array.getD_eq_getD_getElem?, this]
              | _ => rfl
          have hops : knows A a w (E.take i) o'.op.operands.toList := hknow _ fun x hx t ht => by
            subst ht
            exact List.mem_append_left _ (List.mem_filterMap.2 ⟨.tmp t, hx, rfl⟩)
          -- behind it
          have key : ∀ v w', Gw w w' → R v w' → (∀ e ∈ D, o'.dst = some e → Fr w v w') → wpAny P .any ops Q n (listed.setIfInBounds i true) (A.put o'.dst v) w' := by
            intro v w' hww hR hFr
            have hdA : d < A.tmps.size := by rw [hI.tsz]; exact hst.lt
            refine ih _ _ _ ?_ ?_
            · have h6 : (List.range ops.size).countP (fun k => !listed.getD k false) = (List.range ops.size).countP (fun k => !(listed.setIfInBounds i true).getD k false) + 1 := by
                have gen : ∀ (l : List Nat), l.Nodup → i ∈ l → l.countP (fun k => !listed.getD k false) = l.countP (fun k => !(listed.setIfInBounds i true).getD k false) + 1 := by
                  intro l
                  induction l with
                  | nil => intro _ h; cases h
                  | cons x xs ihl =>
                    intro hnd hmem
                    rw [List.nodup_cons] at hnd
                    rcases List.mem_cons.1 hmem with rfl | hmem
                    · have h7 : xs.countP (fun k => !listed.getD k false) = xs.countP (fun k => !(listed.setIfInBounds i true).getD k false) := by
                        refine List.countP_congr fun k hk => ?_
                        rw [getD_set_ne _ (fun e => hnd.1 (by rw [e]; exact hk))]
                      rw [List.countP_cons, List.countP_cons, h7]
                      have h8 : (listed.setIfInBounds i true).getD i false = true := by simp [Array.getD_eq_getD_getElem?, show i < listed.size by omega]
                      rw [h1, h8]; simp
                    · have hne : i ≠ x := fun e => hnd.1 (by rw [← e]; exact hmem)
                      rw [List.countP_cons, List.countP_cons, ihl hnd.2 hmem, getD_set_ne _ hne]; omega
                exact gen _ List.nodup_range (List.mem_range.2 hio)
              omega
            · refine ⟨by simpa using hI.size, fun k hk j hj => ?_, fun k hk => ?_, Gw.then hI.ext hww, by rw [hdst]; exact hI.defs, by rw [hdst]; simpa [Act.put] using hI.tsz, fun t ht => ?_, fun k d' R' hk hE' => ?_, fun k d' hk hlk hdk hdD g hg => ?_, fun k l d1 d2 hk hl hkl hlk hll hdk hdl h1D h2D g g' hg hg' => ?_⟩
              · by_cases hki : i = k
                · subst hki
                  have := h3 j hj
                  exact getD_set_true this
                · rw [getD_set_ne _ hki] at hk
                  exact getD_set_true (hI.clo k hk j hj)
              · rw [getD_set_ne _ (by omega)]; exact hI.post k hk
              · have hdt : d ≠ t := by
                  intro e; subst e
                  exact ht i him (by simp [Array.getD_eq_getD_getElem?, show i < listed.size by omega]) (by simp [h2, hdst])
                rw [hdst]
                simp only [Act.put]
                rw [Array.getElem?_setIfInBounds_ne hdt]
                exact hI.same t fun k hk hlk => ht k hk (getD_set_true hlk)
              · by_cases hki : i = k
                · subst hki
                  rw [hx'] at hE'
                  cases hE'
                  rw [hdst]
                  simp only [Act.put]
                  have : (A.tmps.setIfInBounds d v).getD d undef = v := by simp [Array.getD_eq_getD_getElem?, hdA]
                  rw [this]; exact hR
                · rw [getD_set_ne _ hki] at hk
                  have h7 := hI.has k d' R' hk hE'
                  have hne : d ≠ d' := fun e => by
                    subst e
                    have h8 := dstE k d R' hE'
                    exact hki (distinct i k d him h8.2 (by simp [h2, hdst]) h8.1)
                  rw [hdst]
                  simp only [Act.put]
                  have : (A.tmps.setIfInBounds d v).getD d' undef = A.tmps.getD d' undef := by simp [Array.getD_eq_getD_getElem?, Array.getElem?_setIfInBounds_ne hne]
                  rw [this]
                  exact (e2 k d' R' hE').st _ _ _ hI.ext h7 hww
              · by_cases hki : i = k
                · subst hki
                  obtain rfl : d' = d := by rw [h2, Option.bind_some, hdst] at hdk; exact (Option.some.inj hdk).symm
                  rw [hdst] at hg
                  simp only [Act.put] at hg
                  have : (A.tmps.setIfInBounds d' v).getD d' undef = v := by simp [Array.getD_eq_getD_getElem?, hdA]
                  rw [this] at hg
                  exact (hFr d' hdD hdst g hg).2
                · rw [getD_set_ne _ hki] at hlk
                  have hne : d ≠ d' := fun e => by
                    subst e
                    exact hki (distinct i k d him hk (by simp [h2, hdst]) hdk)
                  rw [hdst] at hg
                  simp only [Act.put] at hg
                  have : (A.tmps.setIfInBounds d v).getD d' undef = A.tmps.getD d' undef := by simp [Array.getD_eq_getD_getElem?, Array.getElem?_setIfInBounds_ne hne]
                  rw [this] at hg
                  have := hI.dlt k d' hk hlk hdk hdD g hg
                  have := hww.size
                  omega
              · have slotO : ∀ k d', k < m → k ≠ i → (ops[k]?).bind (·.dst) = some d' → (A.put o'.dst v).tmps.getD d' undef = A.tmps.getD d' undef := by
                  intro k d' hk hki hdk
                  have hne : d ≠ d' := fun e => by
                    subst e
                    exact hki (distinct i k d him hk (by simp [h2, hdst]) hdk).symm
                  rw [hdst]
                  simp only [Act.put]
                  simp [Array.getD_eq_getD_getElem?, Array.getElem?_setIfInBounds_ne hne]
                have slotI : ∀ d', (ops[i]?).bind (·.dst) = some d' → (A.put o'.dst v).tmps.getD d' undef = v ∧ o'.dst = some d' := by
                  intro d' hdk
                  obtain rfl : d' = d := by rw [h2, Option.bind_some, hdst] at hdk; exact (Option.some.inj hdk).symm
                  refine ⟨?_, hdst⟩
                  rw [hdst]
                  simp only [Act.put]
                  simp [Array.getD_eq_getD_getElem?, hdA]
                by_cases hki : i = k
                · subst hki
                  have a1 := slotI d1 hdk
                  rw [a1.1] at hg
                  rw [slotO l d2 hl (Ne.symm hkl) hdl] at hg'
                  rw [getD_set_ne _ hkl] at hll
                  have b1 := hFr d1 h1D a1.2 g hg
                  have b2 := hI.dlt l d2 hl hll hdl h2D g' hg'
                  omega
                · rw [getD_set_ne _ hki] at hlk
                  rw [slotO k d1 hk (Ne.symm hki) hdk] at hg
                  by_cases hli : i = l
                  · subst hli
                    have a1 := slotI d2 hdl
                    rw [a1.1] at hg'
                    have b1 := hFr d2 h2D a1.2 g' hg'
                    have b2 := hI.dlt k d1 hk hlk hdk h1D g hg
                    omega
                  · rw [getD_set_ne _ hli] at hll
                    rw [slotO l d2 hl (Ne.symm hli) hdl] at hg'
                    exact hI.dne k l d1 d2 hk hl hkl hlk hll hdk hdl h1D h2D g g' hg hg'
          unfold wpOp
          simp only [h2]
          have runs : RunsI P D W a (E.take i) o' R → o'.wp P A w (wpAny P .any ops Q n (listed.setIfInBounds i true)) Q := fun hr => wp_weaken (hr A w hI.ext hops _ key)
          rcases hdo with ⟨hg, hr⟩ | ⟨g, b, tg, Rg, hg, htg, hlk, hcase⟩
          · rw [if_pos (by simp [Region.wanted, hg])]
            exact .inl (runs hr)
          · have hsg := (hslot tg (List.mem_append_right _ (by simp [hg, htg]))).1 Rg hlk
            obtain ⟨jg, hjg⟩ := lookup_getD hlk
            have hjg' : E[jg]? = some (tg, Rg) := by
              rw [List.getElem?_take] at hjg
              split at hjg
              · exact hjg
              · cases hjg
            have htsz : tg < A.tmps.size := by rw [hI.tsz]; exact (e2 jg tg Rg hjg').lt
            have hyl : ∀ c, A.tmps.getD tg undef = .bool c → yielded ops A.tmps g = some c := by
              intro c hcv
              have : A.tmps[tg]? = some (.bool c) := by
                rw [← hcv]; simp [Array.getD_eq_getD_getElem?, htsz]
              simp [yielded, htg, this]
            rcases hcase with ⟨h4, hr⟩ | ⟨h4, h5⟩
            · rw [if_pos (by simp [Region.wanted, hg, hyl b (h4 _ _ hsg)])]
              exact .inl (runs hr)
            · rw [if_neg (by
                simp only [Region.wanted, hg, beq_iff_eq]
                intro hy
                refine h4 _ _ hsg ?_
                unfold yielded at hy
                simp only [htg, Option.bind_some] at hy
                split at hy
                · rename_i c hc
                  cases hy
                  simp [Array.getD_eq_getD_getElem?, hc]
                · cases hy)]
              exact key undef w (Gw.rfl' w) (h5 w) (fun _ _ _ g hg => by cases hg)
  have h0 : (List.range ops.size).countP (fun i => !(Array.replicate ops.size false).getD i false) = ops.size := by
    have : (List.range ops.size).countP (fun i => !(Array.replicate ops.size false).getD i false) = (List.range ops.size).length := by
      rw [List.countP_eq_length]
      intro i hi
      have := List.mem_range.1 hi
      simp [Array.getD_eq_getD_getElem?, this]
    rw [this, List.length_range]
  have hf : ∀ i, (Array.replicate ops.size false).getD i false = false := by
    intro i
    by_cases h : i < ops.size
    · simp [Array.getD_eq_getD_getElem?, h]
    · simp [Array.getD_eq_getD_getElem?, Array.getElem?_eq_none, show ops.size ≤ i by omega]
  exact main ops.size _ a _ h0 ⟨by simp, fun i hi => absurd hi (by rw [hf]; simp), fun i _ => hf i, Gw.drew' (Gw.rfl' W), rfl, rfl, fun _ _ => rfl, fun i d R hi => absurd hi (by rw [hf]; simp), fun i d _ hi => absurd hi (by rw [hf]; simp), fun i j d d' _ _ _ hi => absurd hi (by rw [hf]; simp)⟩
theorem wp_region_D (m : Nat) (D : List Tmp) {id : Nat} {a : Act} {W : World} (hm : P.follows .mixedOrders = true) (hc : okI ops m = true) (hD : (D.all fun d => (List.range m).any fun i => (ops[i]?).bind (·.dst) == some d) = true)
    (h : walkI P ops D W a (fun A w => Dist D A → wpList P ops Q (ops.toList.drop m) A w) (ops.toList.take m) []) : (Code.region id ops true).wp P Q a W :=
  wp_region_any hm (wpAny_region_D m D hc hD h)
theorem wp_region_I (m : Nat) {id : Nat} {a : Act} {W : World} (hm : P.follows .mixedOrders = true) (hc : okI ops m = true)
    (h : walkI P ops [] W a (fun A w => wpList P ops Q (ops.toList.drop m) A w) (ops.toList.take m) []) : (Code.region id ops true).wp P Q a W := by
  refine wp_region_D m [] hm hc rfl ?_
  have : (fun A w => Dist [] A → wpList P ops Q (ops.toList.drop m) A w) = fun A w => wpList P ops Q (ops.toList.drop m) A w := by
    funext A w
    exact propext ⟨fun h => h (fun _ h => by cases h), fun h _ => h⟩
  rw [this]; exact h
abbrev Is (u : Value) : Prop1 := fun v _ => v = u
theorem walkI_step {D : List Tmp} {W : World} {a : Act} {K : Act → World → Prop} {o : Oper} {rest : List Oper} {E : Env} {d : Tmp} (R : Prop1) (hd : o.dst = some d) (hl : d < a.tmps.size) (hg : o.guard = none) (hs : Stable W R)
    (hr : ∀ A w, Gw W w → knows A a w E o.op.operands.toList → ∀ K : Act → World → Prop, (∀ v w', Gw w w' → R v w' → K (A.put (some d) v) w') → o.wp P A w K (fun _ _ _ => False))
    (h : walkI P ops D W a K rest (E ++ [(d, R)])) (hn : d ∉ D := by simp) : walkI P ops D W a K (o :: rest) E :=
  ⟨d, R, hd, hl, hs, .inl ⟨hg, by
    unfold RunsI; rw [hd]
    exact fun A w h1 h2 K hK => hr A w h1 h2 K fun v w' h3 h4 => hK v w' h3 h4 fun e he hde => by cases hde; exact absurd he hn⟩, h⟩
theorem walkI_is {D : List Tmp} {W : World} {a : Act} {K : Act → World → Prop} {o : Oper} {rest : List Oper} {E : Env} {d : Tmp} {u : Value} (hd : o.dst = some d) (hl : d < a.tmps.size) (hg : o.guard = none)
    (hr : ∀ A w, Gw W w → knows A a w E o.op.operands.toList → ∀ K : Act → World → Prop, (∀ w', Gw w w' → K (A.put (some d) u) w') → o.wp P A w K (fun _ _ _ => False))
    (h : walkI P ops D W a K rest (E ++ [(d, Is u)])) (hn : d ∉ D := by simp) : walkI P ops D W a K (o :: rest) E :=
  walkI_step (Is u) hd hl hg (fun _ _ _ _ h _ => h) (fun A w hw hk K hK => hr A w hw hk K fun w' hw' => hK u w' hw' rfl) h hn
theorem walkI_yes {D : List Tmp} {W : World} {a : Act} {K : Act → World → Prop} {o : Oper} {rest : List Oper} {E : Env} {d g tg : Nat} {b : Bool} (R : Prop1) (hd : o.dst = some d) (hl : d < a.tmps.size) (hg : o.guard = some (g, b)) (htg : (ops[g]?).bind (·.dst) = some tg) (hlk : E.lookup tg = some (Is (.bool b))) (hs : Stable W R)
    (hr : ∀ A w, Gw W w → knows A a w E o.op.operands.toList → ∀ K : Act → World → Prop, (∀ v w', Gw w w' → R v w' → K (A.put (some d) v) w') → o.wp P A w K (fun _ _ _ => False))
    (h : walkI P ops D W a K rest (E ++ [(d, R)])) (hn : d ∉ D := by simp) : walkI P ops D W a K (o :: rest) E :=
  ⟨d, R, hd, hl, hs, .inr ⟨g, b, tg, _, hg, htg, hlk, .inl ⟨fun _ _ h => h, by
    unfold RunsI; rw [hd]
    exact fun A w h1 h2 K hK => hr A w h1 h2 K fun v w' h3 h4 => hK v w' h3 h4 fun e he hde => by cases hde; exact absurd he hn⟩⟩, h⟩
theorem walkI_yesis {D : List Tmp} {W : World} {a : Act} {K : Act → World → Prop} {o : Oper} {rest : List Oper} {E : Env} {d g tg : Nat} {b : Bool} {u : Value} (hd : o.dst = some d) (hl : d < a.tmps.size) (hg : o.guard = some (g, b)) (htg : (ops[g]?).bind (·.dst) = some tg) (hlk : E.lookup tg = some (Is (.bool b)))
    (hr : ∀ A w, Gw W w → knows A a w E o.op.operands.toList → ∀ K : Act → World → Prop, (∀ w', Gw w w' → K (A.put (some d) u) w') → o.wp P A w K (fun _ _ _ => False))
    (h : walkI P ops D W a K rest (E ++ [(d, Is u)])) (hn : d ∉ D := by simp) : walkI P ops D W a K (o :: rest) E :=
  walkI_yes (Is u) hd hl hg htg hlk (fun _ _ _ _ h _ => h) (fun A w hw hk K hK => hr A w hw hk K fun w' hw' => hK u w' hw' rfl) h hn
theorem wiA {D : List Tmp} {W : World} {a : Act} {K : Act → World → Prop} {o : Oper} {rest : List Oper} {E : Env} {d : Tmp} {u : Value} (hd : o.dst = some d) (hl : d < a.tmps.size) (hg : o.guard = none) (h : walkI P ops D W a K rest (E ++ [(d, Is u)])) (hr : ∀ A w, Gw W w → knows A a w E o.op.operands.toList → ∀ K : Act → World → Prop, (∀ w', Gw w w' → K (A.put (some d) u) w') → o.wp P A w K (fun _ _ _ => False) := by intro A w' hS hA K hK; simp only [List.map_cons, List.map_nil, Gg.knows, Gg.Is, Op.operands, Call.operands, List.lookup_cons, List.lookup_nil, Nat.reduceBEq, Bool.false_eq_true, if_false, if_true, Act.eval, Array.getD_eq_getD_getElem?, List.getElem?_toArray, List.getElem?_cons_succ, List.getElem?_cons_zero, Option.getD_some, and_true, true_and, List.append_toArray, List.nil_append, List.cons_append, List.toList_toArray, Array.toList_append, Option.toArray, List.append_nil] at hA; obtain ⟨hSc, hSf, hSs⟩ := hS.ext.cells; go_simp; exact hK _ (by first | exact Gw.rfl' _ | exact Gw.new _ _ | assumption)) (hn : d ∉ D := by simp) : walkI P ops D W a K (o :: rest) E := walkI_is hd hl hg hr h hn
theorem wyA {D : List Tmp} {W : World} {a : Act} {K : Act → World → Prop} {o : Oper} {rest : List Oper} {E : Env} {d g tg : Tmp} {u : Value} {b : Bool} (hd : o.dst = some d) (hl : d < a.tmps.size) (hg : o.guard = some (g, b)) (htg : (ops[g]?).bind (·.dst) = some tg) (hlk : E.lookup tg = some (Is (.bool b))) (h : walkI P ops D W a K rest (E ++ [(d, Is u)])) (hr : ∀ A w, Gw W w → knows A a w E o.op.operands.toList → ∀ K : Act → World → Prop, (∀ w', Gw w w' → K (A.put (some d) u) w') → o.wp P A w K (fun _ _ _ => False) := by intro A w' hS hA K hK; simp only [List.map_cons, List.map_nil, Gg.knows, Gg.Is, Op.operands, Call.operands, List.lookup_cons, List.lookup_nil, Nat.reduceBEq, Bool.false_eq_true, if_false, if_true, Act.eval, Array.getD_eq_getD_getElem?, List.getElem?_toArray, List.getElem?_cons_succ, List.getElem?_cons_zero, Option.getD_some, and_true, true_and, List.append_toArray, List.nil_append, List.cons_append, List.toList_toArray, Array.toList_append, Option.toArray, List.append_nil] at hA; obtain ⟨hSc, hSf, hSs⟩ := hS.ext.cells; go_simp; exact hK _ (by first | exact Gw.rfl' _ | exact Gw.new _ _ | assumption)) (hn : d ∉ D := by simp) : walkI P ops D W a K (o :: rest) E := walkI_yesis hd hl hg htg hlk hr h hn
theorem walkI_nil {D : List Tmp} {W : World} {a : Act} {K : Act → World → Prop} {E : Env} (h : ∀ w, Gw W w → fins K w E a) : walkI P ops D W a K [] E := h
end
end Go.Proofs.YtnpnjcaomakehaaGreat.Gg
