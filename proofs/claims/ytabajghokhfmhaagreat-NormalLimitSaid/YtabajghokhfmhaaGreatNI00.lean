/- Lemmas for NI, part 1: Memory read as plain lists: the base of all contracts, and more. -/
import Derived.Test.YtabajghokhfmhaaGreatProg
import Derived.WalkKit
import Derived.WalkSpells
import Derived.WalkLawsBesides
import Derived.BigQuiet
import Derived.Deep.QuietTactic
import Derived.Lib.Hide
import Derived.Deep.DeepFit
import Derived.Handy
import Derived.Deep.LoopGhost
import Derived.Deep.DeepCutAuto
import Derived.Deep.Light
import Derived.LoopIn
import Derived.LoopNIn
import Derived.OwnWalkIn
import Derived.RangeFuncBound
import Derived.RangeFuncCalls
import Derived.RangeFuncFrom
import Derived.RangeFuncLeaves
import Derived.RangeFuncNested
import Derived.Shelf.Abstract
import Derived.Shelf.RegionOpen
set_option linter.unusedSimpArgs false
set_option linter.unusedVariables false
namespace Go.Proofs.YtabajghokhfmhaaGreat
open Go.RowKit
abbrev PH := Nat → Option Obj
def ph (w : World) : PH := fun k => w.heap[k]?
def cellAt (h : PH) (b o : Nat) : Option Value := match h b with | some (.cells c _ _) => c[o]? | _ => none
theorem cell_ph (w : World) (b o : Nat) : w.cell? ⟨b, o, none⟩ = cellAt (ph w) b o := by
  simp only [World.cell?, cellAt, ph]
  cases w.heap[b]? with
  | none => rfl
  | some x => cases x <;> rfl
def PLe (h h' : PH) : Prop := ∀ k o, h k = some o → h' k = some o
theorem PLe.refl (h : PH) : PLe h h := fun _ _ h => h
theorem PLe.trans {a b c : PH} (h : PLe a b) (k : PLe b c) : PLe a c := fun i o x => k i o (h i o x)
theorem cellAt_mono {h h' : PH} (hl : PLe h h') {b o : Nat} {v : Value} (hc : cellAt h b o = some v) : cellAt h' b o = some v := by
  unfold cellAt at *
  cases hb : h b with
  | none => simp [hb] at hc
  | some x => rw [hl b x hb]; rw [hb] at hc; exact hc
abbrev Ext (w w' : World) : Prop := Below w.heap.size w w'
theorem ph_lt {w : World} {k : Nat} {o : Obj} (hk : ph w k = some o) : k < w.heap.size := by
  simp only [ph] at hk
  exact (Array.getElem?_eq_some_iff.1 hk).1
theorem Ext.ple {w w' : World} (hb : Ext w w') : PLe (ph w) (ph w') := by
  intro k o hk
  show w'.heap[k]? = some o
  rw [hb.block k (ph_lt hk)]; exact hk
theorem Ext.then {a b c : World} (h : Ext a b) (k : Ext b c) : Ext a c := Below.trans h (k.mono h.size)
theorem Ext.alloc' {a b : World} (h : Ext a b) (o : Obj) : Ext a (b.alloc o) := Below.alloc h h.size o
theorem Ext.new (w : World) (o : Obj) : Ext w (w.alloc o) := Below.alloc (Below.refl _ _) (Nat.le_refl _) o
theorem Ext.rfl' (w : World) : Ext w w := Below.refl _ _
theorem Ext.drew' {a b : World} (h : Ext a b) : Ext a b.drew := Below.drew h
theorem Ext.set' {a b : World} (h : Ext a b) {p : Addr} (hp : a.heap.size ≤ p.block) (u : Value) : Ext a (b.setCell p u) := Below.setCell h hp u
theorem Ext.drewN' {a b : World} (h : Ext a b) : ∀ n, Ext a (b.drewN n) := fun _ => ⟨h.os, h.tape, h.output, h.size, h.block⟩
def Own (w : World) (b : Nat) (c : Array Value) (T : TypeId) : Prop := w.heap[b]? = some (.cells c T (0, 0))
theorem Own.facts {w : World} {b : Nat} {c : Array Value} {T : TypeId} (h : Own w b c T) : (∀ j, w.cell? ⟨b, j, none⟩ = c[j]?) ∧ (∀ j, w.frozen? ⟨b, j, none⟩ = false) := by
  unfold Own at h
  exact ⟨fun j => by simp [World.cell?, h], fun j => by simp [World.frozen?, h]⟩
theorem Own.lt {w : World} {b : Nat} {c : Array Value} {T : TypeId} (h : Own w b c T) : b < w.heap.size := (Array.getElem?_eq_some_iff.1 h).1
theorem Own.keep {w w' : World} {b : Nat} {c : Array Value} {T : TypeId} (h : Own w b c T) (e : Ext w w') : Own w' b c T := by
  unfold Own; rw [e.block b h.lt]; exact h
theorem Own.new (w : World) (c : Array Value) (T : TypeId) : Own (w.alloc (.cells c T)) w.heap.size c T := heap_alloc_new w _
theorem Own.alloc {w : World} {b : Nat} {c : Array Value} {T : TypeId} (h : Own w b c T) (o : Obj) : Own (w.alloc o) b c T := h.keep (Ext.new w o)
theorem Own.set {w : World} {b : Nat} {c : Array Value} {T : TypeId} (h : Own w b c T) (j : Nat) (v : Value) : Own (w.setCell ⟨b, j, none⟩ v) b (c.setIfInBounds j v) T := by
  unfold Own at *
  simp [World.setCell, Array.getElem?_modify, h]
theorem Own.setOther {w : World} {b : Nat} {c : Array Value} {T : TypeId} (h : Own w b c T) {p : Addr} (hp : b ≠ p.block) (v : Value) : Own (w.setCell p v) b c T := by
  unfold Own at *
  rw [Below.heap_setCell _ _ _ _ hp]; exact h
theorem Own.drewN {w : World} {b : Nat} {c : Array Value} {T : TypeId} (h : Own w b c T) (n : Nat) : Own (w.drewN n) b c T := h
theorem Own.drew {w : World} {b : Nat} {c : Array Value} {T : TypeId} (h : Own w b c T) : Own w.drew b c T := h
theorem Own.new' (w : World) (c : Array Value) (T : TypeId) {n : Nat} (hn : n = w.heap.size) : Own (w.alloc (.cells c T)) n c T := by subst hn; exact Own.new w c T
theorem Ext.cells {w w1 : World} (h : Ext w w1) : (∀ b o, b < w.heap.size → w1.cell? ⟨b, o, none⟩ = w.cell? ⟨b, o, none⟩) ∧ (∀ b o, b < w.heap.size → w1.frozen? ⟨b, o, none⟩ = w.frozen? ⟨b, o, none⟩) ∧ w.heap.size ≤ w1.heap.size :=
  ⟨fun b o hb => Below.cell h (p := ⟨b, o, none⟩) hb, fun b o hb => Below.frozen h (p := ⟨b, o, none⟩) hb, h.size⟩
theorem Ext.cell1 {w w1 : World} (h : Ext w w1) {b o : Nat} {v : Value} (hc : w.cell? ⟨b, o, none⟩ = some v) : w1.cell? ⟨b, o, none⟩ = some v := by
  rw [cell_ph] at *; exact cellAt_mono h.ple hc
def RowRep {α : Type} (h : PH) (E : PH → List Value → α → Prop) (sz b : Nat) : Nat → List α → Prop
  | _, [] => True
  | o, x :: xs => (∃ cs, cs.length = sz ∧ (∀ j, j < sz → cellAt h b (o + j) = some (cs.getD j undef)) ∧ E h cs x) ∧ RowRep h E sz b (o + sz) xs
theorem RowRep.get {α : Type} {h : PH} {E : PH → List Value → α → Prop} {sz b : Nat} : ∀ {xs : List α} {o : Nat}, RowRep h E sz b o xs → ∀ i (hi : i < xs.length),
    ∃ cs, cs.length = sz ∧ (∀ j, j < sz → cellAt h b (o + i * sz + j) = some (cs.getD j undef)) ∧ E h cs xs[i]
  | x :: xs, o, hr, 0, _ => by simpa using hr.1
  | x :: xs, o, hr, i + 1, hi => by
    obtain ⟨cs, h1, h2, h3⟩ := RowRep.get hr.2 i (by simpa using hi)
    refine ⟨cs, h1, fun j hj => ?_, h3⟩
    rw [← h2 j hj]; congr 1; rw [Nat.add_mul]; omega
theorem RowRep.of {α : Type} {h : PH} {E : PH → List Value → α → Prop} {sz b : Nat} : ∀ {xs : List α} {o : Nat}, (∀ i (hi : i < xs.length),
    ∃ cs, cs.length = sz ∧ (∀ j, j < sz → cellAt h b (o + i * sz + j) = some (cs.getD j undef)) ∧ E h cs xs[i]) → RowRep h E sz b o xs
  | [], _, _ => trivial
  | x :: xs, o, hr => by
    refine ⟨by have := hr 0 (by simp); simpa only [Nat.zero_mul, Nat.add_zero, List.getElem_cons_zero] using this, RowRep.of fun i hi => ?_⟩
    obtain ⟨cs, h1, h2, h3⟩ := hr (i + 1) (by simpa using hi)
    refine ⟨cs, h1, fun j hj => ?_, h3⟩
    rw [← h2 j hj]; congr 1; rw [Nat.add_mul]; omega
def Mono {α : Type} (E : PH → List Value → α → Prop) : Prop := ∀ h h' cs x, PLe h h' → E h cs x → E h' cs x
theorem RowRep.mono' {α : Type} {E : PH → List Value → α → Prop} {sz b : Nat} {h h' : PH} (hl : PLe h h') : ∀ {xs : List α} {o : Nat}, (∀ cs x, x ∈ xs → E h cs x → E h' cs x) → RowRep h E sz b o xs → RowRep h' E sz b o xs
  | [], _, _, _ => trivial
  | x :: xs, o, hE, hr => by
    obtain ⟨⟨cs, h1, h2, h3⟩, h4⟩ := hr
    exact ⟨⟨cs, h1, fun j hj => cellAt_mono hl (h2 j hj), hE _ _ (by simp) h3⟩, RowRep.mono' hl (fun cs x hx => hE cs x (by simp [hx])) h4⟩
def SliceRep {α : Type} (E : PH → List Value → α → Prop) (sz : Nat) (h : PH) (v : Value) (xs : List α) : Prop :=
  ∃ a cap, v = .slice a xs.length cap ∧ xs.length ≤ cap ∧ cap ≤ maxLen ∧ (xs = [] ∨ ∃ b o, a = some ⟨b, o, none⟩ ∧ RowRep h E sz b o xs)
theorem SliceRep.mono' {α : Type} {E : PH → List Value → α → Prop} {sz : Nat} {h h' : PH} {v : Value} {xs : List α} (hl : PLe h h') (hE : ∀ cs x, x ∈ xs → E h cs x → E h' cs x) (hr : SliceRep E sz h v xs) : SliceRep E sz h' v xs := by
  obtain ⟨a, cap, h1, h2, h3, h4⟩ := hr
  refine ⟨a, cap, h1, h2, h3, ?_⟩
  rcases h4 with h4 | ⟨b, o, h5, h6⟩
  · exact .inl h4
  · exact .inr ⟨b, o, h5, RowRep.mono' hl hE h6⟩
theorem SliceRep.mono {α : Type} {E : PH → List Value → α → Prop} {sz : Nat} {h h' : PH} {v : Value} {xs : List α} (hr : SliceRep E sz h v xs) (hm : Mono E) (hl : PLe h h') : SliceRep E sz h' v xs :=
  hr.mono' hl fun _ _ _ => hm _ _ _ _ hl
theorem SliceRep.nil {α : Type} (E : PH → List Value → α → Prop) (sz : Nat) (h : PH) : SliceRep E sz h (.slice none 0 0) [] :=
  ⟨none, 0, rfl, Nat.le_refl _, Nat.zero_le _, .inl rfl⟩
theorem SliceRep.form {α : Type} {E : PH → List Value → α → Prop} {sz : Nat} {h : PH} {v : Value} {xs : List α} (hr : SliceRep E sz h v xs) : ∃ a cap, v = .slice a xs.length cap ∧ xs.length ≤ 9223372036854775807 ∧ SliceRep E sz h (.slice a xs.length cap) xs := by
  obtain ⟨a, cap, h1, h2, h3, h4⟩ := hr
  refine ⟨a, cap, h1, by unfold maxLen at h3; omega, ⟨a, cap, rfl, h2, h3, h4⟩⟩
theorem SliceRep.get {α : Type} {E : PH → List Value → α → Prop} {sz : Nat} {h : PH} {a : Option Addr} {n cap : Nat} {xs : List α} (hr : SliceRep E sz h (.slice a n cap) xs) (k : Nat) (hk : k < xs.length) :
    ∃ b o cs, a = some ⟨b, o, none⟩ ∧ cs.length = sz ∧ (∀ j, j < sz → cellAt h b (o + k * sz + j) = some (cs.getD j undef)) ∧ E h cs xs[k] := by
  obtain ⟨a', cap', h1, h2, h3, h4⟩ := hr
  cases h1
  rcases h4 with rfl | ⟨b, o, h5, h6⟩
  · simp at hk
  · obtain ⟨cs, h7, h8, h9⟩ := h6.get k hk
    exact ⟨b, o, cs, h5, h7, h8, h9⟩
theorem SliceRep.get1 {α : Type} {E : PH → List Value → α → Prop} {w : World} {a : Option Addr} {n cap : Nat} {xs : List α} (hr : SliceRep E 1 (ph w) (.slice a n cap) xs) (k : Nat) (hk : k < xs.length) :
    ∃ b o c, a = some ⟨b, o, none⟩ ∧ w.cell? ⟨b, o + k, none⟩ = some c ∧ E (ph w) [c] xs[k] := by
  obtain ⟨b, o, cs, h1, h2, h3, h4⟩ := hr.get k hk
  match cs, h2 with
  | [c], _ => exact ⟨b, o, c, h1, by rw [cell_ph]; simpa using h3 0 (by omega), h4⟩
def I64 (n : Int) : Prop := -9223372036854775808 ≤ n ∧ n ≤ 9223372036854775807
def IntR (_ : PH) (cs : List Value) (n : Int) : Prop := cs = [.int .i64 n] ∧ I64 n
theorem mono_IntR : Mono IntR := fun _ _ _ _ _ h => h
abbrev IntsR : PH → Value → List Int → Prop := SliceRep IntR 1
def ByteR (_ : PH) (cs : List Value) (n : UInt8) : Prop := cs = [.int .u8 n.toNat]
abbrev BytesR : PH → Value → List UInt8 → Prop := SliceRep ByteR 1
theorem cell_lt {w : World} {b o : Nat} {v : Value} (h : w.cell? ⟨b, o, none⟩ = some v) : b < w.heap.size := World.block_lt_of_cell? w _ h
theorem IntsR.at {w : World} {a : Option Addr} {n cap : Nat} {xs : List Int} (hr : IntsR (ph w) (.slice a n cap) xs) (k : Nat) (hk : k < xs.length) :
    ∃ b o, a = some ⟨b, o, none⟩ ∧ w.cell? ⟨b, o + k, none⟩ = some (.int .i64 xs[k]) ∧ I64 xs[k] ∧ b < w.heap.size := by
  obtain ⟨b, o, c, h1, h2, h3, h4⟩ := SliceRep.get1 hr k hk
  cases h3
  exact ⟨b, o, h1, h2, h4, cell_lt h2⟩
theorem ret_int {k : IntKind} {a b : Int} (h : a = b) : Ending.returned (.int k a) = .returned (.int k b) := by rw [h]
theorem ret_bool {a b : Bool} (h : a = b) : Ending.returned (.bool a) = .returned (.bool b) := by rw [h]
theorem val_int {k : IntKind} {a b : Int} (h : a = b) : Value.int k a = .int k b := by rw [h]
def RetV (w : World) (v : Value) (e : Ending) (w' : World) : Prop := e = .returned v ∧ Ext w w'
theorem enterFn {f : FuncId} {fn : Func} {c : Code} (hf : Tryz.prog.funcs[f]? = some fn) (hname : (fn.name == "runtime.NumGoroutine") = false) (hb : fn.body = some c) (args : Array Value) (w : World) :
    (callFunc f args).run Tryz.prog w = .ok (.enter f args) w := by
  unfold callFunc
  have hn : fn.name ≠ "runtime.NumGoroutine" := by simpa using hname
  simp [program, hf, Bind.bind, Sem.bind, Sem.run, hn, hb, pure]
def idxOf {α : Type} (p : α → Bool) (l : List α) : Int := match l.findIdx? p with | some i => i | none => -1
theorem idxOf_found {α : Type} (p : α → Bool) (l : List α) (k : Nat) (h : k < l.length) (hp : p l[k] = true) (hno : ∀ x ∈ l.take k, p x = false) : idxOf p l = k := by
  have : l.findIdx? p = some k := by
    rw [List.findIdx?_eq_some_iff_getElem]
    refine ⟨h, hp, fun j hj => ?_⟩
    have := hno (l[j]) (by rw [List.mem_take_iff_getElem]; exact ⟨j, by omega, rfl⟩)
    simp [this]
  simp [idxOf, this]
theorem idxOf_none {α : Type} (p : α → Bool) (l : List α) (hno : ∀ x ∈ l, p x = false) : idxOf p l = -1 := by
  have : l.findIdx? p = none := by rw [List.findIdx?_eq_none_iff]; exact hno
  simp [idxOf, this]
theorem idxOf_ge {α : Type} (p : α → Bool) (l : List α) : decide (0 ≤ idxOf p l) = l.any p := by
  cases h : l.findIdx? p with
  | none =>
    rw [List.findIdx?_eq_none_iff] at h
    rw [idxOf_none p l h, List.any_eq_false.2 (by simpa using h)]; rfl
  | some i =>
    have : l.any p = true := by
      rw [List.findIdx?_eq_some_iff_getElem] at h
      obtain ⟨hi, h1, -⟩ := h
      exact List.any_eq_true.2 ⟨l[i], List.getElem_mem hi, h1⟩
    simp [idxOf, h, this]
theorem take_all {α : Type} {p : α → Prop} {l : List α} {k : Nat} (h : k < l.length) (hk : p l[k]) (hno : ∀ x ∈ l.take k, p x) : ∀ x ∈ l.take (k + 1), p x := by
  intro x hx
  rw [List.take_succ_eq_append_getElem h] at hx
  rcases List.mem_append.1 hx with hx | hx
  · exact hno x hx
  · rw [List.mem_singleton.1 hx]; exact hk
theorem take_done {α : Type} {p : α → Prop} {l : List α} {k : Nat} (h : l.length ≤ k) (hno : ∀ x ∈ l.take k, p x) : ∀ x ∈ l, p x := by
  rwa [List.take_of_length_le h] at hno
noncomputable def B (p : Prop) : Bool := @decide p (Classical.propDecidable p)
theorem B_t {p : Prop} (h : p) : B p = true := by unfold B; simp [h]
theorem B_f {p : Prop} (h : ¬ p) : B p = false := by unfold B; simp [h]
theorem B_iff {p : Prop} : B p = true ↔ p := by unfold B; simp
theorem ret_t {p : Prop} (h : p) : Ending.returned (.bool true) = .returned (.bool (B p)) := by rw [B_t h]
theorem ret_f {p : Prop} (h : ¬ p) : Ending.returned (.bool false) = .returned (.bool (B p)) := by rw [B_f h]
theorem ret_B {p : Prop} {b : Bool} (h : b = true ↔ p) : Ending.returned (.bool b) = .returned (.bool (B p)) := by
  have : b = B p := by rw [Bool.eq_iff_iff, B_iff]; exact h
  rw [this]
noncomputable def ErrIf (p : Prop) (k : Int) : Int := @ite _ p (Classical.propDecidable p) 0 k
theorem ErrIf_t {p : Prop} {k : Int} (h : p) : ErrIf p k = 0 := by unfold ErrIf; simp [h]
theorem ErrIf_f {p : Prop} {k : Int} (h : ¬ p) : ErrIf p k = k := by unfold ErrIf; simp [h]
theorem ret_e0 {p : Prop} {k : Int} (h : p) : Ending.returned (.int .i64 0) = .returned (.int .i64 (ErrIf p k)) := by rw [ErrIf_t h]
theorem ret_ek {p : Prop} {k : Int} (h : ¬ p) : Ending.returned (.int .i64 k) = .returned (.int .i64 (ErrIf p k)) := by rw [ErrIf_f h]
theorem take_snoc {α : Type} (l : List α) (k : Nat) (h : k < l.length) : l.take (k + 1) = l.take k ++ [l[k]] := by
  rw [List.take_succ_eq_append_getElem h]
theorem xE {w w' : World} (h : Ext w w' := by with_reducible repeat (first | assumption | exact Ext.rfl' _ | exact Ext.new _ _ | refine Ext.alloc' ?_ _ | refine Ext.drew' ?_ | refine Ext.drewN' ?_ _ | (refine Ext.set' ?_ ?_ _; rotate_left; focus (first | omega | (simp; done) | (simp; omega))) | (refine Ext.then (b := ?_) ?_ ?_; rotate_left; rotate_left; assumption))) : Ext w w' := h
theorem oE {w : World} {b : Nat} {c : Array Value} {T : TypeId} (h : Own w b c T := by repeat (first | (with_reducible assumption) | (with_reducible exact Own.new _ _ _) | (with_reducible refine Own.new' _ _ _ ?_; (focus (simp; done))) | (with_reducible refine Own.alloc ?_ _) | (with_reducible refine Own.drew ?_) | (with_reducible refine Own.drewN ?_ _) | (with_reducible refine Own.keep (w := ?_) ?_ ?_; rotate_left; (with_reducible assumption); (exact (by with_reducible repeat (first | assumption | exact Ext.rfl' _ | exact Ext.new _ _ | refine Ext.alloc' ?_ _ | refine Ext.drew' ?_ | refine Ext.drewN' ?_ _ | (refine Ext.set' ?_ ?_ _; rotate_left; focus (first | omega | (simp; done) | (simp; omega))) | (refine Ext.then (b := ?_) ?_ ?_; rotate_left; rotate_left; assumption))))) | (with_reducible refine Own.keep (w := ?_) ?_ ?_; rotate_left; rotate_left; (with_reducible assumption)))) : Own w b c T := h
theorem qA : type_of% (And.intro @List.map_cons (And.intro @List.map_nil (And.intro @Bool.false_eq_true (And.intro @Array.getD_eq_getD_getElem? (And.intro @List.getElem?_toArray (And.intro @List.getElem?_cons_succ (And.intro @List.getElem?_cons_zero (And.intro @Option.getD_some (And.intro @List.append_toArray (And.intro @List.nil_append (And.intro @List.cons_append (And.intro @List.toList_toArray (And.intro @Array.toList_append (@List.append_nil)))))))))))))) := And.intro @List.map_cons (And.intro @List.map_nil (And.intro @Bool.false_eq_true (And.intro @Array.getD_eq_getD_getElem? (And.intro @List.getElem?_toArray (And.intro @List.getElem?_cons_succ (And.intro @List.getElem?_cons_zero (And.intro @Option.getD_some (And.intro @List.append_toArray (And.intro @List.nil_append (And.intro @List.cons_append (And.intro @List.toList_toArray (And.intro @Array.toList_append (@List.append_nil)))))))))))))
theorem nA {α : Type _} (a : List α) : [] ++ a = a := rfl
theorem cA {α : Type _} (x : α) (a b : List α) : (x :: a) ++ b = x :: (a ++ b) := rfl
theorem tA {b : Bool} (h : b = true := by kernel_rfl) : b = true := h
theorem yA {α : Type} {r : World → α} {v : World → α} (h : ∀ w, r w = v w := by intro w; go_simp; try with_reducible rfl) : ∀ w, r w = v w := h
theorem xN {a b : World} (h : Ext a b := by first | exact Ext.rfl' _ | exact Ext.new _ _ | assumption) : Ext a b := h
def Cells {α : Type} (h : PH) (E : PH → List Value → α → Prop) (sz : Nat) : List Value → List α → Prop
  | cells, [] => cells = []
  | cells, x :: xs => ∃ cs rest, cells = cs ++ rest ∧ cs.length = sz ∧ E h cs x ∧ Cells h E sz rest xs
section
variable {α : Type} {E : PH → List Value → α → Prop} {sz : Nat} {h h' : PH}
theorem Cells.length : ∀ {xs : List α} {cells : List Value}, Cells h E sz cells xs → cells.length = xs.length * sz
  | [], cells, hc => by obtain rfl : cells = [] := hc; simp
  | x :: xs, cells, hc => by
    obtain ⟨cs, rest, rfl, h1, -, h3⟩ := hc
    rw [List.length_append, h1, Cells.length h3, List.length_cons, Nat.add_mul]; omega
theorem Cells.append : ∀ {xs ys : List α} {c d : List Value}, Cells h E sz c xs → Cells h E sz d ys → Cells h E sz (c ++ d) (xs ++ ys)
  | [], ys, c, d, hc, hd => by obtain rfl : c = [] := hc; simpa using hd
  | x :: xs, ys, c, d, hc, hd => by
    obtain ⟨cs, rest, rfl, h1, h2, h3⟩ := hc
    exact ⟨cs, rest ++ d, by simp, h1, h2, h3.append hd⟩
theorem Cells.mono (hm : ∀ cs x, E h cs x → E h' cs x) : ∀ {xs : List α} {c : List Value}, Cells h E sz c xs → Cells h' E sz c xs
  | [], c, hc => hc
  | x :: xs, c, hc => by
    obtain ⟨cs, rest, rfl, h1, h2, h3⟩ := hc
    exact ⟨cs, rest, rfl, h1, hm _ _ h2, h3.mono hm⟩
theorem Cells.one (ho : ∀ cs x, E h cs x → ∀ u ∈ cs, u.oneCell' = true) : ∀ {xs : List α} {c : List Value}, Cells h E sz c xs → ∀ u ∈ c, u.oneCell' = true
  | [], c, hc => by obtain rfl : c = [] := hc; simp
  | x :: xs, c, hc => by
    obtain ⟨cs, rest, rfl, h1, h2, h3⟩ := hc
    intro u hu
    rcases List.mem_append.1 hu with hu | hu
    · exact ho _ _ h2 u hu
    · exact h3.one ho u hu
theorem Cells.row {b : Nat} (hm : ∀ cs x, E h cs x → E h' cs x) : ∀ {xs : List α} {c : List Value} {o : Nat}, Cells h E sz c xs → (∀ j u, c[j]? = some u → cellAt h' b (o + j) = some u) → RowRep h' E sz b o xs
  | [], c, o, hc, hr => trivial
  | x :: xs, c, o, hc, hr => by
    obtain ⟨cs, rest, rfl, h1, h2, h3⟩ := hc
    refine ⟨⟨cs, h1, fun j hj => ?_, hm _ _ h2⟩, h3.row hm fun j u hu => ?_⟩
    · have : cs[j]? = some (cs.getD j undef) := by simp [List.getD_eq_getElem?_getD, List.getElem?_eq_getElem (h1 ▸ hj)]
      exact hr j _ (by rw [List.getElem?_append_left (h1 ▸ hj)]; exact this)
    · rw [Nat.add_assoc]; exact hr (sz + j) u (by rw [List.getElem?_append_right (by omega), h1]; simpa using hu)
theorem Cells.ofRow {b : Nat} : ∀ {xs : List α} {o : Nat}, RowRep h E sz b o xs → ∃ c, Cells h E sz c xs ∧ ∀ j u, c[j]? = some u → cellAt h b (o + j) = some u
  | [], o, hr => ⟨[], rfl, by simp⟩
  | x :: xs, o, hr => by
    obtain ⟨⟨cs, h1, h2, h3⟩, h4⟩ := hr
    obtain ⟨rest, h5, h6⟩ := Cells.ofRow h4
    refine ⟨cs ++ rest, ⟨cs, rest, rfl, h1, h3, h5⟩, fun j u hu => ?_⟩
    by_cases hj : j < cs.length
    · rw [List.getElem?_append_left hj] at hu
      rw [h2 j (by omega)]
      simp [List.getD_eq_getElem?_getD, hu]
    · rw [List.getElem?_append_right (by omega)] at hu
      have := h6 _ _ hu
      rw [← this]; congr 1; omega
end
def up (H : PH) (w w' : World) : PH := fun k => if k < w.heap.size then H k else ph w' k
theorem up_ple {H : PH} {w w' : World} (h : PLe H (ph w)) (e : Ext w w') : PLe (up H w w') (ph w') := by
  intro k o hk
  unfold up at hk
  split at hk
  · exact e.ple k o (h k o hk)
  · exact hk
theorem ple_up {H : PH} {w w' : World} (h : PLe H (ph w)) : PLe H (up H w w') := by
  intro k o hk
  unfold up
  rw [if_pos (ph_lt (h k o hk))]; exact hk
theorem up_none {H : PH} {w w' : World} {g : Nat} (h : H g = none) (hg : g < w.heap.size) : up H w w' g = none := by
  unfold up; rw [if_pos hg]; exact h
theorem up_mono {H H' : PH} {w w' : World} (h : PLe H H') : PLe (up H w w') (up H' w w') := by
  intro k o hk
  unfold up at *
  split at hk
  · rename_i hl; rw [if_pos hl]; exact h k o hk
  · rename_i hl; rw [if_neg hl]; exact hk
theorem up_then {H : PH} {w w1 w2 : World} (h : Ext w w1) (e : Ext w1 w2) : PLe (up H w w1) (up H w w2) := by
  intro k o hk
  unfold up at *
  split at hk
  · rename_i hl; rw [if_pos hl]; exact hk
  · rename_i hl; rw [if_neg hl]; exact e.ple k o hk
theorem up_up {H : PH} {w w1 w2 : World} (h : Ext w w1) (e : Ext w1 w2) : PLe (up (up H w w1) w1 w2) (up H w w2) := by
  intro k o hk
  unfold up at *
  by_cases h1 : k < w1.heap.size
  · rw [if_pos h1] at hk
    by_cases h2 : k < w.heap.size
    · rw [if_pos h2] at hk ⊢; exact hk
    · rw [if_neg h2] at hk ⊢; exact e.ple k o hk
  · rw [if_neg h1] at hk
    rw [if_neg (by have := h.size; omega)]; exact hk
def OwnS {α : Type} (base : Nat) (H : PH) (w : World) (E : PH → List Value → α → Prop) (sz : Nat) (T : TypeId) (v : Value) (xs : List α) : Prop :=
  (v = .slice none 0 0 ∧ xs = []) ∨
  ∃ g cap cur, v = .slice (some ⟨g, 0, none⟩) xs.length cap ∧ base ≤ g ∧ H g = none ∧ w.heap[g]? = some (.cells cur T (0, 0)) ∧ xs.length ≤ cap ∧ cap ≤ maxLen ∧ cur.size = cap * sz ∧
    Cells H E sz (cur.toList.take (xs.length * sz)) xs
def Src {α : Type} (w : World) (H : PH) (E : PH → List Value → α → Prop) (sz : Nat) (vx : Value) (ys : List α) : Prop :=
  ∃ a cap, vx = .slice a ys.length cap ∧ ys.length ≤ cap ∧ (ys = [] ∨ ∃ ad c, a = some ad ∧ Cells H E sz c ys ∧ ∀ j u, c[j]? = some u → w.cell? (ad.add j) = some u)
section
variable {α : Type} {E : PH → List Value → α → Prop} {sz : Nat} {H : PH} {w w' : World} {base : Nat} {T : TypeId} {v : Value} {xs ys : List α}
theorem add0 (g j : Nat) : (⟨g, 0, none⟩ : Addr).add j = ⟨g, j, none⟩ := by unfold Addr.add; split <;> simp_all
theorem addo (b o j : Nat) : (⟨b, o, none⟩ : Addr).add j = ⟨b, o + j, none⟩ := by unfold Addr.add; split <;> simp_all
theorem OwnS.nil (base : Nat) (H : PH) (w : World) (E : PH → List Value → α → Prop) (sz : Nat) (T : TypeId) : OwnS base H w E sz T (.slice none 0 0) [] := .inl ⟨rfl, rfl⟩
theorem OwnS.lt (h : OwnS base H w E sz T v xs) : ∀ k, v.ownBlock = some k → base ≤ k ∧ k < w.heap.size ∧ H k = none := by
  intro k hk
  rcases h with ⟨rfl, _⟩ | ⟨g, cap, cur, rfl, hb, hn, hg, _⟩
  · simp [Value.ownBlock] at hk
  · simp [Value.ownBlock] at hk; subst hk
    exact ⟨hb, (Array.getElem?_eq_some_iff.1 hg).1, hn⟩
theorem OwnS.rep (h : OwnS base H w E sz T v xs) (hm : Mono E) (hl : PLe H (ph w)) : SliceRep E sz (ph w) v xs := by
  rcases h with ⟨rfl, rfl⟩ | ⟨g, cap, cur, rfl, h1, h2, h3, h4, h5, h6, h7⟩
  · exact SliceRep.nil E sz _
  · refine ⟨_, cap, rfl, h4, h5, .inr ⟨g, 0, rfl, h7.row (fun _ _ => hm _ _ _ _ hl) fun j u hu => ?_⟩⟩
    simp only [cellAt, ph, h3, Nat.zero_add]
    rw [List.getElem?_take] at hu
    split at hu
    · simpa using hu
    · cases hu
theorem OwnS.repUp {w0 : World} (h : OwnS base H w E sz T v xs) (hm : Mono E) (hb : w0.heap.size ≤ base) (hl : PLe H (up H w0 w)) : SliceRep E sz (up H w0 w) v xs := by
  rcases h with ⟨rfl, rfl⟩ | ⟨g, cap, cur, rfl, h1, h2, h3, h4, h5, h6, h7⟩
  · exact SliceRep.nil E sz _
  · refine ⟨_, cap, rfl, h4, h5, .inr ⟨g, 0, rfl, h7.row (fun _ _ => hm _ _ _ _ hl) fun j u hu => ?_⟩⟩
    have : up H w0 w g = some (.cells cur T (0, 0)) := by unfold up; rw [if_neg (by omega)]; exact h3
    simp only [cellAt, this, Nat.zero_add]
    rw [List.getElem?_take] at hu
    split at hu
    · simpa using hu
    · cases hu
theorem Src.ofRep (h : SliceRep E sz H v xs) (hl : PLe H (ph w)) : Src w H E sz v xs := by
  obtain ⟨a, cap, rfl, h1, h2, h3⟩ := h
  refine ⟨a, cap, rfl, h1, ?_⟩
  rcases h3 with h3 | ⟨b, o, rfl, h4⟩
  · exact .inl h3
  · obtain ⟨c, h5, h6⟩ := Cells.ofRow h4
    refine .inr ⟨_, c, rfl, h5, fun j u hu => ?_⟩
    rw [addo, cell_ph]
    exact cellAt_mono hl (h6 j u hu)
theorem Src.lit1 {x : α} {cs : List Value} {b : Nat} (hE : E H cs x) (hs : cs.length = sz) (hc : ∀ j, w.cell? ⟨b, j, none⟩ = cs[j]?) : Src w H E sz (.slice (some ⟨b, 0, none⟩) 1 1) [x] :=
  ⟨_, 1, rfl, Nat.le_refl _, .inr ⟨_, cs, rfl, ⟨cs, [], by simp, hs, hE, rfl⟩, fun j u hu => by rw [add0, hc]; exact hu⟩⟩
end
section
variable {P : Program} {w : World}
theorem run_append_zero (t ty e : TypeId) (i : TypeInfo) (ht : P.underlying t = some (.slice e)) (hi : P.info? e = some i) (b : Option Addr) (n cap : Nat) (hn : n ≤ cap) (a : Option Addr) (c : Nat) :
    (Builtin.append_ #[t, t] ty #[.slice b n cap, .slice a 0 c]).run P w = .ok (.slice b n cap) w := by
  cases a <;> cases b <;> simp [Builtin.append_, run_underlying ht, sizeOf, typeInfo, hi, Builtin.lenOf, Builtin.firstCells, loadCells, loadCellsFrom, hn, storeCells]
theorem run_append_S {α : Type} {E : PH → List Value → α → Prop} {sz : Nat} {H : PH} {base : Nat} (t ty e : TypeId) (i : TypeInfo) (z : Value) (bytes : Nat)
    (ht : P.underlying t = some (.slice e)) (hi : P.info? e = some i) (hz : i.zero = some z) (hsz : i.size = sz) (hby : i.bytes = bytes) (hzs : z.cells.size = sz)
    {v vx : Value} {xs ys : List α} (hown : OwnS base H w E sz e v xs) (hsrc : Src w H E sz vx ys) (hl : PLe H (ph w)) (hb : base ≤ w.heap.size)
    (hone : ∀ cs x, E H cs x → ∀ u ∈ cs, u.oneCell' = true) (hbytes : (xs.length + ys.length) * bytes ≤ 140737488355328) (hcnt : xs.length + ys.length ≤ 140737488355328) :
    ∃ v' w', (Builtin.append_ #[t, t] ty #[v, vx]).run P w = .ok v' w' ∧ OwnS base H w' E sz e v' (xs ++ ys) ∧ w.grownBy w' v.ownBlock ∧
      (∀ k, v'.ownBlock = some k → v.ownBlock = some k ∨ w.heap.size ≤ k) := by
  subst hsz; subst hby
  obtain ⟨a, cap', rfl, hcap', hsrc⟩ := hsrc
  by_cases hy : ys = []
  · subst hy
    have hrun : (Builtin.append_ #[t, t] ty #[v, .slice a ([] : List α).length cap']).run P w = .ok v w := by
      rcases hown with ⟨rfl, rfl⟩ | ⟨g, cap, cur, rfl, h1, h2, h3, h4, h5, h6, h7⟩
      · exact run_append_zero t ty e i ht hi none 0 0 (Nat.le_refl _) a cap'
      · exact run_append_zero t ty e i ht hi _ _ cap h4 a cap'
    exact ⟨v, w, hrun, by simpa using hown, ⟨rfl, rfl, rfl, Nat.le_refl _, fun _ _ _ => rfl⟩, fun k hk => .inl hk⟩
  · rcases hsrc with h | ⟨ad, news, rfl, hnews, hcell⟩
    · exact absurd h hy
    have hlen := hnews.length
    have hpos : 0 < ys.length := List.length_pos_iff.2 hy
    have hfresh : H w.heap.size = none := by
      cases hx : H w.heap.size with
      | none => rfl
      | some o => exact absurd (ph_lt (hl _ _ hx)) (by omega)
    have mk : ∀ (olds : List Value) (c : Nat), Cells H E i.size olds xs → xs.length + ys.length ≤ c → c ≤ maxLen → ∀ (row : Option Nat),
        OwnS base H (w.drew.alloc (.cells (olds.toArray ++ news.toArray ++ Builtin.zeroCells z.cells (c - (xs.length + ys.length))) e)) E i.size e (.slice (some ⟨w.heap.size, 0, none⟩) (xs.length + ys.length) c) (xs ++ ys) ∧
        w.grownBy (w.drew.alloc (.cells (olds.toArray ++ news.toArray ++ Builtin.zeroCells z.cells (c - (xs.length + ys.length))) e)) row := by
      intro olds c hold hc1 hc2 row
      have hol := hold.length
      refine ⟨.inr ⟨w.heap.size, c, _, by simp, hb, hfresh, heap_alloc_new w.drew _, by simpa using hc1, hc2, ?_, ?_⟩, ⟨rfl, rfl, rfl, by simp, fun k hk _ => Below.heap_alloc w.drew _ k hk⟩⟩
      · simp only [Array.size_append, List.size_toArray, size_zeroCells, hzs, hol, hlen, ← Nat.add_mul]
        congr 1; omega
      · have : (olds.toArray ++ news.toArray ++ Builtin.zeroCells z.cells (c - (xs.length + ys.length))).toList.take ((xs ++ ys).length * i.size) = olds ++ news := by
          simp only [Array.toList_append, List.append_assoc]
          rw [← List.append_assoc, List.length_append, Nat.add_mul, ← hol, ← hlen, ← List.length_append]
          exact List.take_left
        rw [this]
        exact hold.append hnews
    rcases hown with ⟨rfl, rfl⟩ | ⟨g, cap, cur, rfl, h1, h2, h3, h4, h5, h6, h7⟩
    · have hr := run_append_nil (P := P) w t ty e i z ht hi hz ad ys.length cap' news hlen hcell hpos (by omega) (by simp only [List.length_nil, Nat.zero_add] at hbytes; omega)
      have hm := mk [] (grownCap w ys.length 0 e) rfl (by simpa using grownCap_ge w ys.length 0 e) (grownCap_le_maxLen w ys.length 0 e (by simp only [maxLen, List.length_nil] at hcnt ⊢; omega)) (Value.ownBlock (.slice none 0 0))
      simp only [List.length_nil, Nat.zero_add, List.nil_append] at hm
      refine ⟨_, _, hr, ?_, ?_, fun k hk => .inr (by simp [Value.ownBlock] at hk; omega)⟩
      · simpa using hm.1
      · simpa using hm.2
    · by_cases hroom : xs.length + ys.length ≤ cap
      · have hfit : xs.length * i.size + news.length ≤ cur.size := by rw [hlen, h6, ← Nat.add_mul]; exact Nat.mul_le_mul_right _ hroom
        have hr := run_append_room (P := P) w t ty e i ht hi g xs.length cap cur h3 ad ys.length cap' news hlen hcell (hnews.one hone) hroom hfit
        refine ⟨_, _, hr, .inr ⟨g, cap, _, by simp, h1, h2, setRow_heap w g cur _ e _ h3, by simpa using hroom, h5, ?_, ?_⟩, ⟨rfl, rfl, rfl, by simp, fun k _ hk => setRow_other w g k _ (fun e => hk (by simp [Value.ownBlock, e]))⟩, fun k hk => .inl hk⟩
        · simp only [List.size_toArray, List.length_append, List.length_take, List.length_drop, Array.length_toList]
          omega
        · have hl7 := h7.length
          have : ((cur.toList.take (xs.length * i.size) ++ news ++ cur.toList.drop (xs.length * i.size + news.length)).toArray).toList.take ((xs ++ ys).length * i.size) = cur.toList.take (xs.length * i.size) ++ news := by
            simp only []
            rw [List.length_append, Nat.add_mul, ← hl7, ← hlen, ← List.length_append]
            rw [hl7]
            exact List.take_left' (by first | (simp only [List.length_append, List.length_take]; done) | (simp only [List.length_append, List.length_take]; omega))
          rw [this]
          exact h7.append hnews
      · have holds : ∀ j u, (cur.toList.take (xs.length * i.size))[j]? = some u → w.cell? ((⟨g, 0, none⟩ : Addr).add j) = some u := by
          intro j u hu
          rw [add0, cell_of_row w g j cur e (0, 0) h3]
          rw [List.getElem?_take] at hu
          split at hu
          · simpa using hu
          · cases hu
        have hr := run_append_grow (P := P) w t ty e i z ht hi hz ⟨g, 0, none⟩ xs.length cap _ h7.length holds ad ys.length cap' news hlen hcell (by omega) (by omega) (growslice_fits (by omega) hbytes)
        have hm := mk _ (grownCap w (xs.length + ys.length) cap e) h7 (grownCap_ge _ _ _ _) (grownCap_le_maxLen _ _ _ _ (by simp only [maxLen]; omega)) (Value.ownBlock (.slice (some ⟨g, 0, none⟩) xs.length cap))
        exact ⟨_, _, hr, hm.1, hm.2, fun k hk => .inr (by simp [Value.ownBlock] at hk; omega)⟩
theorem wpList_append_S {α : Type} {E : PH → List Value → α → Prop} {sz : Nat} {H : PH} {base : Nat} {ops : Array Oper} {rest : List Oper} {o : Oper} {a : Act} {Q : Exit → Act → World → Prop} (hgd : o.guard = none) (s x : Operand) (t e : TypeId)
    (ho : o.op = .call { callee := .builtin .append, args := #[s, x], argTypes := #[t, t] }) (z : Value) (bytes : Nat)
    (ht : P.underlying t = some (.slice e)) (hinfo : (P.info? e).map (fun i => (i.zero, i.size, i.bytes)) = some (some z, sz, bytes)) (hzs : z.cells.size = sz)
    {v vx : Value} {xs ys : List α} (hs : a.eval s = v) (hx : a.eval x = vx) (hown : OwnS base H w E sz e v xs) (hsrc : Src w H E sz vx ys) (hl : PLe H (ph w)) (hb : base ≤ w.heap.size)
    (hone : ∀ cs x, E H cs x → ∀ u ∈ cs, u.oneCell' = true) (hbytes : (xs.length + ys.length) * bytes ≤ 140737488355328) (hcnt : xs.length + ys.length ≤ 140737488355328)
    (h : ∀ v' w', OwnS base H w' E sz e v' (xs ++ ys) → w.grownBy w' v.ownBlock → (∀ k, v'.ownBlock = some k → v.ownBlock = some k ∨ w.heap.size ≤ k) → wpList P ops Q rest (a.put o.dst v') w') :
    wpList P ops Q (o :: rest) a w := by
  obtain ⟨i, hi, hz0, hz1, hz2⟩ := info_parts hinfo
  obtain ⟨v', w', hr, h2, h3, h4⟩ := run_append_S (P := P) (w := w) t o.type e i z bytes ht hi hz0 hz1 hz2 hzs hown hsrc hl hb hone hbytes hcnt
  refine wpList_plain hgd fun _ hK => ?_
  unfold Oper.wp execOp
  simp only [ho, resolve, invoke, builtin, Sem.run_bind, Sem.run_pure, Result.andThen_ok, List.map_toArray, List.map_cons, List.map_nil, hs, hx, hr]
  exact hK _ _ (h v' w' h2 h3 h4)
theorem Own.grown {w w' : World} {b : Nat} {c : Array Value} {T : TypeId} {row : Option Nat} (h : Own w b c T) (g : w.grownBy w' row) (hne : some b ≠ row) : Own w' b c T := by
  unfold Own; rw [g.block b h.lt hne]; exact h
theorem Ext.grown {w0 w w' : World} {row : Option Nat} (h : Ext w0 w) (g : w.grownBy w' row) (hr : ∀ k, row = some k → w0.heap.size ≤ k) : Ext w0 w' := Below.grown h g h.size hr
end
theorem infoInt : (Tryz.prog.info? 3).map (fun i => (i.zero, i.size, i.bytes)) = some (some (.int .i64 0), 1, 8) := by kernel_rfl
theorem one_IntR {h : PH} : ∀ cs x, IntR h cs x → ∀ u ∈ cs, u.oneCell' = true := by
  rintro cs x ⟨rfl, -⟩ u hu
  obtain rfl := List.mem_singleton.1 hu
  rfl
abbrev noH : PH := fun _ => none
theorem noH_le (h : PH) : PLe noH h := fun _ _ hk => by cases hk
abbrev OwnI (base : Nat) (w : World) : Value → List Int → Prop := OwnS base noH w IntR 1 3
theorem RetV_at {P : Program} {f : FuncId} {args : Array Value} {w : World} {v : Value} {K : Ending → World → Prop} (h : Calls P f args w (RetV w v)) (hK : ∀ w', Ext w w' → K (.returned v) w') : Calls P f args w K :=
  h.mono fun e w' ⟨h1, h2⟩ => by subst h1; exact hK w' h2
def RetP (w : World) (v : Value) (e : Ending) (w' : World) : Prop := e = .returned v ∧ w = w'
theorem RetP_at {P : Program} {f : FuncId} {args : Array Value} {w : World} {v : Value} {K : Ending → World → Prop} (h : Calls P f args w (RetP w v)) (hK : K (.returned v) w) : Calls P f args w K :=
  h.mono fun e w' ⟨h1, h2⟩ => by subst h1 h2; exact hK
structure Chunk where
  foot : Option Nat
  ok : PH → World → Prop
  lt : ∀ {H w k}, ok H w → foot = some k → k < w.heap.size
  loc : ∀ {H w w'}, ok H w → (∀ k, foot = some k → w'.heap[k]? = w.heap[k]?) → ok H w'
  mono : ∀ {H H' w}, ok H w → PLe H H' → ok H' w
def box (b : Nat) (c : Array Value) (T : TypeId) : Chunk where
  foot := some b
  ok := fun _ w => Own w b c T
  lt := fun h e => by cases e; exact h.lt
  loc := fun h e => by unfold Own at *; rw [e b rfl]; exact h
  mono := fun h _ => h
def OwnC {α : Type} (H : PH) (w : World) (E : PH → List Value → α → Prop) (sz : Nat) (T : TypeId) (v : Value) (xs : List α) : Prop :=
  (v = .slice none 0 0 ∧ xs = []) ∨
  ∃ g cap cur, v = .slice (some ⟨g, 0, none⟩) xs.length cap ∧ w.heap[g]? = some (.cells cur T (0, 0)) ∧ xs.length ≤ cap ∧ cap ≤ maxLen ∧ cur.size = cap * sz ∧ Cells H E sz (cur.toList.take (xs.length * sz)) xs
def own {α : Type} {E : PH → List Value → α → Prop} (hm : Mono E) (sz : Nat) (T : TypeId) (v : Value) (xs : List α) : Chunk where
  foot := v.ownBlock
  ok := fun H w => OwnC H w E sz T v xs
  lt := fun h e => by
    rcases h with ⟨rfl, _⟩ | ⟨g, cap, cur, rfl, h1, _⟩
    · cases e
    · cases e; exact (Array.getElem?_eq_some_iff.1 h1).1
  loc := fun h e => by
    rcases h with h | ⟨g, cap, cur, rfl, h1, h2⟩
    · exact .inl h
    · exact .inr ⟨g, cap, cur, rfl, by rw [e g rfl]; exact h1, h2⟩
  mono := fun h hl => by
    rcases h with h | ⟨g, cap, cur, rfl, h1, h2, h3, h4, h5⟩
    · exact .inl h
    · exact .inr ⟨g, cap, cur, rfl, h1, h2, h3, h4, h5.mono fun _ _ => hm _ _ _ _ hl⟩
def nop : Chunk := ⟨none, fun _ _ => True, fun _ e => (by cases e), fun _ _ => trivial, fun _ _ => trivial⟩
structure Mem (w0 : World) (H0 : PH) (L : List Chunk) (H : PH) (w : World) : Prop where
  l0 : PLe H0 (ph w0)
  le : PLe H0 H
  ub : PLe H (up H0 w0 w)
  ex : Ext w0 w
  ok : ∀ (i : Nat) (c : Chunk), L[i]? = some c → c.ok H w
  fr : ∀ (i : Nat) (c : Chunk), L[i]? = some c → ∀ k, c.foot = some k → w0.heap.size ≤ k ∧ H k = none
  ap : ∀ (i j : Nat) (c d : Chunk), i ≠ j → L[i]? = some c → L[j]? = some d → ∀ k, c.foot = some k → d.foot ≠ some k
theorem up_sub {H : PH} {w w1 w' : World} (h : PLe H (ph w)) (e : Ext w w1) : PLe (up H w1 w') (up H w w') := by
  intro k o hk
  unfold up at *
  have := e.size
  split at hk
  · have h1 := ph_lt (h k o hk); rw [if_pos h1]; exact hk
  · rw [if_neg (by omega)]; exact hk
theorem Cells.get {α : Type} {E : PH → List Value → α → Prop} {H : PH} {sz : Nat} : ∀ {xs : List α} {c : List Value} (k : Nat) (h : k < xs.length), Cells H E sz c xs → ∃ cs, cs.length = sz ∧ (∀ j, j < sz → c[k * sz + j]? = some (cs.getD j undef)) ∧ E H cs xs[k]
  | [], _, k, hk, _ => by simp at hk
  | y :: ys, c, 0, _, hc => by
    obtain ⟨cs, rest, rfl, h1, h2, h3⟩ := hc
    exact ⟨cs, h1, fun j hj => by rw [Nat.zero_mul, Nat.zero_add, List.getElem?_append_left (by omega)]; simp [List.getD_eq_getElem?_getD, show j < cs.length by omega], h2⟩
  | y :: ys, c, k + 1, hk, hc => by
    obtain ⟨cs, rest, rfl, h1, h2, h3⟩ := hc
    obtain ⟨ds, g1, g2, g3⟩ := Cells.get k (by simpa using hk) h3
    refine ⟨ds, g1, fun j hj => ?_, g3⟩
    rw [List.getElem?_append_right (by rw [Nat.add_mul]; omega), ← g2 j hj]
    congr 1; rw [Nat.add_mul]; omega
section
variable {w0 w w' : World} {H0 H : PH} {L : List Chunk}
theorem Mem.start (w : World) (H : PH) (h : PLe H (ph w)) : Mem w H [] H w :=
  ⟨h, PLe.refl _, ple_up h, Ext.rfl' w, by simp, by simp, by simp⟩
theorem Mem.ple (h : Mem w0 H0 L H w) : PLe H (ph w) := h.ub.trans (up_ple h.l0 h.ex)
theorem Mem.lt (h : Mem w0 H0 L H w) {i : Nat} {c : Chunk} (hi : L[i]? = some c) {k : Nat} (hk : c.foot = some k) : k < w.heap.size := c.lt (h.ok i c hi) hk
theorem Mem.ext (h : Mem w0 H0 L H w) (e : Ext w w') : Mem w0 H0 L H w' :=
  ⟨h.l0, h.le, h.ub.trans (up_then h.ex e), h.ex.then e, fun i c hi => c.loc (h.ok i c hi) fun k hk => e.block k (h.lt hi hk), h.fr, h.ap⟩
theorem Mem.up (h : Mem w0 H0 L H w) (e : Ext w w') : Mem w0 H0 L (up H w w') w' := by
  have hl : PLe H (Proofs.YtabajghokhfmhaaGreat.up H w w') := ple_up h.ple
  exact ⟨h.l0, h.le.trans hl, (up_mono h.ub).trans (up_up h.ex e), h.ex.then e, fun i c hi => c.mono (c.loc (h.ok i c hi) fun k hk => e.block k (h.lt hi hk)) hl,
    fun i c hi k hk => ⟨(h.fr i c hi k hk).1, up_none (h.fr i c hi k hk).2 (h.lt hi hk)⟩, h.ap⟩
theorem getElem?_snoc {α : Type} {l : List α} {x y : α} {i : Nat} (h : (l ++ [x])[i]? = some y) : l[i]? = some y ∨ i = l.length ∧ x = y := by
  rcases Nat.lt_trichotomy i l.length with hi | hi | hi
  · rw [List.getElem?_append_left hi] at h; exact .inl h
  · subst hi; simp at h; exact .inr ⟨rfl, h⟩
  · rw [List.getElem?_append_right (by omega), List.getElem?_eq_none (by simp; omega)] at h; cases h
theorem Mem.add (h : Mem w0 H0 L H w) (c : Chunk) (hc : c.ok H w) (hf : ∀ k, c.foot = some k → w0.heap.size ≤ k ∧ H k = none ∧ ∀ (i : Nat) (d : Chunk), L[i]? = some d → d.foot ≠ some k) : Mem w0 H0 (L ++ [c]) H w := by
  refine ⟨h.l0, h.le, h.ub, h.ex, fun i d hi => ?_, fun i d hi k hk => ?_, fun i j d e hij hi hj k hk he => ?_⟩
  · rcases getElem?_snoc hi with hi | ⟨-, rfl⟩
    · exact h.ok i d hi
    · exact hc
  · rcases getElem?_snoc hi with hi | ⟨-, rfl⟩
    · exact h.fr i d hi k hk
    · exact ⟨(hf k hk).1, (hf k hk).2.1⟩
  · rcases getElem?_snoc hi with h1 | ⟨h1, rfl⟩
    · rcases getElem?_snoc hj with h2 | ⟨h2, rfl⟩
      · exact h.ap i j d e hij h1 h2 k hk he
      · exact (hf k he).2.2 i d h1 hk
    · rcases getElem?_snoc hj with h2 | ⟨h2, rfl⟩
      · exact (hf k hk).2.2 j e h2 he
      · exact hij (h1.trans h2.symm)
theorem fresh_none (h : PLe H (ph w)) {k : Nat} (hk : w.heap.size ≤ k) : H k = none := by
  cases hx : H k with
  | none => rfl
  | some o => exact absurd (ph_lt (h _ _ hx)) (by omega)
theorem Mem.new (h : Mem w0 H0 L H w) (c : Array Value) (T : TypeId) : Mem w0 H0 (L ++ [box w.heap.size c T]) H (w.alloc (.cells c T)) := by
  refine (h.ext (Ext.new w _)).add _ (Own.new w c T) fun k hk => ?_
  cases hk
  exact ⟨h.ex.size, fresh_none h.ple (Nat.le_refl _), fun i d hi he => by have := h.lt hi he; omega⟩
theorem Mem.new' (h : Mem w0 H0 L H w) (c : Array Value) (T : TypeId) {n : Nat} (hn : n = w.heap.size) : Mem w0 H0 (L ++ [box n c T]) H (w.alloc (.cells c T)) := by
  subst hn; exact h.new c T
theorem Mem.nil (h : Mem w0 H0 L H w) {α : Type} {E : PH → List Value → α → Prop} (hm : Mono E) (sz : Nat) (T : TypeId) : Mem w0 H0 (L ++ [own hm sz T (.slice none 0 0) ([] : List α)]) H w :=
  h.add _ (.inl ⟨rfl, rfl⟩) fun k hk => by cases hk
theorem Mem.put (h : Mem w0 H0 L H w) (i : Nat) {c c' : Chunk} (hi : L[i]? = some c) (hok : c'.ok H w') (hf : ∀ k, c'.foot = some k → c.foot = some k ∨ w.heap.size ≤ k) (he : Ext w0 w')
    (hb : ∀ k, k < w.heap.size → c.foot ≠ some k → w'.heap[k]? = w.heap[k]?) : Mem w0 H0 (L.set i c') H w' := by
  have hil : i < L.length := (List.getElem?_eq_some_iff.1 hi).1
  have get : ∀ {j d}, (L.set i c')[j]? = some d → j = i ∧ d = c' ∨ j ≠ i ∧ L[j]? = some d := by
    intro j d hj
    by_cases hij : i = j
    · subst hij; rw [List.getElem?_set_self hil] at hj; exact .inl ⟨rfl, (Option.some.inj hj).symm⟩
    · rw [List.getElem?_set_ne hij] at hj; exact .inr ⟨Ne.symm hij, hj⟩
  refine ⟨h.l0, h.le, fun k o hk => ?_, he, fun j d hj => ?_, fun j d hj k hk => ?_, fun j l d e hjl hj hl k hk hke => ?_⟩
  · have h1 := h.ub k o hk
    unfold Proofs.YtabajghokhfmhaaGreat.up at *
    split
    · rename_i hlt; rw [if_pos hlt] at h1; exact h1
    · rename_i hlt; rw [if_neg hlt] at h1
      show w'.heap[k]? = some o
      rw [hb k (ph_lt h1) fun e => by rw [(h.fr i c hi k e).2] at hk; cases hk]
      exact h1
  · rcases get hj with ⟨-, rfl⟩ | ⟨hji, hj⟩
    · exact hok
    · exact d.loc (h.ok j d hj) fun k hk => hb k (h.lt hj hk) fun e => h.ap i j c d (Ne.symm hji) hi hj k e hk
  · rcases get hj with ⟨-, rfl⟩ | ⟨-, hj⟩
    · rcases hf k hk with h1 | h1
      · exact h.fr i c hi k h1
      · exact ⟨Nat.le_trans h.ex.size h1, fresh_none h.ple h1⟩
    · exact h.fr j d hj k hk
  · rcases get hj with ⟨h1, rfl⟩ | ⟨h1, g1⟩
    · rcases get hl with ⟨h2, rfl⟩ | ⟨h2, g2⟩
      · exact hjl (h1.trans h2.symm)
      · rcases hf k hk with h3 | h3
        · exact h.ap i l c e (Ne.symm h2) hi g2 k h3 hke
        · have := h.lt g2 hke; omega
    · rcases get hl with ⟨h2, rfl⟩ | ⟨h2, g2⟩
      · rcases hf k hke with h3 | h3
        · exact h.ap i j c d (Ne.symm h1) hi g1 k h3 hk
        · have := h.lt g1 hk; omega
      · exact h.ap j l d e hjl g1 g2 k hk hke
theorem Mem.set (h : Mem w0 H0 L H w) (i : Nat) {b : Nat} {c : Array Value} {T : TypeId} (hi : L[i]? = some (box b c T)) (j : Nat) (v : Value) : Mem w0 H0 (L.set i (box b (c.setIfInBounds j v) T)) H (w.setCell ⟨b, j, none⟩ v) := by
  refine h.put i hi (Own.set (h.ok i _ hi) j v) (fun k hk => .inl hk) (h.ex.set' (h.fr i _ hi b rfl).1 v) fun k hk hne => ?_
  rw [Below.heap_setCell _ _ _ _ (fun e => hne (by rw [e]; rfl))]
theorem Mem.pick (h : Mem w0 H0 L H w) (idx : List Nat) (hn : idx.Nodup) : Mem w0 H0 (idx.map fun i => (L[i]?).getD nop) H w := by
  have get : ∀ {i : Nat} {c}, (idx.map fun i => (L[i]?).getD nop)[i]? = some c → ∃ j, idx[i]? = some j ∧ (L[j]? = some c ∨ c = nop) := by
    intro i c hi
    rw [List.getElem?_map] at hi
    cases hx : idx[i]? with
    | none => simp [hx] at hi
    | some j =>
      simp only [hx, Option.map_some, Option.some.injEq] at hi
      refine ⟨j, rfl, ?_⟩
      cases hy : L[j]? with
      | none => simp [hy] at hi; exact .inr hi.symm
      | some d => simp [hy] at hi; subst hi; exact .inl rfl
  refine ⟨h.l0, h.le, h.ub, h.ex, fun i c hi => ?_, fun i c hi k hk => ?_, fun i j c d hij hi hj k hk hk' => ?_⟩
  · obtain ⟨j, -, hj | rfl⟩ := get hi
    · exact h.ok j c hj
    · trivial
  · obtain ⟨j, -, hj | rfl⟩ := get hi
    · exact h.fr j c hj k hk
    · cases hk
  · obtain ⟨i', h1, h2 | rfl⟩ := get hi
    · obtain ⟨j', h3, h4 | rfl⟩ := get hj
      · refine h.ap i' j' c d (fun e => ?_) h2 h4 k hk hk'
        subst e
        obtain ⟨hil, h1⟩ := List.getElem?_eq_some_iff.1 h1
        obtain ⟨hjl, h3⟩ := List.getElem?_eq_some_iff.1 h3
        exact hij ((List.getElem_inj hn).1 (h1.trans h3.symm))
      · cases hk'
    · cases hk
theorem Mem.box (h : Mem w0 H0 L H w) (i : Nat) {b : Nat} {c : Array Value} {T : TypeId} (hi : L[i]? = some (box b c T)) : Own w b c T := h.ok i _ hi
section
variable {α : Type} {E : PH → List Value → α → Prop} {hm : Mono E} {sz : Nat} {T : TypeId} {v : Value} {xs ys : List α}
theorem OwnC.form (h : OwnC H w E sz T v xs) : ∃ a cap, v = .slice a xs.length cap ∧ xs.length ≤ 9223372036854775807 := by
  rcases h with ⟨rfl, rfl⟩ | ⟨g, cap, cur, rfl, h1, h2, h3, h4, h5⟩
  · exact ⟨none, 0, rfl, by simp⟩
  · exact ⟨_, cap, rfl, by unfold maxLen at h3; omega⟩
theorem Mem.ownS (h : Mem w0 H0 L H w) (i : Nat) (hi : L[i]? = some (own hm sz T v xs)) : OwnS w0.heap.size H w E sz T v xs := by
  have h1 : OwnC H w E sz T v xs := h.ok i _ hi
  rcases h1 with h1 | ⟨g, cap, cur, rfl, h1, h2, h3, h4, h5⟩
  · exact .inl h1
  · have := h.fr i _ hi g rfl
    exact .inr ⟨g, cap, cur, rfl, this.1, this.2, h1, h2, h3, h4, h5⟩
theorem OwnS.c {base : Nat} (h : OwnS base H w E sz T v xs) : OwnC H w E sz T v xs := by
  rcases h with h | ⟨g, cap, cur, rfl, h1, h2, h3, h4, h5, h6, h7⟩
  · exact .inl h
  · exact .inr ⟨g, cap, cur, rfl, h3, h4, h5, h6, h7⟩
theorem Mem.form (h : Mem w0 H0 L H w) (i : Nat) (hi : L[i]? = some (own hm sz T v xs)) : ∃ a cap, v = .slice a xs.length cap ∧ xs.length ≤ 9223372036854775807 := OwnC.form (h.ok i _ hi)
theorem Mem.rep (h : Mem w0 H0 L H w) (i : Nat) (hi : L[i]? = some (own hm sz T v xs)) : SliceRep E sz (ph w) v xs := (h.ownS i hi).rep hm h.ple
theorem Mem.get (h : Mem w0 H0 L H w) (i : Nat) (hi : L[i]? = some (own hm sz T v xs)) (k : Nat) (hk : k < xs.length) : ∃ g cap cs, v = .slice (some ⟨g, 0, none⟩) xs.length cap ∧ cs.length = sz ∧ (∀ j, j < sz → w.cell? ⟨g, k * sz + j, none⟩ = some (cs.getD j undef)) ∧ E H cs xs[k] ∧ g < w.heap.size := by
  have h4 : OwnC H w E sz T v xs := h.ok i _ hi
  rcases h4 with ⟨rfl, rfl⟩ | ⟨g, cap, cur, rfl, k1, k2, k3, k4, k5⟩
  · simp at hk
  · obtain ⟨cs, h1, h2, h3⟩ := k5.get k hk
    refine ⟨g, cap, cs, rfl, h1, fun j hj => ?_, h3, (Array.getElem?_eq_some_iff.1 k1).1⟩
    have := h2 j hj
    rw [List.getElem?_take] at this
    split at this
    · rw [cell_of_row w g _ cur T (0, 0) k1]; simpa using this
    · cases this
theorem Mem.freeze (h : Mem w0 H0 L H w) (i : Nat) {c : Chunk} (hi : L[i]? = some c) : ∃ H', PLe H H' ∧ Mem w0 H0 (L.set i nop) H' w ∧ ∀ k, c.foot = some k → H' k = w.heap[k]? := by
  have hil : i < L.length := (List.getElem?_eq_some_iff.1 hi).1
  have get : ∀ {j d}, (L.set i nop)[j]? = some d → j = i ∧ d = nop ∨ j ≠ i ∧ L[j]? = some d := by
    intro j d hj
    by_cases hij : i = j
    · subst hij; rw [List.getElem?_set_self hil] at hj; exact .inl ⟨rfl, (Option.some.inj hj).symm⟩
    · rw [List.getElem?_set_ne hij] at hj; exact .inr ⟨Ne.symm hij, hj⟩
  refine ⟨fun k => if c.foot = some k then w.heap[k]? else H k, ?_, ?_, fun k hk => by simp [hk]⟩
  · intro k o hk
    show (if c.foot = some k then w.heap[k]? else H k) = some o
    rw [if_neg fun e => by rw [(h.fr i c hi k e).2] at hk; cases hk]
    exact hk
  · have hle : PLe H fun k => if c.foot = some k then w.heap[k]? else H k := by
      intro k o hk
      show (if c.foot = some k then w.heap[k]? else H k) = some o
      rw [if_neg fun e => by rw [(h.fr i c hi k e).2] at hk; cases hk]
      exact hk
    refine ⟨h.l0, h.le.trans hle, fun k o hk => ?_, h.ex, fun j d hj => ?_, fun j d hj k hk => ?_, fun j l d e hjl hj hl k hk hke => ?_⟩
    · split at hk
      · rename_i hf
        unfold Proofs.YtabajghokhfmhaaGreat.up
        rw [if_neg (by have := (h.fr i c hi k hf).1; omega)]
        exact hk
      · exact h.ub k o hk
    · rcases get hj with ⟨-, rfl⟩ | ⟨-, hj⟩
      · trivial
      · exact d.mono (h.ok j d hj) hle
    · rcases get hj with ⟨-, rfl⟩ | ⟨hji, hj⟩
      · cases hk
      · refine ⟨(h.fr j d hj k hk).1, ?_⟩
        show (if c.foot = some k then w.heap[k]? else H k) = none
        rw [if_neg fun e => h.ap i j c d (Ne.symm hji) hi hj k e hk]
        exact (h.fr j d hj k hk).2
    · rcases get hj with ⟨h1, rfl⟩ | ⟨h1, hj⟩
      · cases hk
      · rcases get hl with ⟨h2, rfl⟩ | ⟨h2, hl⟩
        · cases hke
        · exact h.ap j l d e hjl hj hl k hk hke
theorem Mem.freezeS (h : Mem w0 H0 L H w) (i : Nat) (hi : L[i]? = some (own hm sz T v xs)) : ∃ H', PLe H H' ∧ Mem w0 H0 (L.set i nop) H' w ∧ SliceRep E sz H' v xs := by
  obtain ⟨H', h1, h2, h3⟩ := h.freeze i hi
  refine ⟨H', h1, h2, ?_⟩
  have h4 : OwnC H w E sz T v xs := h.ok i _ hi
  rcases h4 with ⟨rfl, rfl⟩ | ⟨g, cap, cur, rfl, k1, k2, k3, k4, k5⟩
  · exact SliceRep.nil E sz _
  · refine ⟨_, cap, rfl, k2, k3, .inr ⟨g, 0, rfl, k5.row (fun _ _ => hm _ _ _ _ h1) fun j u hu => ?_⟩⟩
    have : H' g = some (.cells cur T (0, 0)) := by rw [h3 g rfl]; exact k1
    simp only [cellAt, this, Nat.zero_add]
    rw [List.getElem?_take] at hu
    split at hu
    · simpa using hu
    · cases hu
theorem Mem.repUp (h : Mem w0 H0 L H w) (i : Nat) (hi : L[i]? = some (own hm sz T v xs)) : SliceRep E sz (Proofs.YtabajghokhfmhaaGreat.up H0 w0 w) v xs := by
  have h1 := h.ownS i hi
  rcases h1 with ⟨rfl, rfl⟩ | ⟨g, cap, cur, rfl, h1, h2, h3, h4, h5, h6, h7⟩
  · exact SliceRep.nil E sz _
  · refine ⟨_, cap, rfl, h4, h5, .inr ⟨g, 0, rfl, h7.row (fun _ _ => hm _ _ _ _ h.ub) fun j u hu => ?_⟩⟩
    have : Proofs.YtabajghokhfmhaaGreat.up H0 w0 w g = some (.cells cur T (0, 0)) := by unfold Proofs.YtabajghokhfmhaaGreat.up; rw [if_neg (by omega)]; exact h3
    simp only [cellAt, this, Nat.zero_add]
    rw [List.getElem?_take] at hu
    split at hu
    · simpa using hu
    · cases hu
theorem Mem.asOwn (h : Mem w0 H0 L H w) (i : Nat) {g n : Nat} {cur : Array Value} (hi : L[i]? = some (Proofs.YtabajghokhfmhaaGreat.box g cur T)) (hm : Mono E) (hn : xs.length ≤ n) (hmx : n ≤ maxLen) (hs : cur.size = n * sz) (hc : Cells H E sz (cur.toList.take (xs.length * sz)) xs) :
    Mem w0 H0 (L.set i (own hm sz T (.slice (some ⟨g, 0, none⟩) xs.length n) xs)) H w :=
  h.put i hi (c' := own hm sz T _ xs) (.inr ⟨g, n, cur, rfl, h.ok i _ hi, hn, hmx, hs, hc⟩) (fun k hk => .inl hk) h.ex fun _ _ _ => rfl
theorem wpList_append_M {P : Program} {ops : Array Oper} {rest : List Oper} {o : Oper} {a : Act} {Q : Exit → Act → World → Prop} (i : Nat) (hgd : o.guard = none) (s x : Operand) (t : TypeId)
    (ho : o.op = .call { callee := .builtin .append, args := #[s, x], argTypes := #[t, t] }) {z : Value} {bytes : Nat}
    (ht : P.underlying t = some (.slice T)) (hinfo : (P.info? T).map (fun i => (i.zero, i.size, i.bytes)) = some (some z, sz, bytes)) (hzs : z.cells.size = sz)
    {vx : Value} (hs : a.eval s = v) (hx : a.eval x = vx) (hS : Mem w0 H0 L H w) (hi : L[i]? = some (own hm sz T v xs)) (hsrc : Src w H E sz vx ys)
    (hone : ∀ cs x, E H cs x → ∀ u ∈ cs, u.oneCell' = true) (hbytes : (xs.length + ys.length) * bytes ≤ 140737488355328) (hcnt : xs.length + ys.length ≤ 140737488355328)
    (h : ∀ v' w', Mem w0 H0 (L.set i (own hm sz T v' (xs ++ ys))) H w' → wpList P ops Q rest (a.put o.dst v') w') :
    wpList P ops Q (o :: rest) a w := by
  refine wpList_append_S hgd s x t T ho z bytes ht hinfo hzs hs hx (hS.ownS i hi) hsrc hS.ple hS.ex.size hone hbytes hcnt fun v' w' h1 h2 h3 => h v' w' ?_
  refine hS.put i hi (c' := own hm sz T v' (xs ++ ys)) h1.c h3 (hS.ex.grown h2 fun k hk => (hS.fr i _ hi k hk).1) fun k hk hne => h2.block k hk (fun e => hne e.symm)
end
end
end Go.Proofs.YtabajghokhfmhaaGreat
namespace Go.Proofs.YtabajghokhfmhaaGreat
open Go.RowKit
section
variable {w0 w w' : World} {H0 H : PH} {L : List Chunk}
variable {α : Type} {E : PH → List Value → α → Prop} {hm : Mono E} {sz : Nat} {T : TypeId} {v : Value} {xs ys : List α}
theorem Mem.take (h : Mem w0 H0 L H w) (e : Ext w w') {H' : PH} (ho : OwnS w.heap.size H' w' E sz T v xs) (hm : Mono E) (hl : PLe H' (Proofs.YtabajghokhfmhaaGreat.up noH w w')) : ∃ H2, PLe H H2 ∧ PLe H' H2 ∧ Mem w0 H0 (L ++ [own hm sz T v xs]) H2 w' := by
  have hge : ∀ k o, H' k = some o → w.heap.size ≤ k := by
    intro k o hk
    have := hl k o hk
    unfold Proofs.YtabajghokhfmhaaGreat.up at this
    split at this
    · cases this
    · omega
  have h1 : PLe H fun k => if k < w.heap.size then H k else H' k := by
    intro k o hk
    show (if k < w.heap.size then H k else H' k) = some o
    rw [if_pos (ph_lt (h.ple k o hk))]; exact hk
  have h2 : PLe H' fun k => if k < w.heap.size then H k else H' k := by
    intro k o hk
    show (if k < w.heap.size then H k else H' k) = some o
    rw [if_neg (by have := hge k o hk; omega)]; exact hk
  refine ⟨_, h1, h2, ?_⟩
  have hM : Mem w0 H0 L (fun k => if k < w.heap.size then H k else H' k) w' := by
    refine ⟨h.l0, h.le.trans h1, fun k o hk => ?_, h.ex.then e, fun i c hi => c.mono (c.loc (h.ok i c hi) fun k hk => e.block k (h.lt hi hk)) h1, fun i c hi k hk => ⟨(h.fr i c hi k hk).1, ?_⟩, h.ap⟩
    · split at hk
      · exact up_then h.ex e k o (h.ub k o hk)
      · have h3 := hl k o hk
        have := h.ex.size
        unfold Proofs.YtabajghokhfmhaaGreat.up at h3 ⊢
        rw [if_neg (by omega)] at h3 ⊢
        exact h3
    · show (if k < w.heap.size then H k else H' k) = none
      rw [if_pos (h.lt hi hk)]; exact (h.fr i c hi k hk).2
  refine hM.add _ ?_ fun k hk => ?_
  · have h3 := ho.c
    exact (own hm sz T v xs).mono h3 h2
  · have h3 := ho.lt k hk
    refine ⟨Nat.le_trans h.ex.size h3.1, ?_, fun i d hi he => by have := h.lt hi he; omega⟩
    show (if k < w.heap.size then H k else H' k) = none
    rw [if_neg (by omega)]; exact h3.2.2
end
end Go.Proofs.YtabajghokhfmhaaGreat
namespace Go.Proofs.YtabajghokhfmhaaGreat
open Go.RowKit Go.Shelf
section
variable {w0 A B w w' : World} {H0 H : PH} {L : List Chunk}
def raw (b : Nat) (o : Obj) : Chunk where
  foot := some b
  ok := fun _ w => w.heap[b]? = some o
  lt := fun h e => by cases e; exact (Array.getElem?_eq_some_iff.1 h).1
  loc := fun h e => by rw [e b rfl]; exact h
  mono := fun h _ => h
section
variable {α : Type} {E : PH → List Value → α → Prop} {hm : Mono E} {sz : Nat} {T : TypeId} {v : Value} {xs ys : List α}
end
end
end Go.Proofs.YtabajghokhfmhaaGreat
namespace Go.Proofs.YtabajghokhfmhaaGreat
def sumN {α : Type} (f : α → Nat) : List α → Nat
  | [] => 0
  | x :: xs => f x + sumN f xs
theorem sumN_take {α : Type} (f : α → Nat) (l : List α) (k : Nat) (h : k < l.length) : sumN f (l.take (k+1)) = sumN f (l.take k) + f l[k] := by
  induction l generalizing k with
  | nil => simp at h
  | cons x xs ih =>
    cases k with
    | zero => simp [sumN]
    | succ k => simp [sumN, ih k (by simpa using h)]; omega
theorem sumN_take_le {α : Type} (f : α → Nat) (l : List α) (k : Nat) : sumN f (l.take k) ≤ sumN f l := by
  induction l generalizing k with
  | nil => simp
  | cons x xs ih => cases k with
    | zero => simp [sumN]
    | succ k => simp [sumN]; exact ih k
theorem sumN_mem {α : Type} (f : α → Nat) {l : List α} {x : α} (h : x ∈ l) : f x ≤ sumN f l := by
  induction l with
  | nil => cases h
  | cons y ys ih =>
    rcases List.mem_cons.1 h with rfl | h
    · simp [sumN]
    · have := ih h; simp only [sumN]; omega
def maxN {α : Type} (f : α → Nat) : List α → Nat
  | [] => 0
  | x :: xs => max (f x) (maxN f xs)
theorem maxN_take {α : Type} (f : α → Nat) (l : List α) (k : Nat) (h : k < l.length) : maxN f (l.take (k+1)) = max (maxN f (l.take k)) (f l[k]) := by
  induction l generalizing k with
  | nil => simp at h
  | cons x xs ih =>
    cases k with
    | zero => simp [maxN]
    | succ k => have := ih k (by simpa using h); simp only [List.take_succ_cons, maxN, List.getElem_cons_succ, this]; omega
theorem maxN_take_le {α : Type} (f : α → Nat) (l : List α) (k : Nat) : maxN f (l.take k) ≤ maxN f l := by
  induction l generalizing k with
  | nil => simp
  | cons x xs ih => cases k with
    | zero => simp [maxN]
    | succ k => have := ih k; simp [maxN]; omega
theorem maxN_le {α : Type} {f : α → Nat} {l : List α} {n : Nat} (h : ∀ x ∈ l, f x ≤ n) : maxN f l ≤ n := by
  induction l with
  | nil => simp [maxN]
  | cons x xs ih =>
    have := ih fun y hy => h y (by simp [hy])
    have := h x (by simp)
    simp only [maxN]; omega
theorem maxN_le_sumN {α : Type} (f g : α → Nat) (l : List α) (h : ∀ x ∈ l, f x ≤ g x) : maxN f l ≤ sumN g l := by
  induction l with
  | nil => simp [maxN]
  | cons x xs ih =>
    have := ih fun y hy => h y (by simp [hy])
    have := h x (by simp)
    simp only [maxN, sumN]; omega
theorem sumN_le {α : Type} (f g : α → Nat) (l : List α) (h : ∀ x ∈ l, f x ≤ g x) : sumN f l ≤ sumN g l := by
  induction l with
  | nil => simp [sumN]
  | cons x xs ih =>
    have := ih fun y hy => h y (by simp [hy])
    have := h x (by simp)
    simp only [sumN]; omega
theorem length_le_sumN {α : Type} (f : α → Nat) (l : List α) (h : ∀ x ∈ l, 1 ≤ f x) : l.length ≤ sumN f l := by
  induction l with
  | nil => simp
  | cons x xs ih =>
    have := ih fun y hy => h y (by simp [hy])
    have := h x (by simp)
    simp only [sumN, List.length_cons]; omega
end Go.Proofs.YtabajghokhfmhaaGreat
namespace Go.Proofs.YtabajghokhfmhaaGreat
section
variable {α : Type} {lt : α → α → Prop}
structure STO (lt : α → α → Prop) : Prop where
  irr : ∀ a, ¬ lt a a
  trans : ∀ a b c, lt a b → lt b c → lt a c
  total : ∀ a b, lt a b ∨ a = b ∨ lt b a
theorem STO.asymm (h : STO lt) {a b : α} (x : lt a b) : ¬ lt b a := fun y => h.irr a (h.trans a b a x y)
theorem STO.lt_le (h : STO lt) {a b c : α} (x : lt a b) (y : ¬ lt c b) : lt a c := by
  rcases h.total b c with z | z | z
  · exact h.trans a b c x z
  · rw [← z]; exact x
  · exact absurd z y
theorem STO.le_le (h : STO lt) {a b c : α} (x : ¬ lt b a) (y : ¬ lt c b) : ¬ lt c a := fun z => y (h.lt_le z x)
theorem STO.anti (h : STO lt) {a b : α} (x : ¬ lt a b) (y : ¬ lt b a) : a = b := by
  rcases h.total a b with z | z | z
  · exact absurd z x
  · exact z
  · exact absurd z y
def CanE (lt : α → α → Prop) : List (α × α) → Prop
  | [] => True
  | [x] => lt x.1 x.2
  | x :: y :: r => lt x.1 x.2 ∧ lt x.2 y.1 ∧ CanE lt (y :: r)
def covE (lt : α → α → Prop) (l : List (α × α)) (e : α) : Prop := ∃ x ∈ l, ¬ lt e x.1 ∧ lt e x.2
theorem CanE.head {x : α × α} {r : List (α × α)} (h : CanE lt (x :: r)) : lt x.1 x.2 := by
  cases r with
  | nil => exact h
  | cons y r => exact h.1
theorem CanE.tail {x : α × α} {r : List (α × α)} (h : CanE lt (x :: r)) : CanE lt r := by
  cases r with
  | nil => trivial
  | cons y r => exact h.2.2
theorem CanE.after (ho : STO lt) : ∀ {r : List (α × α)} {x : α × α}, CanE lt (x :: r) → ∀ z ∈ r, lt x.2 z.1
  | [], _, _, z, hz => by cases hz
  | y :: r, x, h, z, hz => by
    rcases List.mem_cons.1 hz with rfl | hz
    · exact h.2.1
    · have h1 := CanE.after ho h.2.2 z hz
      exact ho.trans _ _ _ (ho.trans _ _ _ h.2.1 (CanE.head h.2.2)) h1
theorem covE_tail (ho : STO lt) {x : α × α} {r : List (α × α)} (h : CanE lt (x :: r)) (e : α) : covE lt r e ↔ covE lt (x :: r) e ∧ ¬ lt e x.2 := by
  constructor
  · rintro ⟨z, hz, h1, h2⟩
    exact ⟨⟨z, List.mem_cons_of_mem _ hz, h1, h2⟩, fun h3 => h1 (ho.trans _ _ _ h3 (CanE.after ho h z hz))⟩
  · rintro ⟨⟨z, hz, h1, h2⟩, h3⟩
    rcases List.mem_cons.1 hz with rfl | hz
    · exact absurd h2 h3
    · exact ⟨z, hz, h1, h2⟩
theorem CanE.first (ho : STO lt) {x : α × α} {r : List (α × α)} (h : CanE lt (x :: r)) {e : α} (hc : covE lt (x :: r) e) : ¬ lt e x.1 := by
  obtain ⟨z, hz, h1, h2⟩ := hc
  rcases List.mem_cons.1 hz with rfl | hz
  · exact h1
  · intro h3
    exact h1 (ho.trans _ _ _ h3 (ho.trans _ _ _ h.head (CanE.after ho h z hz)))
theorem CanE.uniq (ho : STO lt) : ∀ {l r : List (α × α)}, CanE lt l → CanE lt r → (∀ e, covE lt l e ↔ covE lt r e) → l = r
  | [], [], _, _, _ => rfl
  | [], y :: r, _, hr, h => by
    obtain ⟨z, hz, -⟩ := (h y.1).2 ⟨y, List.mem_cons_self, ho.irr _, hr.head⟩
    cases hz
  | x :: l, [], hl, _, h => by
    obtain ⟨z, hz, -⟩ := (h x.1).1 ⟨x, List.mem_cons_self, ho.irr _, hl.head⟩
    cases hz
  | x :: l, y :: r, hl, hr, h => by
    have cx : covE lt (x :: l) x.1 := ⟨x, List.mem_cons_self, ho.irr _, hl.head⟩
    have cy : covE lt (y :: r) y.1 := ⟨y, List.mem_cons_self, ho.irr _, hr.head⟩
    have e1 : x.1 = y.1 := ho.anti (hr.first ho ((h _).1 cx)) (hl.first ho ((h _).2 cy))
    have no : ∀ {u v : α × α} {p q : List (α × α)}, CanE lt (u :: p) → CanE lt (v :: q) → u.1 = v.1 → (∀ e, covE lt (v :: q) e → covE lt (u :: p) e) → ¬ lt u.2 v.2 := by
      intro u v p q hu hv huv hc hlt
      obtain ⟨z, hz, h1, h2⟩ := hc u.2 ⟨v, List.mem_cons_self, by rw [← huv]; exact ho.asymm hu.head, hlt⟩
      rcases List.mem_cons.1 hz with rfl | hz
      · exact ho.irr _ h2
      · exact h1 (CanE.after ho hu z hz)
    have e2 : x.2 = y.2 := ho.anti (no hl hr e1 fun e he => (h e).2 he) (no hr hl e1.symm fun e he => (h e).1 he)
    have e3 : x = y := Prod.ext e1 e2
    subst e3
    rw [CanE.uniq ho hl.tail hr.tail fun e => by rw [covE_tail ho hl, covE_tail ho hr, h e]]
end
end Go.Proofs.YtabajghokhfmhaaGreat
namespace Go.Proofs.YtabajghokhfmhaaGreat
structure Rat2 where
  num : Int
  den : Int
  deriving DecidableEq
end Go.Proofs.YtabajghokhfmhaaGreat
namespace Go.Proofs.YtabajghokhfmhaaGreat
def Rat2.ok (r : Rat2) : Prop := 0 < r.den ∧ Nat.Coprime r.num.natAbs r.den.natAbs
theorem Rat2.ext' {a b : Rat2} (h1 : a.num = b.num) (h2 : a.den = b.den) : a = b := by cases a; cases b; cases h1; cases h2; rfl
theorem Rat2.same {a b : Rat2} (ha : a.ok) (hb : b.ok) (h : a.num * b.den = b.num * a.den) : a = b := by
  have hn : a.num.natAbs * b.den.natAbs = b.num.natAbs * a.den.natAbs := by
    have := congrArg Int.natAbs h
    rwa [Int.natAbs_mul, Int.natAbs_mul] at this
  have d1 : a.den.natAbs ∣ b.den.natAbs := by
    have : a.den.natAbs ∣ a.num.natAbs * b.den.natAbs := ⟨b.num.natAbs, by rw [hn, Nat.mul_comm]⟩
    exact Nat.Coprime.dvd_of_dvd_mul_left ha.2.symm this
  have d2 : b.den.natAbs ∣ a.den.natAbs := by
    have : b.den.natAbs ∣ b.num.natAbs * a.den.natAbs := ⟨a.num.natAbs, by rw [← hn, Nat.mul_comm]⟩
    exact Nat.Coprime.dvd_of_dvd_mul_left hb.2.symm this
  have e0 : a.den.natAbs = b.den.natAbs := Nat.dvd_antisymm d1 d2
  have e1 : a.den = b.den := by have := ha.1; have := hb.1; omega
  have e2 : a.num = b.num := by
    rw [e1] at h
    have := hb.1
    exact Int.eq_of_mul_eq_mul_right (by omega) h
  exact Rat2.ext' e2 e1
structure En where
  far : Int
  at' : Rat2
  aft : Bool
  deriving DecidableEq
def En.ok (e : En) : Prop := (e.far = 0 ∧ e.at'.ok) ∨ ((e.far = -1 ∨ e.far = 1) ∧ e.at' = ⟨0, 0⟩ ∧ e.aft = false)
def lessE (a b : En) : Bool :=
  if a.far ≠ b.far then decide (a.far < b.far) else if a.far ≠ 0 then false else
  if a.at'.num * b.at'.den ≠ b.at'.num * a.at'.den then decide (a.at'.num * b.at'.den < b.at'.num * a.at'.den) else (!a.aft && b.aft)
abbrev EnT := { e : En // e.ok }
def ltE (a b : EnT) : Prop := lessE a.1 b.1 = true
theorem crs_trans {a b c : Rat2} (ha : 0 < a.den) (hb : 0 < b.den) (hc : 0 < c.den) (h1 : a.num * b.den ≤ b.num * a.den) (h2 : b.num * c.den ≤ c.num * b.den) : a.num * c.den ≤ c.num * a.den := by
  have e1 : a.num * b.den * c.den ≤ b.num * a.den * c.den := Int.mul_le_mul_of_nonneg_right h1 (by omega)
  have e2 : b.num * c.den * a.den ≤ c.num * b.den * a.den := Int.mul_le_mul_of_nonneg_right h2 (by omega)
  have e3 : (a.num * c.den) * b.den ≤ (c.num * a.den) * b.den := by
    have r1 : a.num * c.den * b.den = a.num * b.den * c.den := by rw [Int.mul_assoc, Int.mul_comm c.den, ← Int.mul_assoc]
    have r2 : b.num * a.den * c.den = b.num * c.den * a.den := by rw [Int.mul_assoc, Int.mul_comm a.den, ← Int.mul_assoc]
    have r3 : c.num * b.den * a.den = c.num * a.den * b.den := by rw [Int.mul_assoc, Int.mul_comm b.den, ← Int.mul_assoc]
    rw [r1, ← r3]
    exact Int.le_trans e1 (r2 ▸ e2)
  exact Int.le_of_mul_le_mul_right e3 hb
theorem ltE_far {a b : EnT} (h : a.1.far ≠ b.1.far) : ltE a b ↔ a.1.far < b.1.far := by unfold ltE lessE; rw [if_pos h]; simp
theorem ltE_out {a b : EnT} (h : a.1.far = b.1.far) (h0 : a.1.far ≠ 0) : ¬ ltE a b := by unfold ltE lessE; rw [if_neg (by simpa using h), if_pos h0]; simp
theorem ltE_in {a b : EnT} (h : a.1.far = b.1.far) (h0 : a.1.far = 0) : ltE a b ↔ a.1.at'.num * b.1.at'.den < b.1.at'.num * a.1.at'.den ∨ (a.1.at'.num * b.1.at'.den = b.1.at'.num * a.1.at'.den ∧ a.1.aft = false ∧ b.1.aft = true) := by
  unfold ltE lessE
  rw [if_neg (by simpa using h), if_neg (by simpa using h0)]
  by_cases hc : a.1.at'.num * b.1.at'.den = b.1.at'.num * a.1.at'.den
  · rw [if_neg (by simpa using hc)]
    simp [hc]
  · rw [if_pos hc]
    simp [hc]
theorem EnT.at_ok {a : EnT} (h : a.1.far = 0) : a.1.at'.ok := by
  rcases a.2 with h1 | ⟨h1, -⟩
  · exact h1.2
  · omega
theorem EnT.eq {a b : EnT} (h1 : a.1.far = b.1.far) (h2 : a.1.at' = b.1.at') (h3 : a.1.aft = b.1.aft) : a = b := by
  obtain ⟨⟨f, x, t⟩, ha⟩ := a
  obtain ⟨⟨f', x', t'⟩, hb⟩ := b
  cases h1; cases h2; cases h3; rfl
theorem stoE : STO ltE where
  irr a := by
    by_cases h : a.1.far = 0
    · rw [ltE_in rfl h]
      rintro (h1 | ⟨-, h2, h3⟩)
      · omega
      · rw [h2] at h3; cases h3
    · exact ltE_out rfl h
  trans a b c h1 h2 := by
    by_cases hab : a.1.far = b.1.far
    · by_cases hbc : b.1.far = c.1.far
      · by_cases h0 : a.1.far = 0
        · have hb0 : b.1.far = 0 := by omega
          have hc0 : c.1.far = 0 := by omega
          rw [ltE_in hab h0] at h1
          rw [ltE_in hbc hb0] at h2
          rw [ltE_in (hab.trans hbc) h0]
          have oa := EnT.at_ok h0
          have ob := EnT.at_ok hb0
          have oc := EnT.at_ok hc0
          have l1 : a.1.at'.num * b.1.at'.den ≤ b.1.at'.num * a.1.at'.den := by rcases h1 with h1 | ⟨h1, -⟩ <;> omega
          have l2 : b.1.at'.num * c.1.at'.den ≤ c.1.at'.num * b.1.at'.den := by rcases h2 with h2 | ⟨h2, -⟩ <;> omega
          have l3 := crs_trans oa.1 ob.1 oc.1 l1 l2
          by_cases he : a.1.at'.num * c.1.at'.den = c.1.at'.num * a.1.at'.den
          · have hac := Rat2.same oa oc he
            rw [← hac] at l2 h2
            rcases h1 with h1 | ⟨h1, h3, h4⟩
            · omega
            · rcases h2 with h2 | ⟨h2, h5, h6⟩
              · omega
              · rw [h4] at h5; cases h5
          · exact .inl (by omega)
        · exact absurd h1 (ltE_out hab h0)
      · rw [ltE_far hbc] at h2
        rw [ltE_far (by omega)]; omega
    · rw [ltE_far hab] at h1
      by_cases hbc : b.1.far = c.1.far
      · rw [ltE_far (by omega)]; omega
      · rw [ltE_far hbc] at h2
        rw [ltE_far (by omega)]; omega
  total a b := by
    by_cases hab : a.1.far = b.1.far
    · by_cases h0 : a.1.far = 0
      · have hb0 : b.1.far = 0 := by omega
        have oa := EnT.at_ok h0
        have ob := EnT.at_ok hb0
        rw [ltE_in hab h0, ltE_in hab.symm hb0]
        rcases Int.lt_trichotomy (a.1.at'.num * b.1.at'.den) (b.1.at'.num * a.1.at'.den) with h | h | h
        · exact .inl (.inl h)
        · have hs := Rat2.same oa ob h
          cases ha : a.1.aft <;> cases hb : b.1.aft
          · exact .inr (.inl (EnT.eq hab hs (by rw [ha, hb])))
          · exact .inl (.inr ⟨h, rfl, rfl⟩)
          · exact .inr (.inr (.inr ⟨h.symm, rfl, rfl⟩))
          · exact .inr (.inl (EnT.eq hab hs (by rw [ha, hb])))
        · exact .inr (.inr (.inl h))
      · refine .inr (.inl ?_)
        rcases a.2 with h1 | ⟨-, h1, h2⟩
        · exact absurd h1.1 h0
        · rcases b.2 with h3 | ⟨-, h3, h4⟩
          · exact absurd (hab.trans h3.1) h0
          · exact EnT.eq hab (h1.trans h3.symm) (h2.trans h4.symm)
    · rw [ltE_far hab, ltE_far (fun e => hab e.symm)]; omega
end Go.Proofs.YtabajghokhfmhaaGreat
namespace Go.Proofs.YtabajghokhfmhaaGreat
def runZ {α : Type} : Option α → List (α × Bool) → List (α × α)
  | _, [] => []
  | none, z :: r => if z.2 then runZ (some z.1) r else runZ none r
  | some s, z :: r => if z.2 then runZ (some s) r else (s, z.1) :: runZ none r
theorem runZ_map {α β : Type} (g : α → β) : ∀ (zs : List (α × Bool)) (f : Option α), runZ (f.map g) (zs.map fun z => (g z.1, z.2)) = (runZ f zs).map fun i => (g i.1, g i.2)
  | [], none => rfl
  | [], some s => rfl
  | (a, b) :: r, none => by
    cases b
    · exact runZ_map g r none
    · exact runZ_map g r (some a)
  | (a, b) :: r, some s => by
    cases b
    · show (g s, g a) :: runZ (Option.map g none) _ = _
      rw [runZ_map g r none]; rfl
    · exact runZ_map g r (some s)
theorem runZ_len {α : Type} : ∀ (zs : List (α × Bool)) (f : Option α), (runZ f zs).length ≤ zs.length
  | [], none => Nat.le_refl _
  | [], some s => Nat.le_refl _
  | (a, b) :: r, none => by
    have h1 := runZ_len r none
    have h2 := runZ_len r (some a)
    cases b <;> simp only [runZ, List.length_cons, Bool.false_eq_true, if_false, if_true] <;> omega
  | (a, b) :: r, some s => by
    have h1 := runZ_len r none
    have h2 := runZ_len r (some s)
    cases b <;> simp only [runZ, List.length_cons, Bool.false_eq_true, if_false, if_true] <;> omega
theorem runZ_mem {α : Type} : ∀ (zs : List (α × Bool)) (f : Option α), ∀ i ∈ runZ f zs, ((∃ z ∈ zs, z.1 = i.1) ∨ f = some i.1) ∧ ∃ z ∈ zs, z.1 = i.2
  | [], none => by intro i hi; cases hi
  | [], some s => by intro i hi; cases hi
  | (a, b) :: r, none => by
    intro i hi
    cases b
    · obtain ⟨h1, z, hz, h2⟩ := runZ_mem r none i hi
      refine ⟨.inl ?_, z, List.mem_cons_of_mem _ hz, h2⟩
      rcases h1 with ⟨z, hz, h⟩ | h
      · exact ⟨z, List.mem_cons_of_mem _ hz, h⟩
      · cases h
    · obtain ⟨h1, z, hz, h2⟩ := runZ_mem r (some a) i hi
      refine ⟨.inl ?_, z, List.mem_cons_of_mem _ hz, h2⟩
      rcases h1 with ⟨z, hz, h⟩ | h
      · exact ⟨z, List.mem_cons_of_mem _ hz, h⟩
      · cases h; exact ⟨_, List.mem_cons_self, rfl⟩
  | (a, b) :: r, some s => by
    intro i hi
    cases b
    · rcases List.mem_cons.1 hi with rfl | hi
      · exact ⟨.inr rfl, _, List.mem_cons_self, rfl⟩
      · obtain ⟨h1, z, hz, h2⟩ := runZ_mem r none i hi
        refine ⟨.inl ?_, z, List.mem_cons_of_mem _ hz, h2⟩
        rcases h1 with ⟨z, hz, h⟩ | h
        · exact ⟨z, List.mem_cons_of_mem _ hz, h⟩
        · cases h
    · obtain ⟨h1, z, hz, h2⟩ := runZ_mem r (some s) i hi
      refine ⟨?_, z, List.mem_cons_of_mem _ hz, h2⟩
      rcases h1 with ⟨z, hz, h⟩ | h
      · exact .inl ⟨z, List.mem_cons_of_mem _ hz, h⟩
      · exact .inr h
section
variable {α : Type} {lt : α → α → Prop}
def Seg (lt : α → α → Prop) (P : α → Prop) : List (α × Bool) → Prop
  | [] => False
  | [z] => z.2 = false ∧ ∀ x, ¬ lt x z.1 → ¬ P x
  | a :: b :: r => lt a.1 b.1 ∧ (∀ x, ¬ lt x a.1 → lt x b.1 → (P x ↔ a.2 = true)) ∧ Seg lt P (b :: r)
theorem covE_cons {l : List (α × α)} {i : α × α} {x : α} : covE lt (i :: l) x ↔ (¬ lt x i.1 ∧ lt x i.2) ∨ covE lt l x := by
  unfold covE
  simp only [List.mem_cons, exists_eq_or_imp]
theorem CanE.cons (ho : STO lt) {i : α × α} {l : List (α × α)} (h : lt i.1 i.2) (hl : CanE lt l) (ha : ∀ j ∈ l, lt i.2 j.1) : CanE lt (i :: l) := by
  cases l with
  | nil => exact h
  | cons j r => exact ⟨h, ha j List.mem_cons_self, hl⟩
theorem runZ_can (ho : STO lt) {P : α → Prop} : ∀ (r : List (α × Bool)) (e : α × Bool), Seg lt P (e :: r) →
    (CanE lt (runZ none (e :: r)) ∧ (∀ i ∈ runZ none (e :: r), ¬ lt i.1 e.1) ∧ (e.2 = false → ∀ i ∈ runZ none (e :: r), lt e.1 i.1) ∧ ∀ x, ¬ lt x e.1 → (covE lt (runZ none (e :: r)) x ↔ P x)) ∧
    ∀ s, lt s e.1 → (∀ x, ¬ lt x s → lt x e.1 → P x) → CanE lt (runZ (some s) (e :: r)) ∧ (∀ i ∈ runZ (some s) (e :: r), ¬ lt i.1 s) ∧ ∀ x, ¬ lt x s → (covE lt (runZ (some s) (e :: r)) x ↔ P x)
  | [], e, hS => by
    obtain ⟨h1, h2⟩ := hS
    have e1 : runZ none [e] = [] := by unfold runZ; rw [h1]; rfl
    have e2 : ∀ s, runZ (some s) [e] = [(s, e.1)] := by intro s; unfold runZ; rw [h1]; rfl
    rw [e1]
    refine ⟨⟨trivial, (by intro i hi; cases hi), (by intro _ i hi; cases hi), fun x hx => ⟨?_, fun hp => absurd hp (h2 x hx)⟩⟩, fun s hs hP => ?_⟩
    · rintro ⟨i, hi, -⟩; cases hi
    · rw [e2]
      refine ⟨hs, ?_, fun x hx => ?_⟩
      · intro i hi; rw [List.mem_singleton.1 hi]; exact ho.irr _
      · rw [covE_cons]
        constructor
        · rintro (⟨h3, h4⟩ | ⟨i, hi, -⟩)
          · exact hP x h3 h4
          · cases hi
        · intro hp
          by_cases h5 : lt x e.1
          · exact .inl ⟨hx, h5⟩
          · exact absurd hp (h2 x h5)
  | b :: r, e, hS => by
    have n1 : ∀ (z : α × Bool) (q : List (α × Bool)), z.2 = true → runZ none (z :: q) = runZ (some z.1) q := by intro z q h; rw [runZ, if_pos h]
    have n2 : ∀ (z : α × Bool) (q : List (α × Bool)) (s : α), z.2 = true → runZ (some s) (z :: q) = runZ (some s) q := by intro z q s h; rw [runZ, if_pos h]
    have n3 : ∀ (z : α × Bool) (q : List (α × Bool)), z.2 = false → runZ none (z :: q) = runZ none q := by intro z q h; rw [runZ, if_neg (by rw [h]; simp)]
    have n4 : ∀ (z : α × Bool) (q : List (α × Bool)) (s : α), z.2 = false → runZ (some s) (z :: q) = (s, z.1) :: runZ none q := by intro z q s h; rw [runZ, if_neg (by rw [h]; simp)]
    obtain ⟨hab, hseg, hS'⟩ := hS
    obtain ⟨⟨i1, i2, i3, i4⟩, j⟩ := runZ_can ho r b hS'
    cases he : e.2 with
    | true =>
      have e1 : runZ none (e :: b :: r) = runZ (some e.1) (b :: r) := n1 _ _ he
      have e2 : ∀ s, runZ (some s) (e :: b :: r) = runZ (some s) (b :: r) := fun s => n2 _ _ s he
      obtain ⟨j1, j2, j3⟩ := j e.1 hab fun x h1 h2 => (hseg x h1 h2).2 he
      refine ⟨by rw [e1]; exact ⟨j1, j2, fun h => (by cases h), j3⟩, fun s hs hP => ?_⟩
      rw [e2]
      exact j s (ho.trans _ _ _ hs hab) fun x h1 h2 => by
        by_cases h3 : lt x e.1
        · exact hP x h1 h3
        · exact (hseg x h3 h2).2 he
    | false =>
      have e1 : runZ none (e :: b :: r) = runZ none (b :: r) := n3 _ _ he
      have e2 : ∀ s, runZ (some s) (e :: b :: r) = (s, e.1) :: runZ none (b :: r) := fun s => n4 _ _ s he
      have hin : ∀ x, ¬ lt x e.1 → (covE lt (runZ none (b :: r)) x ↔ P x) := by
        intro x hx
        by_cases h3 : lt x b.1
        · constructor
          · rintro ⟨i, hi, h4, -⟩
            exact absurd (ho.lt_le h3 (i2 i hi)) h4
          · intro hp
            have := (hseg x hx h3).1 hp
            rw [he] at this; cases this
        · exact i4 x h3
      have hgt : ∀ i ∈ runZ none (b :: r), lt e.1 i.1 := fun i hi => ho.lt_le hab (i2 i hi)
      refine ⟨by rw [e1]; exact ⟨i1, fun i hi => ho.asymm (hgt i hi), fun _ => hgt, hin⟩, fun s hs hP => ?_⟩
      rw [e2]
      refine ⟨CanE.cons ho hs i1 hgt, ?_, fun x hx => ?_⟩
      · intro i hi
        rcases List.mem_cons.1 hi with rfl | hi
        · exact ho.irr _
        · exact ho.asymm (ho.trans _ _ _ hs (hgt i hi))
      · rw [covE_cons]
        by_cases h3 : lt x e.1
        · constructor
          · intro _; exact hP x hx h3
          · intro _; exact .inl ⟨hx, h3⟩
        · rw [← hin x h3]
          constructor
          · rintro (⟨-, h4⟩ | h4)
            · exact absurd h4 h3
            · exact h4
          · exact .inr
theorem runZ_uniq (ho : STO lt) {P : α → Prop} {e : α} (hb : ∀ x, ¬ lt x e) {b c : Bool} {r s : List (α × Bool)} (h1 : Seg lt P ((e, b) :: r)) (h2 : Seg lt P ((e, c) :: s)) : runZ none ((e, b) :: r) = runZ none ((e, c) :: s) := by
  obtain ⟨⟨a1, -, -, a4⟩, -⟩ := runZ_can ho r (e, b) h1
  obtain ⟨⟨b1, -, -, b4⟩, -⟩ := runZ_can ho s (e, c) h2
  exact CanE.uniq ho a1 b1 fun x => by rw [a4 x (hb x), b4 x (hb x)]
theorem seg_of (ho : STO lt) {P : α → Prop} (p : α → Bool) : ∀ (es : List α) (z : α), (es ++ [z]).Pairwise lt → (∀ a ∈ es, P a ↔ p a = true) → (∀ x, ¬ lt x z → ¬ P x) → p z = false →
    (∀ a x, a ∈ es → lt a x → (∀ y ∈ es ++ [z], lt a y → lt x y) → (P x ↔ P a)) →
    Seg lt P ((es ++ [z]).map fun e => (e, p e))
  | [], z, _, _, h2, h3, _ => ⟨h3, h2⟩
  | [a], z, hp, h1, h2, h3, h4 => by
    have hab : lt a z := by simpa using hp
    refine ⟨hab, fun x hx hxz => ?_, h3, h2⟩
    rw [← h1 a List.mem_cons_self]
    rcases ho.total a x with h | h | h
    · exact h4 a x List.mem_cons_self h fun y hy hay => by
        rcases List.mem_append.1 hy with hy | hy
        · rw [List.mem_singleton.1 hy] at hay; exact absurd hay (ho.irr _)
        · rw [List.mem_singleton.1 hy]; exact hxz
    · rw [h]
    · exact absurd h hx
  | a :: b :: r, z, hp, h1, h2, h3, h4 => by
    have hp' := hp
    rw [List.cons_append, List.pairwise_cons] at hp
    obtain ⟨hall, hp⟩ := hp
    have hbr : ∀ y ∈ (b :: r) ++ [z], ¬ lt y b := by
      intro y hy hyb
      rw [List.cons_append] at hy
      rcases List.mem_cons.1 hy with rfl | hy
      · exact ho.irr _ hyb
      · rw [List.cons_append, List.pairwise_cons] at hp
        exact ho.irr _ (ho.trans _ _ _ hyb (hp.1 y hy))
    refine ⟨hall b (by simp), fun x hx hxb => ?_, seg_of ho p (b :: r) z hp (fun a ha => h1 a (List.mem_cons_of_mem _ ha)) h2 h3 fun c x hc hcx hy => h4 c x (List.mem_cons_of_mem _ hc) hcx fun y hy' hcy => ?_⟩
    · rw [← h1 a List.mem_cons_self]
      rcases ho.total a x with h | h | h
      · exact h4 a x List.mem_cons_self h fun y hy hay => by
          rw [List.cons_append] at hy
          rcases List.mem_cons.1 hy with rfl | hy
          · exact absurd hay (ho.irr _)
          · exact ho.lt_le hxb (hbr y hy)
      · rw [h]
      · exact absurd h hx
    · rw [List.cons_append] at hy'
      rcases List.mem_cons.1 hy' with rfl | hy'
      · have : lt y c := by
          apply hall
          exact List.mem_append_left _ hc
        exact absurd hcy (ho.asymm this)
      · exact hy y hy' hcy
end
end Go.Proofs.YtabajghokhfmhaaGreat
namespace Go.Proofs.YtabajghokhfmhaaGreat
open Go.RowKit
set_option maxHeartbeats 400000 in
theorem gcd_c (a b : Nat) (w : World) (ha : a ≤ 18446744073709551615) (hb : b ≤ 18446744073709551615) :
    Calls Tryz.prog 241 #[.int .u64 a, .int .u64 b] w (RetV w (.int .u64 (Nat.gcd a b))) := by
  go_enter Tryz.func241, Tryz.ntmps241
  go_wp2
  go_loopw [0, 1] (fun u v wr => ∃ x y : Nat, x ≤ 18446744073709551615 ∧ y ≤ 18446744073709551615 ∧ u = .int .u64 x ∧ v = .int .u64 y ∧ Hid (Nat.gcd x y = Nat.gcd a b) ∧ Ext w wr) (fun _ v _ => (intOf v).toNat)
  case atStart => exact ⟨a, b, ha, hb, rfl, rfl, Lib.hid rfl, xE⟩
  case round =>
    obtain ⟨x, y, hx, hy, rfl, rfl, hg, he⟩ := hrel
    by_cases hlt : 0 < y
    · go_wp2_with fail
      go_quiet (fail)
      go_wp2_with fail
      refine ⟨⟨y, x % y, hy, ?_, rfl, val_int (by simp), Lib.hid ?_, xE⟩, ?_⟩
      · have := Nat.mod_lt x hlt; omega
      · rw [← hg.out]; rw [Nat.gcd_comm x y, Nat.gcd_rec y x, Nat.gcd_comm]
      · have := Nat.mod_lt x hlt; simp only [intOf]; rw [← Int.natCast_emod]; omega
    · go_wp2_with fail
      go_ret
      exact ⟨ret_int (by have := hg.out; obtain rfl : y = 0 := by omega
                         simp at this; rw [this]), xE⟩
set_option maxHeartbeats 400000 in
theorem sizeI_c (n : Int) (w : World) (hn : I64 n) :
    Calls Tryz.prog 224 #[.int .i64 n] w (RetV w (.int .u64 n.natAbs)) := by
  obtain ⟨h1, h2⟩ := hn
  by_cases hneg : n < 0
  · go_enter Tryz.func224, Tryz.ntmps224
    go_wp2
    go_ret
    exact ⟨ret_int (by simp only [IntKind.wrap_u64]; omega), xE⟩
  · go_enter Tryz.func224, Tryz.ntmps224
    go_wp2
    go_ret
    exact ⟨ret_int (by omega), xE⟩
def ratErr (r : Rat2) (e : Int) : Value := .tuple #[.agg #[.int .i64 r.num, .int .i64 r.den], .int .i64 e]
def buildS (neg : Bool) (n d : Nat) : Rat2 × Int :=
  if 1099511627776 < n / Nat.gcd n d ∨ 1048576 < d / Nat.gcd n d then (⟨0, 0⟩, 5)
  else (⟨if neg then -((n / Nat.gcd n d : Nat) : Int) else (n / Nat.gcd n d : Nat), (d / Nat.gcd n d : Nat)⟩, 0)
def newS (num den : Int) : Rat2 × Int := if den = 0 then (⟨0, 0⟩, 1) else buildS (decide (num < 0) != decide (den < 0)) num.natAbs den.natAbs
set_option maxHeartbeats 400000 in
theorem build_c (neg : Bool) (n d : Nat) (w : World) (hn : n ≤ 18446744073709551615) (hd : d ≤ 18446744073709551615) (h0 : 0 < d) :
    Calls Tryz.prog 223 #[.bool neg, .int .u64 n, .int .u64 d] w (RetV w (ratErr (buildS neg n d).1 (buildS neg n d).2)) := by
  have hg : 0 < Nat.gcd n d := Nat.gcd_pos_of_pos_right _ h0
  have hgd : Nat.gcd n d ≤ d := Nat.gcd_le_right _ h0
  go_enter Tryz.func223, Tryz.ntmps223
  go_wp2_with fail
  refine (gcd_c n d _ hn hd).mono ?_
  rintro e w1 ⟨rfl, hb1⟩
  have ho1 : Own w1 w.heap.size #[.int .i64 0, .int .i64 0] 72 := oE
  replace hb1 : Ext w w1 := xE
  have hq1 : Hid (IntKind.u64.wrap (↑n / ↑(n.gcd d)) = ((n / n.gcd d : Nat) : Int)) := by
    show _ = _
    rw [IntKind.wrap_u64, ← Int.natCast_ediv]
    have := Nat.div_le_self n (n.gcd d); generalize n / n.gcd d = q at *; omega
  have hq2 : Hid (IntKind.u64.wrap (↑d / ↑(n.gcd d)) = ((d / n.gcd d : Nat) : Int)) := by
    show _ = _
    rw [IntKind.wrap_u64, ← Int.natCast_ediv]
    have := Nat.div_le_self d (n.gcd d); generalize d / n.gcd d = q at *; omega
  go_wp2_with fail
  go_quiet (fail)
  rw [hq1.out, hq2.out]
  have ho : Own (w1.drewN nq) w.heap.size #[.int .i64 0, .int .i64 0] 72 := oE
  have hb : Ext w (w1.drewN nq) := xE
  generalize w1.drewN nq = w2 at *
  clear hb1 ho1
  have hl := ho.lt
  obtain ⟨hoc, hof⟩ := ho.facts
  have hspec : buildS neg n d = if 1099511627776 < n / Nat.gcd n d ∨ 1048576 < d / Nat.gcd n d then (⟨0, 0⟩, 5)
      else (⟨if neg then -((n / Nat.gcd n d : Nat) : Int) else (n / Nat.gcd n d : Nat), (d / Nat.gcd n d : Nat)⟩, 0) := rfl
  have hql := Nat.div_le_self n (n.gcd d)
  have hml := Nat.div_le_self d (n.gcd d)
  have HS := Lib.hid hspec
  clear hspec hq1 hq2
  generalize n / Nat.gcd n d = q at *
  generalize d / Nat.gcd n d = m at *
  generalize Nat.gcd n d = g at *
  by_cases h1 : 1099511627776 < q
  · go_wp2_with fail
    exact bodyPost_ret (v := .tuple #[.agg #[.int .i64 0, .int .i64 0], .int .i64 5]) (by simp [results, Tryz.results223, go_sem, hoc, hof, hl]) rfl ⟨by rw [HS.out, if_pos (.inl h1)]; rfl, xE⟩
  · by_cases h2 : 1048576 < m
    · go_wp2_with fail
      exact bodyPost_ret (v := .tuple #[.agg #[.int .i64 0, .int .i64 0], .int .i64 5]) (by simp [results, Tryz.results223, go_sem, hoc, hof, hl]) rfl ⟨by rw [HS.out, if_pos (.inr h2)]; rfl, xE⟩
    · cases neg with
      | true =>
        go_wp2_with fail
        exact bodyPost_ret (v := .tuple #[.agg #[.int .i64 (-q), .int .i64 m], .int .i64 0]) (by simp [results, Tryz.results223, go_sem, hoc, hof, hl]) rfl ⟨by rw [HS.out, if_neg (by omega)]; rfl, xE⟩
      | false =>
        go_wp2_with fail
        exact bodyPost_ret (v := .tuple #[.agg #[.int .i64 q, .int .i64 m], .int .i64 0]) (by simp [results, Tryz.results223, go_sem, hoc, hof, hl]) rfl ⟨by rw [HS.out, if_neg (by omega)]; rfl, xE⟩
set_option maxHeartbeats 400000 in
theorem new_c (num den : Int) (w : World) (hn : I64 num) (hd : I64 den) :
    Calls Tryz.prog 180 #[.int .i64 num, .int .i64 den] w (RetV w (ratErr (newS num den).1 (newS num den).2)) := by
  obtain ⟨hn1, hn2⟩ := hn
  obtain ⟨hd1, hd2⟩ := hd
  by_cases h0 : den = 0
  · subst h0
    go_enter Tryz.func180, Tryz.ntmps180
    go_wp2_with fail
    exact bodyPost_ret (v := .tuple #[.agg #[.int .i64 0, .int .i64 0], .int .i64 1]) (by simp [results, Tryz.results180, go_sem]) rfl ⟨rfl, xE⟩
  · go_enter Tryz.func180, Tryz.ntmps180
    go_wp2_with fail
    refine (sizeI_c num _ ⟨hn1, hn2⟩).mono ?_
    rintro e w1 ⟨rfl, hb1⟩
    go_wp2_with fail
    refine (sizeI_c den _ ⟨hd1, hd2⟩).mono ?_
    rintro e w2 ⟨rfl, hb2⟩
    go_wp2_with fail
    refine (build_c _ num.natAbs den.natAbs _ (by omega) (by omega) (by omega)).mono ?_
    rintro e w3 ⟨rfl, hb3⟩
    have ho : Own w3 w.heap.size #[.int .i64 0, .int .i64 0] 72 := oE
    have hb : Ext w w3 := xE
    clear hb1 hb2 hb3
    have hs : newS num den = buildS (!(decide (num < 0) == decide (den < 0))) num.natAbs den.natAbs := by rw [newS, if_neg h0]; rfl
    rw [← hs]
    have HS := Lib.hid hs; clear hs
    have hl := ho.lt
    obtain ⟨hoc, hof⟩ := ho.facts
    unfold ratErr
    go_wp2_with fail
    exact bodyPost_ret (v := ratErr (newS num den).1 (newS num den).2) (by simp [ratErr, results, Tryz.results180, go_sem, hoc, hof, hl]) rfl ⟨rfl, xE⟩
end Go.Proofs.YtabajghokhfmhaaGreat
