/- Memory read as plain lists: the base of all contracts. -/
import Derived.Test.YtcbmgajaaechjaaGreatProg
import Derived.WalkKit
import Derived.WalkSpells
import Derived.WalkLawsBesides
import Derived.BigQuiet
import Derived.Deep.QuietTactic
import Derived.Lib.Hide
import Derived.Deep.DeepFit
import Derived.Handy
import Derived.Deep.LoopGhost
import Derived.Deep.DeepCutAuto
import Derived.Deep.Light
namespace Go.Proofs.YtcbmgajaaechjaaGreat
open Go.RowKit
set_option linter.unusedSimpArgs false
set_option linter.unusedVariables false
abbrev PH := Nat → Option Obj
def ph (w : World) : PH := fun k => w.heap[k]?
def cellAt (h : PH) (b o : Nat) : Option Value := match h b with | some (.cells c _ _) => c[o]? | _ => none
theorem cell_ph (w : World) (b o : Nat) : w.cell? ⟨b, o, none⟩ = cellAt (ph w) b o := by
  simp only [World.cell?, cellAt, ph]
  cases w.heap[b]? with
  | none => rfl
  | some x => cases x <;> rfl
def PLe (h h' : PH) : Prop := ∀ k o, h k = some o → h' k = some o
theorem PLe.refl (h : PH) : PLe h h := fun _ _ h => h
theorem PLe.trans {a b c : PH} (h : PLe a b) (k : PLe b c) : PLe a c := fun i o x => k i o (h i o x)
theorem cellAt_mono {h h' : PH} (hl : PLe h h') {b o : Nat} {v : Value} (hc : cellAt h b o = some v) : cellAt h' b o = some v := by
  unfold cellAt at *
  cases hb : h b with
  | none => simp [hb] at hc
  | some x => rw [hl b x hb]; rw [hb] at hc; exact hc
abbrev Ext (w w' : World) : Prop := Below w.heap.size w w'
theorem ph_lt {w : World} {k : Nat} {o : Obj} (hk : ph w k = some o) : k < w.heap.size := by
  simp only [ph] at hk
  exact (Array.getElem?_eq_some_iff.1 hk).1
theorem Ext.ple {w w' : World} (hb : Ext w w') : PLe (ph w) (ph w') := by
  intro k o hk
  show w'.heap[k]? = some o
  rw [hb.block k (ph_lt hk)]; exact hk
theorem Ext.then {a b c : World} (h : Ext a b) (k : Ext b c) : Ext a c := Below.trans h (k.mono h.size)
theorem Ext.alloc' {a b : World} (h : Ext a b) (o : Obj) : Ext a (b.alloc o) := Below.alloc h h.size o
theorem Ext.new (w : World) (o : Obj) : Ext w (w.alloc o) := Below.alloc (Below.refl _ _) (Nat.le_refl _) o
theorem Ext.rfl' (w : World) : Ext w w := Below.refl _ _
theorem Ext.drew' {a b : World} (h : Ext a b) : Ext a b.drew := Below.drew h
theorem Ext.set' {a b : World} (h : Ext a b) {p : Addr} (hp : a.heap.size ≤ p.block) (u : Value) : Ext a (b.setCell p u) := Below.setCell h hp u
theorem Ext.drewN' {a b : World} (h : Ext a b) : ∀ n, Ext a (b.drewN n) := fun _ => ⟨h.os, h.tape, h.output, h.size, h.block⟩
/-- block b holds just these cells, and may be written -/
def Own (w : World) (b : Nat) (c : Array Value) (T : TypeId) : Prop := w.heap[b]? = some (.cells c T (0, 0))
theorem Own.facts {w : World} {b : Nat} {c : Array Value} {T : TypeId} (h : Own w b c T) : (∀ j, w.cell? ⟨b, j, none⟩ = c[j]?) ∧ (∀ j, w.frozen? ⟨b, j, none⟩ = false) := by
  unfold Own at h
  exact ⟨fun j => by simp [World.cell?, h], fun j => by simp [World.frozen?, h]⟩
theorem Own.lt {w : World} {b : Nat} {c : Array Value} {T : TypeId} (h : Own w b c T) : b < w.heap.size := (Array.getElem?_eq_some_iff.1 h).1
theorem Own.keep {w w' : World} {b : Nat} {c : Array Value} {T : TypeId} (h : Own w b c T) (e : Ext w w') : Own w' b c T := by
  unfold Own; rw [e.block b h.lt]; exact h
theorem Own.new (w : World) (c : Array Value) (T : TypeId) : Own (w.alloc (.cells c T)) w.heap.size c T := heap_alloc_new w _
theorem Own.alloc {w : World} {b : Nat} {c : Array Value} {T : TypeId} (h : Own w b c T) (o : Obj) : Own (w.alloc o) b c T := h.keep (Ext.new w o)
theorem Own.set {w : World} {b : Nat} {c : Array Value} {T : TypeId} (h : Own w b c T) (j : Nat) (v : Value) : Own (w.setCell ⟨b, j, none⟩ v) b (c.setIfInBounds j v) T := by
  unfold Own at *
  simp [World.setCell, Array.getElem?_modify, h]
theorem Own.setOther {w : World} {b : Nat} {c : Array Value} {T : TypeId} (h : Own w b c T) {p : Addr} (hp : b ≠ p.block) (v : Value) : Own (w.setCell p v) b c T := by
  unfold Own at *
  rw [Below.heap_setCell _ _ _ _ hp]; exact h
theorem Own.drewN {w : World} {b : Nat} {c : Array Value} {T : TypeId} (h : Own w b c T) (n : Nat) : Own (w.drewN n) b c T := h
theorem Own.drew {w : World} {b : Nat} {c : Array Value} {T : TypeId} (h : Own w b c T) : Own w.drew b c T := h
theorem Own.new' (w : World) (c : Array Value) (T : TypeId) {n : Nat} (hn : n = w.heap.size) : Own (w.alloc (.cells c T)) n c T := by subst hn; exact Own.new w c T
/-- what stood before a call reads as before -/
theorem Ext.cells {w w1 : World} (h : Ext w w1) : (∀ b o, b < w.heap.size → w1.cell? ⟨b, o, none⟩ = w.cell? ⟨b, o, none⟩) ∧ (∀ b o, b < w.heap.size → w1.frozen? ⟨b, o, none⟩ = w.frozen? ⟨b, o, none⟩) ∧ w.heap.size ≤ w1.heap.size :=
  ⟨fun b o hb => Below.cell h (p := ⟨b, o, none⟩) hb, fun b o hb => Below.frozen h (p := ⟨b, o, none⟩) hb, h.size⟩
theorem Ext.cell1 {w w1 : World} (h : Ext w w1) {b o : Nat} {v : Value} (hc : w.cell? ⟨b, o, none⟩ = some v) : w1.cell? ⟨b, o, none⟩ = some v := by
  rw [cell_ph] at *; exact cellAt_mono h.ple hc
/-- a row of xs, sz cells each, in block b from o on -/
def RowRep {α : Type} (h : PH) (E : PH → List Value → α → Prop) (sz b : Nat) : Nat → List α → Prop
  | _, [] => True
  | o, x :: xs => (∃ cs, cs.length = sz ∧ (∀ j, j < sz → cellAt h b (o + j) = some (cs.getD j undef)) ∧ E h cs x) ∧ RowRep h E sz b (o + sz) xs
theorem RowRep.get {α : Type} {h : PH} {E : PH → List Value → α → Prop} {sz b : Nat} : ∀ {xs : List α} {o : Nat}, RowRep h E sz b o xs → ∀ i (hi : i < xs.length),
    ∃ cs, cs.length = sz ∧ (∀ j, j < sz → cellAt h b (o + i * sz + j) = some (cs.getD j undef)) ∧ E h cs xs[i]
  | x :: xs, o, hr, 0, _ => by simpa using hr.1
  | x :: xs, o, hr, i + 1, hi => by
    obtain ⟨cs, h1, h2, h3⟩ := RowRep.get hr.2 i (by simpa using hi)
    refine ⟨cs, h1, fun j hj => ?_, h3⟩
    rw [← h2 j hj]; congr 1; rw [Nat.add_mul]; omega
theorem RowRep.of {α : Type} {h : PH} {E : PH → List Value → α → Prop} {sz b : Nat} : ∀ {xs : List α} {o : Nat}, (∀ i (hi : i < xs.length),
    ∃ cs, cs.length = sz ∧ (∀ j, j < sz → cellAt h b (o + i * sz + j) = some (cs.getD j undef)) ∧ E h cs xs[i]) → RowRep h E sz b o xs
  | [], _, _ => trivial
  | x :: xs, o, hr => by
    refine ⟨by have := hr 0 (by simp); simpa only [Nat.zero_mul, Nat.add_zero, List.getElem_cons_zero] using this, RowRep.of fun i hi => ?_⟩
    obtain ⟨cs, h1, h2, h3⟩ := hr (i + 1) (by simpa using hi)
    refine ⟨cs, h1, fun j hj => ?_, h3⟩
    rw [← h2 j hj]; congr 1; rw [Nat.add_mul]; omega
def Mono {α : Type} (E : PH → List Value → α → Prop) : Prop := ∀ h h' cs x, PLe h h' → E h cs x → E h' cs x
theorem RowRep.mono' {α : Type} {E : PH → List Value → α → Prop} {sz b : Nat} {h h' : PH} (hl : PLe h h') : ∀ {xs : List α} {o : Nat}, (∀ cs x, x ∈ xs → E h cs x → E h' cs x) → RowRep h E sz b o xs → RowRep h' E sz b o xs
  | [], _, _, _ => trivial
  | x :: xs, o, hE, hr => by
    obtain ⟨⟨cs, h1, h2, h3⟩, h4⟩ := hr
    exact ⟨⟨cs, h1, fun j hj => cellAt_mono hl (h2 j hj), hE _ _ (by simp) h3⟩, RowRep.mono' hl (fun cs x hx => hE cs x (by simp [hx])) h4⟩
/-- a slice value that reads as the list xs -/
def SliceRep {α : Type} (E : PH → List Value → α → Prop) (sz : Nat) (h : PH) (v : Value) (xs : List α) : Prop :=
  ∃ a cap, v = .slice a xs.length cap ∧ xs.length ≤ cap ∧ cap ≤ maxLen ∧ (xs = [] ∨ ∃ b o, a = some ⟨b, o, none⟩ ∧ RowRep h E sz b o xs)
theorem SliceRep.mono' {α : Type} {E : PH → List Value → α → Prop} {sz : Nat} {h h' : PH} {v : Value} {xs : List α} (hl : PLe h h') (hE : ∀ cs x, x ∈ xs → E h cs x → E h' cs x) (hr : SliceRep E sz h v xs) : SliceRep E sz h' v xs := by
  obtain ⟨a, cap, h1, h2, h3, h4⟩ := hr
  refine ⟨a, cap, h1, h2, h3, ?_⟩
  rcases h4 with h4 | ⟨b, o, h5, h6⟩
  · exact .inl h4
  · exact .inr ⟨b, o, h5, RowRep.mono' hl hE h6⟩
theorem SliceRep.mono {α : Type} {E : PH → List Value → α → Prop} {sz : Nat} {h h' : PH} {v : Value} {xs : List α} (hr : SliceRep E sz h v xs) (hm : Mono E) (hl : PLe h h') : SliceRep E sz h' v xs :=
  hr.mono' hl fun _ _ _ => hm _ _ _ _ hl
theorem SliceRep.nil {α : Type} (E : PH → List Value → α → Prop) (sz : Nat) (h : PH) : SliceRep E sz h (.slice none 0 0) [] :=
  ⟨none, 0, rfl, Nat.le_refl _, Nat.zero_le _, .inl rfl⟩
/-- its outer form -/
theorem SliceRep.form {α : Type} {E : PH → List Value → α → Prop} {sz : Nat} {h : PH} {v : Value} {xs : List α} (hr : SliceRep E sz h v xs) : ∃ a cap, v = .slice a xs.length cap ∧ xs.length ≤ 9223372036854775807 ∧ SliceRep E sz h (.slice a xs.length cap) xs := by
  obtain ⟨a, cap, h1, h2, h3, h4⟩ := hr
  refine ⟨a, cap, h1, by unfold maxLen at h3; omega, ⟨a, cap, rfl, h2, h3, h4⟩⟩
/-- the cells of element k -/
theorem SliceRep.get {α : Type} {E : PH → List Value → α → Prop} {sz : Nat} {h : PH} {a : Option Addr} {n cap : Nat} {xs : List α} (hr : SliceRep E sz h (.slice a n cap) xs) (k : Nat) (hk : k < xs.length) :
    ∃ b o cs, a = some ⟨b, o, none⟩ ∧ cs.length = sz ∧ (∀ j, j < sz → cellAt h b (o + k * sz + j) = some (cs.getD j undef)) ∧ E h cs xs[k] := by
  obtain ⟨a', cap', h1, h2, h3, h4⟩ := hr
  cases h1
  rcases h4 with rfl | ⟨b, o, h5, h6⟩
  · simp at hk
  · obtain ⟨cs, h7, h8, h9⟩ := h6.get k hk
    exact ⟨b, o, cs, h5, h7, h8, h9⟩
theorem SliceRep.get1 {α : Type} {E : PH → List Value → α → Prop} {w : World} {a : Option Addr} {n cap : Nat} {xs : List α} (hr : SliceRep E 1 (ph w) (.slice a n cap) xs) (k : Nat) (hk : k < xs.length) :
    ∃ b o c, a = some ⟨b, o, none⟩ ∧ w.cell? ⟨b, o + k, none⟩ = some c ∧ E (ph w) [c] xs[k] := by
  obtain ⟨b, o, cs, h1, h2, h3, h4⟩ := hr.get k hk
  match cs, h2 with
  | [c], _ => exact ⟨b, o, c, h1, by rw [cell_ph]; simpa using h3 0 (by omega), h4⟩
theorem SliceRep.get2 {α : Type} {E : PH → List Value → α → Prop} {w : World} {a : Option Addr} {n cap : Nat} {xs : List α} (hr : SliceRep E 2 (ph w) (.slice a n cap) xs) (k : Nat) (hk : k < xs.length) :
    ∃ b o c d, a = some ⟨b, o, none⟩ ∧ w.cell? ⟨b, o + k * 2, none⟩ = some c ∧ w.cell? ⟨b, o + k * 2 + 1, none⟩ = some d ∧ E (ph w) [c, d] xs[k] := by
  obtain ⟨b, o, cs, h1, h2, h3, h4⟩ := hr.get k hk
  match cs, h2 with
  | [c, d], _ => exact ⟨b, o, c, d, h1, by rw [cell_ph]; simpa using h3 0 (by omega), by rw [cell_ph]; simpa using h3 1 (by omega), h4⟩
theorem SliceRep.get3 {α : Type} {E : PH → List Value → α → Prop} {w : World} {a : Option Addr} {n cap : Nat} {xs : List α} (hr : SliceRep E 3 (ph w) (.slice a n cap) xs) (k : Nat) (hk : k < xs.length) :
    ∃ b o c d e, a = some ⟨b, o, none⟩ ∧ w.cell? ⟨b, o + k * 3, none⟩ = some c ∧ w.cell? ⟨b, o + k * 3 + 1, none⟩ = some d ∧ w.cell? ⟨b, o + k * 3 + 2, none⟩ = some e ∧ E (ph w) [c, d, e] xs[k] := by
  obtain ⟨b, o, cs, h1, h2, h3, h4⟩ := hr.get k hk
  match cs, h2 with
  | [c, d, e], _ => exact ⟨b, o, c, d, e, h1, by rw [cell_ph]; simpa using h3 0 (by omega), by rw [cell_ph]; simpa using h3 1 (by omega), by rw [cell_ph]; simpa using h3 2 (by omega), h4⟩
def I64 (n : Int) : Prop := -9223372036854775808 ≤ n ∧ n ≤ 9223372036854775807
def IntR (_ : PH) (cs : List Value) (n : Int) : Prop := cs = [.int .i64 n] ∧ I64 n
theorem mono_IntR : Mono IntR := fun _ _ _ _ _ h => h
abbrev IntsR : PH → Value → List Int → Prop := SliceRep IntR 1
def ByteR (_ : PH) (cs : List Value) (n : UInt8) : Prop := cs = [.int .u8 n.toNat]
theorem mono_ByteR : Mono ByteR := fun _ _ _ _ _ h => h
abbrev BytesR : PH → Value → List UInt8 → Prop := SliceRep ByteR 1
theorem cell_lt {w : World} {b o : Nat} {v : Value} (h : w.cell? ⟨b, o, none⟩ = some v) : b < w.heap.size := World.block_lt_of_cell? w _ h
theorem IntsR.at {w : World} {a : Option Addr} {n cap : Nat} {xs : List Int} (hr : IntsR (ph w) (.slice a n cap) xs) (k : Nat) (hk : k < xs.length) :
    ∃ b o, a = some ⟨b, o, none⟩ ∧ w.cell? ⟨b, o + k, none⟩ = some (.int .i64 xs[k]) ∧ I64 xs[k] ∧ b < w.heap.size := by
  obtain ⟨b, o, c, h1, h2, h3, h4⟩ := SliceRep.get1 hr k hk
  cases h3
  exact ⟨b, o, h1, h2, h4, cell_lt h2⟩
theorem BytesR.at {w : World} {a : Option Addr} {n cap : Nat} {xs : List UInt8} (hr : BytesR (ph w) (.slice a n cap) xs) (k : Nat) (hk : k < xs.length) :
    ∃ b o, a = some ⟨b, o, none⟩ ∧ w.cell? ⟨b, o + k, none⟩ = some (.int .u8 xs[k].toNat) ∧ b < w.heap.size := by
  obtain ⟨b, o, c, h1, h2, h3⟩ := SliceRep.get1 hr k hk
  cases h3
  exact ⟨b, o, h1, h2, cell_lt h2⟩
theorem ret_int {k : IntKind} {a b : Int} (h : a = b) : Ending.returned (.int k a) = .returned (.int k b) := by rw [h]
theorem ret_bool {a b : Bool} (h : a = b) : Ending.returned (.bool a) = .returned (.bool b) := by rw [h]
theorem val_int {k : IntKind} {a b : Int} (h : a = b) : Value.int k a = .int k b := by rw [h]
/-- a call that returns one value and leaves all that was there as it was -/
def Ret (w : World) (P : Value → World → Prop) (e : Ending) (w' : World) : Prop := ∃ v, e = .returned v ∧ Ext w w' ∧ P v w'
def RetV (w : World) (v : Value) (e : Ending) (w' : World) : Prop := e = .returned v ∧ Ext w w'
theorem enterFn {f : FuncId} {fn : Func} {c : Code} (hf : Tryz.prog.funcs[f]? = some fn) (hname : (fn.name == "runtime.NumGoroutine") = false) (hb : fn.body = some c) (args : Array Value) (w : World) :
    (callFunc f args).run Tryz.prog w = .ok (.enter f args) w := by
  unfold callFunc
  have hn : fn.name ≠ "runtime.NumGoroutine" := by simpa using hname
  simp [program, hf, Bind.bind, Sem.bind, Sem.run, hn, hb, pure]
def idxOf {α : Type} (p : α → Bool) (l : List α) : Int := match l.findIdx? p with | some i => i | none => -1
theorem idxOf_found {α : Type} (p : α → Bool) (l : List α) (k : Nat) (h : k < l.length) (hp : p l[k] = true) (hno : ∀ x ∈ l.take k, p x = false) : idxOf p l = k := by
  have : l.findIdx? p = some k := by
    rw [List.findIdx?_eq_some_iff_getElem]
    refine ⟨h, hp, fun j hj => ?_⟩
    have := hno (l[j]) (by rw [List.mem_take_iff_getElem]; exact ⟨j, by omega, rfl⟩)
    simp [this]
  simp [idxOf, this]
theorem idxOf_none {α : Type} (p : α → Bool) (l : List α) (hno : ∀ x ∈ l, p x = false) : idxOf p l = -1 := by
  have : l.findIdx? p = none := by rw [List.findIdx?_eq_none_iff]; exact hno
  simp [idxOf, this]
theorem idxOf_ge {α : Type} (p : α → Bool) (l : List α) : decide (0 ≤ idxOf p l) = l.any p := by
  cases h : l.findIdx? p with
  | none =>
    rw [List.findIdx?_eq_none_iff] at h
    rw [idxOf_none p l h, List.any_eq_false.2 (by simpa using h)]; rfl
  | some i =>
    have : l.any p = true := by
      rw [List.findIdx?_eq_some_iff_getElem] at h
      obtain ⟨hi, h1, -⟩ := h
      exact List.any_eq_true.2 ⟨l[i], List.getElem_mem hi, h1⟩
    simp [idxOf, h, this]
theorem take_all {α : Type} {p : α → Prop} {l : List α} {k : Nat} (h : k < l.length) (hk : p l[k]) (hno : ∀ x ∈ l.take k, p x) : ∀ x ∈ l.take (k + 1), p x := by
  intro x hx
  rw [List.take_succ_eq_append_getElem h] at hx
  rcases List.mem_append.1 hx with hx | hx
  · exact hno x hx
  · rw [List.mem_singleton.1 hx]; exact hk
theorem take_done {α : Type} {p : α → Prop} {l : List α} {k : Nat} (h : l.length ≤ k) (hno : ∀ x ∈ l.take k, p x) : ∀ x ∈ l, p x := by
  rwa [List.take_of_length_le h] at hno
/-- the truth value of a statement -/
noncomputable def B (p : Prop) : Bool := @decide p (Classical.propDecidable p)
theorem B_t {p : Prop} (h : p) : B p = true := by unfold B; simp [h]
theorem B_f {p : Prop} (h : ¬ p) : B p = false := by unfold B; simp [h]
theorem B_iff {p : Prop} : B p = true ↔ p := by unfold B; simp
theorem B_congr {p q : Prop} (h : p ↔ q) : B p = B q := by rw [propext h]
theorem ret_t {p : Prop} (h : p) : Ending.returned (.bool true) = .returned (.bool (B p)) := by rw [B_t h]
theorem ret_f {p : Prop} (h : ¬ p) : Ending.returned (.bool false) = .returned (.bool (B p)) := by rw [B_f h]
theorem ret_B {p : Prop} {b : Bool} (h : b = true ↔ p) : Ending.returned (.bool b) = .returned (.bool (B p)) := by
  have : b = B p := by rw [Bool.eq_iff_iff, B_iff]; exact h
  rw [this]
/-- error code 0 if p holds, k otherwise -/
noncomputable def ErrIf (p : Prop) (k : Int) : Int := @ite _ p (Classical.propDecidable p) 0 k
theorem ErrIf_t {p : Prop} {k : Int} (h : p) : ErrIf p k = 0 := by unfold ErrIf; simp [h]
theorem ErrIf_f {p : Prop} {k : Int} (h : ¬ p) : ErrIf p k = k := by unfold ErrIf; simp [h]
theorem ret_e0 {p : Prop} {k : Int} (h : p) : Ending.returned (.int .i64 0) = .returned (.int .i64 (ErrIf p k)) := by rw [ErrIf_t h]
theorem ret_ek {p : Prop} {k : Int} (h : ¬ p) : Ending.returned (.int .i64 k) = .returned (.int .i64 (ErrIf p k)) := by rw [ErrIf_f h]
theorem take_snoc {α : Type} (l : List α) (k : Nat) (h : k < l.length) : l.take (k + 1) = l.take k ++ [l[k]] := by
  rw [List.take_succ_eq_append_getElem h]
theorem take_snoc' {α : Type} (l : List α) (k : Nat) (x : α) (h : l[k]? = some x) : l.take (k + 1) = l.take k ++ [x] := by
  rw [List.take_add_one, h]; rfl
end Go.Proofs.YtcbmgajaaechjaaGreat
