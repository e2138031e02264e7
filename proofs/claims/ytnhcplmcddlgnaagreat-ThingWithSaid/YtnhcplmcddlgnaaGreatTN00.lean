/- Memory read as plain lists: the base of all contracts.; ratios as plain data.; package ratio: gcd, size, build, New, Valid; the reference's divisor and Good.; ratio.Valid; the reference's divisor and Good.; sums and maxima over lists.; Things as plain data, and how they lie in memory.; Value of both sides.; Slices that a call owns: append onto them, read them, hand them back. -/
import Derived.Test.YtnhcplmcddlgnaaGreatProg
import Derived.WalkKit
import Derived.WalkSpells
import Derived.WalkLawsBesides
import Derived.BigQuiet
import Derived.Deep.QuietTactic
import Derived.Lib.Hide
import Derived.Deep.DeepFit
import Derived.Handy
import Derived.Deep.LoopGhost
import Derived.Deep.DeepCutAuto
import Derived.Deep.Light
namespace Go.Proofs.YtnhcplmcddlgnaaGreat
open Go.RowKit
set_option linter.unusedSimpArgs false
set_option linter.unusedVariables false
abbrev PH := Nat → Option Obj
def ph (w : World) : PH := fun k => w.heap[k]?
def cellAt (h : PH) (b o : Nat) : Option Value := match h b with | some (.cells c _ _) => c[o]? | _ => none
theorem cell_ph (w : World) (b o : Nat) : w.cell? ⟨b, o, none⟩ = cellAt (ph w) b o := by
  simp only [World.cell?, cellAt, ph]
  cases w.heap[b]? with
  | none => rfl
  | some x => cases x <;> rfl
def PLe (h h' : PH) : Prop := ∀ k o, h k = some o → h' k = some o
theorem PLe.refl (h : PH) : PLe h h := fun _ _ h => h
theorem PLe.trans {a b c : PH} (h : PLe a b) (k : PLe b c) : PLe a c := fun i o x => k i o (h i o x)
theorem cellAt_mono {h h' : PH} (hl : PLe h h') {b o : Nat} {v : Value} (hc : cellAt h b o = some v) : cellAt h' b o = some v := by
  unfold cellAt at *
  cases hb : h b with
  | none => simp [hb] at hc
  | some x => rw [hl b x hb]; rw [hb] at hc; exact hc
abbrev Ext (w w' : World) : Prop := Below w.heap.size w w'
theorem ph_lt {w : World} {k : Nat} {o : Obj} (hk : ph w k = some o) : k < w.heap.size := by
  simp only [ph] at hk
  exact (Array.getElem?_eq_some_iff.1 hk).1
theorem Ext.ple {w w' : World} (hb : Ext w w') : PLe (ph w) (ph w') := by
  intro k o hk
  show w'.heap[k]? = some o
  rw [hb.block k (ph_lt hk)]; exact hk
theorem Ext.then {a b c : World} (h : Ext a b) (k : Ext b c) : Ext a c := Below.trans h (k.mono h.size)
theorem Ext.alloc' {a b : World} (h : Ext a b) (o : Obj) : Ext a (b.alloc o) := Below.alloc h h.size o
theorem Ext.new (w : World) (o : Obj) : Ext w (w.alloc o) := Below.alloc (Below.refl _ _) (Nat.le_refl _) o
theorem Ext.rfl' (w : World) : Ext w w := Below.refl _ _
theorem Ext.drew' {a b : World} (h : Ext a b) : Ext a b.drew := Below.drew h
theorem Ext.set' {a b : World} (h : Ext a b) {p : Addr} (hp : a.heap.size ≤ p.block) (u : Value) : Ext a (b.setCell p u) := Below.setCell h hp u
theorem Ext.drewN' {a b : World} (h : Ext a b) : ∀ n, Ext a (b.drewN n) := fun _ => ⟨h.os, h.tape, h.output, h.size, h.block⟩
/-- block b holds just these cells, and may be written -/
def Own (w : World) (b : Nat) (c : Array Value) (T : TypeId) : Prop := w.heap[b]? = some (.cells c T (0, 0))
theorem Own.facts {w : World} {b : Nat} {c : Array Value} {T : TypeId} (h : Own w b c T) : (∀ j, w.cell? ⟨b, j, none⟩ = c[j]?) ∧ (∀ j, w.frozen? ⟨b, j, none⟩ = false) := by
  unfold Own at h
  exact ⟨fun j => by simp [World.cell?, h], fun j => by simp [World.frozen?, h]⟩
theorem Own.lt {w : World} {b : Nat} {c : Array Value} {T : TypeId} (h : Own w b c T) : b < w.heap.size := (Array.getElem?_eq_some_iff.1 h).1
theorem Own.keep {w w' : World} {b : Nat} {c : Array Value} {T : TypeId} (h : Own w b c T) (e : Ext w w') : Own w' b c T := by
  unfold Own; rw [e.block b h.lt]; exact h
theorem Own.new (w : World) (c : Array Value) (T : TypeId) : Own (w.alloc (.cells c T)) w.heap.size c T := heap_alloc_new w _
theorem Own.alloc {w : World} {b : Nat} {c : Array Value} {T : TypeId} (h : Own w b c T) (o : Obj) : Own (w.alloc o) b c T := h.keep (Ext.new w o)
theorem Own.set {w : World} {b : Nat} {c : Array Value} {T : TypeId} (h : Own w b c T) (j : Nat) (v : Value) : Own (w.setCell ⟨b, j, none⟩ v) b (c.setIfInBounds j v) T := by
  unfold Own at *
  simp [World.setCell, Array.getElem?_modify, h]
theorem Own.setOther {w : World} {b : Nat} {c : Array Value} {T : TypeId} (h : Own w b c T) {p : Addr} (hp : b ≠ p.block) (v : Value) : Own (w.setCell p v) b c T := by
  unfold Own at *
  rw [Below.heap_setCell _ _ _ _ hp]; exact h
theorem Own.drewN {w : World} {b : Nat} {c : Array Value} {T : TypeId} (h : Own w b c T) (n : Nat) : Own (w.drewN n) b c T := h
theorem Own.drew {w : World} {b : Nat} {c : Array Value} {T : TypeId} (h : Own w b c T) : Own w.drew b c T := h
theorem Own.new' (w : World) (c : Array Value) (T : TypeId) {n : Nat} (hn : n = w.heap.size) : Own (w.alloc (.cells c T)) n c T := by subst hn; exact Own.new w c T
/-- what stood before a call reads as before -/
theorem Ext.cells {w w1 : World} (h : Ext w w1) : (∀ b o, b < w.heap.size → w1.cell? ⟨b, o, none⟩ = w.cell? ⟨b, o, none⟩) ∧ (∀ b o, b < w.heap.size → w1.frozen? ⟨b, o, none⟩ = w.frozen? ⟨b, o, none⟩) ∧ w.heap.size ≤ w1.heap.size :=
  ⟨fun b o hb => Below.cell h (p := ⟨b, o, none⟩) hb, fun b o hb => Below.frozen h (p := ⟨b, o, none⟩) hb, h.size⟩
theorem Ext.cell1 {w w1 : World} (h : Ext w w1) {b o : Nat} {v : Value} (hc : w.cell? ⟨b, o, none⟩ = some v) : w1.cell? ⟨b, o, none⟩ = some v := by
  rw [cell_ph] at *; exact cellAt_mono h.ple hc
/-- a row of xs, sz cells each, in block b from o on -/
def RowRep {α : Type} (h : PH) (E : PH → List Value → α → Prop) (sz b : Nat) : Nat → List α → Prop
  | _, [] => True
  | o, x :: xs => (∃ cs, cs.length = sz ∧ (∀ j, j < sz → cellAt h b (o + j) = some (cs.getD j undef)) ∧ E h cs x) ∧ RowRep h E sz b (o + sz) xs
theorem RowRep.get {α : Type} {h : PH} {E : PH → List Value → α → Prop} {sz b : Nat} : ∀ {xs : List α} {o : Nat}, RowRep h E sz b o xs → ∀ i (hi : i < xs.length),
    ∃ cs, cs.length = sz ∧ (∀ j, j < sz → cellAt h b (o + i * sz + j) = some (cs.getD j undef)) ∧ E h cs xs[i]
  | x :: xs, o, hr, 0, _ => by simpa using hr.1
  | x :: xs, o, hr, i + 1, hi => by
    obtain ⟨cs, h1, h2, h3⟩ := RowRep.get hr.2 i (by simpa using hi)
    refine ⟨cs, h1, fun j hj => ?_, h3⟩
    rw [← h2 j hj]; congr 1; rw [Nat.add_mul]; omega
theorem RowRep.of {α : Type} {h : PH} {E : PH → List Value → α → Prop} {sz b : Nat} : ∀ {xs : List α} {o : Nat}, (∀ i (hi : i < xs.length),
    ∃ cs, cs.length = sz ∧ (∀ j, j < sz → cellAt h b (o + i * sz + j) = some (cs.getD j undef)) ∧ E h cs xs[i]) → RowRep h E sz b o xs
  | [], _, _ => trivial
  | x :: xs, o, hr => by
    refine ⟨by have := hr 0 (by simp); simpa only [Nat.zero_mul, Nat.add_zero, List.getElem_cons_zero] using this, RowRep.of fun i hi => ?_⟩
    obtain ⟨cs, h1, h2, h3⟩ := hr (i + 1) (by simpa using hi)
    refine ⟨cs, h1, fun j hj => ?_, h3⟩
    rw [← h2 j hj]; congr 1; rw [Nat.add_mul]; omega
def Mono {α : Type} (E : PH → List Value → α → Prop) : Prop := ∀ h h' cs x, PLe h h' → E h cs x → E h' cs x
theorem RowRep.mono' {α : Type} {E : PH → List Value → α → Prop} {sz b : Nat} {h h' : PH} (hl : PLe h h') : ∀ {xs : List α} {o : Nat}, (∀ cs x, x ∈ xs → E h cs x → E h' cs x) → RowRep h E sz b o xs → RowRep h' E sz b o xs
  | [], _, _, _ => trivial
  | x :: xs, o, hE, hr => by
    obtain ⟨⟨cs, h1, h2, h3⟩, h4⟩ := hr
    exact ⟨⟨cs, h1, fun j hj => cellAt_mono hl (h2 j hj), hE _ _ (by simp) h3⟩, RowRep.mono' hl (fun cs x hx => hE cs x (by simp [hx])) h4⟩
/-- a slice value that reads as the list xs -/
def SliceRep {α : Type} (E : PH → List Value → α → Prop) (sz : Nat) (h : PH) (v : Value) (xs : List α) : Prop :=
  ∃ a cap, v = .slice a xs.length cap ∧ xs.length ≤ cap ∧ cap ≤ maxLen ∧ (xs = [] ∨ ∃ b o, a = some ⟨b, o, none⟩ ∧ RowRep h E sz b o xs)
theorem SliceRep.mono' {α : Type} {E : PH → List Value → α → Prop} {sz : Nat} {h h' : PH} {v : Value} {xs : List α} (hl : PLe h h') (hE : ∀ cs x, x ∈ xs → E h cs x → E h' cs x) (hr : SliceRep E sz h v xs) : SliceRep E sz h' v xs := by
  obtain ⟨a, cap, h1, h2, h3, h4⟩ := hr
  refine ⟨a, cap, h1, h2, h3, ?_⟩
  rcases h4 with h4 | ⟨b, o, h5, h6⟩
  · exact .inl h4
  · exact .inr ⟨b, o, h5, RowRep.mono' hl hE h6⟩
theorem SliceRep.mono {α : Type} {E : PH → List Value → α → Prop} {sz : Nat} {h h' : PH} {v : Value} {xs : List α} (hr : SliceRep E sz h v xs) (hm : Mono E) (hl : PLe h h') : SliceRep E sz h' v xs :=
  hr.mono' hl fun _ _ _ => hm _ _ _ _ hl
theorem SliceRep.nil {α : Type} (E : PH → List Value → α → Prop) (sz : Nat) (h : PH) : SliceRep E sz h (.slice none 0 0) [] :=
  ⟨none, 0, rfl, Nat.le_refl _, Nat.zero_le _, .inl rfl⟩
/-- its outer form -/
theorem SliceRep.form {α : Type} {E : PH → List Value → α → Prop} {sz : Nat} {h : PH} {v : Value} {xs : List α} (hr : SliceRep E sz h v xs) : ∃ a cap, v = .slice a xs.length cap ∧ xs.length ≤ 9223372036854775807 ∧ SliceRep E sz h (.slice a xs.length cap) xs := by
  obtain ⟨a, cap, h1, h2, h3, h4⟩ := hr
  refine ⟨a, cap, h1, by unfold maxLen at h3; omega, ⟨a, cap, rfl, h2, h3, h4⟩⟩
/-- the cells of element k -/
theorem SliceRep.get {α : Type} {E : PH → List Value → α → Prop} {sz : Nat} {h : PH} {a : Option Addr} {n cap : Nat} {xs : List α} (hr : SliceRep E sz h (.slice a n cap) xs) (k : Nat) (hk : k < xs.length) :
    ∃ b o cs, a = some ⟨b, o, none⟩ ∧ cs.length = sz ∧ (∀ j, j < sz → cellAt h b (o + k * sz + j) = some (cs.getD j undef)) ∧ E h cs xs[k] := by
  obtain ⟨a', cap', h1, h2, h3, h4⟩ := hr
  cases h1
  rcases h4 with rfl | ⟨b, o, h5, h6⟩
  · simp at hk
  · obtain ⟨cs, h7, h8, h9⟩ := h6.get k hk
    exact ⟨b, o, cs, h5, h7, h8, h9⟩
theorem SliceRep.get1 {α : Type} {E : PH → List Value → α → Prop} {w : World} {a : Option Addr} {n cap : Nat} {xs : List α} (hr : SliceRep E 1 (ph w) (.slice a n cap) xs) (k : Nat) (hk : k < xs.length) :
    ∃ b o c, a = some ⟨b, o, none⟩ ∧ w.cell? ⟨b, o + k, none⟩ = some c ∧ E (ph w) [c] xs[k] := by
  obtain ⟨b, o, cs, h1, h2, h3, h4⟩ := hr.get k hk
  match cs, h2 with
  | [c], _ => exact ⟨b, o, c, h1, by rw [cell_ph]; simpa using h3 0 (by omega), h4⟩
theorem SliceRep.get3 {α : Type} {E : PH → List Value → α → Prop} {w : World} {a : Option Addr} {n cap : Nat} {xs : List α} (hr : SliceRep E 3 (ph w) (.slice a n cap) xs) (k : Nat) (hk : k < xs.length) :
    ∃ b o c d e, a = some ⟨b, o, none⟩ ∧ w.cell? ⟨b, o + k * 3, none⟩ = some c ∧ w.cell? ⟨b, o + k * 3 + 1, none⟩ = some d ∧ w.cell? ⟨b, o + k * 3 + 2, none⟩ = some e ∧ E (ph w) [c, d, e] xs[k] := by
  obtain ⟨b, o, cs, h1, h2, h3, h4⟩ := hr.get k hk
  match cs, h2 with
  | [c, d, e], _ => exact ⟨b, o, c, d, e, h1, by rw [cell_ph]; simpa using h3 0 (by omega), by rw [cell_ph]; simpa using h3 1 (by omega), by rw [cell_ph]; simpa using h3 2 (by omega), h4⟩
def I64 (n : Int) : Prop := -9223372036854775808 ≤ n ∧ n ≤ 9223372036854775807
def IntR (_ : PH) (cs : List Value) (n : Int) : Prop := cs = [.int .i64 n] ∧ I64 n
theorem mono_IntR : Mono IntR := fun _ _ _ _ _ h => h
abbrev IntsR : PH → Value → List Int → Prop := SliceRep IntR 1
def ByteR (_ : PH) (cs : List Value) (n : UInt8) : Prop := cs = [.int .u8 n.toNat]
theorem mono_ByteR : Mono ByteR := fun _ _ _ _ _ h => h
abbrev BytesR : PH → Value → List UInt8 → Prop := SliceRep ByteR 1
theorem cell_lt {w : World} {b o : Nat} {v : Value} (h : w.cell? ⟨b, o, none⟩ = some v) : b < w.heap.size := World.block_lt_of_cell? w _ h
theorem IntsR.at {w : World} {a : Option Addr} {n cap : Nat} {xs : List Int} (hr : IntsR (ph w) (.slice a n cap) xs) (k : Nat) (hk : k < xs.length) :
    ∃ b o, a = some ⟨b, o, none⟩ ∧ w.cell? ⟨b, o + k, none⟩ = some (.int .i64 xs[k]) ∧ I64 xs[k] ∧ b < w.heap.size := by
  obtain ⟨b, o, c, h1, h2, h3, h4⟩ := SliceRep.get1 hr k hk
  cases h3
  exact ⟨b, o, h1, h2, h4, cell_lt h2⟩
theorem BytesR.at {w : World} {a : Option Addr} {n cap : Nat} {xs : List UInt8} (hr : BytesR (ph w) (.slice a n cap) xs) (k : Nat) (hk : k < xs.length) :
    ∃ b o, a = some ⟨b, o, none⟩ ∧ w.cell? ⟨b, o + k, none⟩ = some (.int .u8 xs[k].toNat) ∧ b < w.heap.size := by
  obtain ⟨b, o, c, h1, h2, h3⟩ := SliceRep.get1 hr k hk
  cases h3
  exact ⟨b, o, h1, h2, cell_lt h2⟩
theorem ret_int {k : IntKind} {a b : Int} (h : a = b) : Ending.returned (.int k a) = .returned (.int k b) := by rw [h]
theorem ret_bool {a b : Bool} (h : a = b) : Ending.returned (.bool a) = .returned (.bool b) := by rw [h]
theorem val_int {k : IntKind} {a b : Int} (h : a = b) : Value.int k a = .int k b := by rw [h]
def RetV (w : World) (v : Value) (e : Ending) (w' : World) : Prop := e = .returned v ∧ Ext w w'
theorem enterFn {f : FuncId} {fn : Func} {c : Code} (hf : Tryz.prog.funcs[f]? = some fn) (hname : (fn.name == "runtime.NumGoroutine") = false) (hb : fn.body = some c) (args : Array Value) (w : World) :
    (callFunc f args).run Tryz.prog w = .ok (.enter f args) w := by
  unfold callFunc
  have hn : fn.name ≠ "runtime.NumGoroutine" := by simpa using hname
  simp [program, hf, Bind.bind, Sem.bind, Sem.run, hn, hb, pure]
def idxOf {α : Type} (p : α → Bool) (l : List α) : Int := match l.findIdx? p with | some i => i | none => -1
theorem idxOf_found {α : Type} (p : α → Bool) (l : List α) (k : Nat) (h : k < l.length) (hp : p l[k] = true) (hno : ∀ x ∈ l.take k, p x = false) : idxOf p l = k := by
  have : l.findIdx? p = some k := by
    rw [List.findIdx?_eq_some_iff_getElem]
    refine ⟨h, hp, fun j hj => ?_⟩
    have := hno (l[j]) (by rw [List.mem_take_iff_getElem]; exact ⟨j, by omega, rfl⟩)
    simp [this]
  simp [idxOf, this]
theorem idxOf_none {α : Type} (p : α → Bool) (l : List α) (hno : ∀ x ∈ l, p x = false) : idxOf p l = -1 := by
  have : l.findIdx? p = none := by rw [List.findIdx?_eq_none_iff]; exact hno
  simp [idxOf, this]
theorem idxOf_ge {α : Type} (p : α → Bool) (l : List α) : decide (0 ≤ idxOf p l) = l.any p := by
  cases h : l.findIdx? p with
  | none =>
    rw [List.findIdx?_eq_none_iff] at h
    rw [idxOf_none p l h, List.any_eq_false.2 (by simpa using h)]; rfl
  | some i =>
    have : l.any p = true := by
      rw [List.findIdx?_eq_some_iff_getElem] at h
      obtain ⟨hi, h1, -⟩ := h
      exact List.any_eq_true.2 ⟨l[i], List.getElem_mem hi, h1⟩
    simp [idxOf, h, this]
theorem take_all {α : Type} {p : α → Prop} {l : List α} {k : Nat} (h : k < l.length) (hk : p l[k]) (hno : ∀ x ∈ l.take k, p x) : ∀ x ∈ l.take (k + 1), p x := by
  intro x hx
  rw [List.take_succ_eq_append_getElem h] at hx
  rcases List.mem_append.1 hx with hx | hx
  · exact hno x hx
  · rw [List.mem_singleton.1 hx]; exact hk
theorem take_done {α : Type} {p : α → Prop} {l : List α} {k : Nat} (h : l.length ≤ k) (hno : ∀ x ∈ l.take k, p x) : ∀ x ∈ l, p x := by
  rwa [List.take_of_length_le h] at hno
/-- the truth value of a statement -/
noncomputable def B (p : Prop) : Bool := @decide p (Classical.propDecidable p)
theorem B_t {p : Prop} (h : p) : B p = true := by unfold B; simp [h]
theorem B_f {p : Prop} (h : ¬ p) : B p = false := by unfold B; simp [h]
theorem B_iff {p : Prop} : B p = true ↔ p := by unfold B; simp
theorem ret_t {p : Prop} (h : p) : Ending.returned (.bool true) = .returned (.bool (B p)) := by rw [B_t h]
theorem ret_f {p : Prop} (h : ¬ p) : Ending.returned (.bool false) = .returned (.bool (B p)) := by rw [B_f h]
theorem ret_B {p : Prop} {b : Bool} (h : b = true ↔ p) : Ending.returned (.bool b) = .returned (.bool (B p)) := by
  have : b = B p := by rw [Bool.eq_iff_iff, B_iff]; exact h
  rw [this]
/-- error code 0 if p holds, k otherwise -/
noncomputable def ErrIf (p : Prop) (k : Int) : Int := @ite _ p (Classical.propDecidable p) 0 k
theorem ErrIf_t {p : Prop} {k : Int} (h : p) : ErrIf p k = 0 := by unfold ErrIf; simp [h]
theorem ErrIf_f {p : Prop} {k : Int} (h : ¬ p) : ErrIf p k = k := by unfold ErrIf; simp [h]
theorem ret_e0 {p : Prop} {k : Int} (h : p) : Ending.returned (.int .i64 0) = .returned (.int .i64 (ErrIf p k)) := by rw [ErrIf_t h]
theorem ret_ek {p : Prop} {k : Int} (h : ¬ p) : Ending.returned (.int .i64 k) = .returned (.int .i64 (ErrIf p k)) := by rw [ErrIf_f h]
theorem take_snoc {α : Type} (l : List α) (k : Nat) (h : k < l.length) : l.take (k + 1) = l.take k ++ [l[k]] := by
  rw [List.take_succ_eq_append_getElem h]
theorem take_snoc' {α : Type} (l : List α) (k : Nat) (x : α) (h : l[k]? = some x) : l.take (k + 1) = l.take k ++ [x] := by
  rw [List.take_add_one, h]; rfl
end Go.Proofs.YtnhcplmcddlgnaaGreat
namespace Go.Proofs.YtnhcplmcddlgnaaGreat
structure Rat2 where
  num : Int
  den : Int
  deriving DecidableEq
end Go.Proofs.YtnhcplmcddlgnaaGreat
namespace Go.Proofs.YtnhcplmcddlgnaaGreat
open Go.RowKit
set_option linter.unusedSimpArgs false
set_option linter.unusedVariables false
set_option maxHeartbeats 400000 in
theorem gcd_c (a b : Nat) (w : World) (ha : a ≤ 18446744073709551615) (hb : b ≤ 18446744073709551615) :
    Calls Tryz.prog 113 #[.int .u64 a, .int .u64 b] w (RetV w (.int .u64 (Nat.gcd a b))) := by
  go_enter Tryz.func113, Tryz.ntmps113
  go_wp2
  go_loopw [0, 1] (fun u v wr => ∃ x y : Nat, x ≤ 18446744073709551615 ∧ y ≤ 18446744073709551615 ∧ u = .int .u64 x ∧ v = .int .u64 y ∧ Hid (Nat.gcd x y = Nat.gcd a b) ∧ Ext w wr) (fun _ v _ => (intOf v).toNat)
  case atStart => exact ⟨a, b, ha, hb, rfl, rfl, Lib.hid rfl, (by with_reducible repeat (first | assumption | exact Ext.rfl' _ | exact Ext.new _ _ | refine Ext.alloc' ?_ _ | refine Ext.drew' ?_ | refine Ext.drewN' ?_ _ | (refine Ext.set' ?_ ?_ _; rotate_left; focus (first | omega | (simp; done) | (simp; omega))) | (refine Ext.then (b := ?_) ?_ ?_; rotate_left; rotate_left; assumption)))⟩
  case round =>
    obtain ⟨x, y, hx, hy, rfl, rfl, hg, he⟩ := hrel
    by_cases hlt : 0 < y
    · go_wp2_with fail
      go_quiet (fail)
      go_wp2_with fail
      refine ⟨⟨y, x % y, hy, ?_, rfl, val_int (by simp), Lib.hid ?_, (by with_reducible repeat (first | assumption | exact Ext.rfl' _ | exact Ext.new _ _ | refine Ext.alloc' ?_ _ | refine Ext.drew' ?_ | refine Ext.drewN' ?_ _ | (refine Ext.set' ?_ ?_ _; rotate_left; focus (first | omega | (simp; done) | (simp; omega))) | (refine Ext.then (b := ?_) ?_ ?_; rotate_left; rotate_left; assumption)))⟩, ?_⟩
      · have := Nat.mod_lt x hlt; omega
      · rw [← hg.out]; rw [Nat.gcd_comm x y, Nat.gcd_rec y x, Nat.gcd_comm]
      · have := Nat.mod_lt x hlt; simp only [intOf]; rw [← Int.natCast_emod]; omega
    · go_wp2_with fail
      go_ret
      exact ⟨ret_int (by have := hg.out; obtain rfl : y = 0 := by omega
                         simp at this; rw [this]), (by with_reducible repeat (first | assumption | exact Ext.rfl' _ | exact Ext.new _ _ | refine Ext.alloc' ?_ _ | refine Ext.drew' ?_ | refine Ext.drewN' ?_ _ | (refine Ext.set' ?_ ?_ _; rotate_left; focus (first | omega | (simp; done) | (simp; omega))) | (refine Ext.then (b := ?_) ?_ ?_; rotate_left; rotate_left; assumption)))⟩
set_option maxHeartbeats 400000 in
theorem sizeI_c (n : Int) (w : World) (hn : I64 n) :
    Calls Tryz.prog 100 #[.int .i64 n] w (RetV w (.int .u64 n.natAbs)) := by
  obtain ⟨h1, h2⟩ := hn
  by_cases hneg : n < 0
  · go_enter Tryz.func100, Tryz.ntmps100
    go_wp2
    go_ret
    exact ⟨ret_int (by simp only [IntKind.wrap_u64]; omega), (by with_reducible repeat (first | assumption | exact Ext.rfl' _ | exact Ext.new _ _ | refine Ext.alloc' ?_ _ | refine Ext.drew' ?_ | refine Ext.drewN' ?_ _ | (refine Ext.set' ?_ ?_ _; rotate_left; focus (first | omega | (simp; done) | (simp; omega))) | (refine Ext.then (b := ?_) ?_ ?_; rotate_left; rotate_left; assumption)))⟩
  · go_enter Tryz.func100, Tryz.ntmps100
    go_wp2
    go_ret
    exact ⟨ret_int (by omega), (by with_reducible repeat (first | assumption | exact Ext.rfl' _ | exact Ext.new _ _ | refine Ext.alloc' ?_ _ | refine Ext.drew' ?_ | refine Ext.drewN' ?_ _ | (refine Ext.set' ?_ ?_ _; rotate_left; focus (first | omega | (simp; done) | (simp; omega))) | (refine Ext.then (b := ?_) ?_ ?_; rotate_left; rotate_left; assumption)))⟩
def ratErr (r : Rat2) (e : Int) : Value := .tuple #[.agg #[.int .i64 r.num, .int .i64 r.den], .int .i64 e]
def buildS (neg : Bool) (n d : Nat) : Rat2 × Int :=
  if 1099511627776 < n / Nat.gcd n d ∨ 1048576 < d / Nat.gcd n d then (⟨0, 0⟩, 5)
  else (⟨if neg then -((n / Nat.gcd n d : Nat) : Int) else (n / Nat.gcd n d : Nat), (d / Nat.gcd n d : Nat)⟩, 0)
def newS (num den : Int) : Rat2 × Int := if den = 0 then (⟨0, 0⟩, 1) else buildS (decide (num < 0) != decide (den < 0)) num.natAbs den.natAbs
set_option maxHeartbeats 400000 in
theorem build_c (neg : Bool) (n d : Nat) (w : World) (hn : n ≤ 18446744073709551615) (hd : d ≤ 18446744073709551615) (h0 : 0 < d) :
    Calls Tryz.prog 99 #[.bool neg, .int .u64 n, .int .u64 d] w (RetV w (ratErr (buildS neg n d).1 (buildS neg n d).2)) := by
  have hg : 0 < Nat.gcd n d := Nat.gcd_pos_of_pos_right _ h0
  have hgd : Nat.gcd n d ≤ d := Nat.gcd_le_right _ h0
  go_enter Tryz.func99, Tryz.ntmps99
  go_wp2_with fail
  refine (gcd_c n d _ hn hd).mono ?_
  rintro e w1 ⟨rfl, hb1⟩
  have ho1 : Own w1 w.heap.size #[.int .i64 0, .int .i64 0] 44 := (by repeat (first | (with_reducible assumption) | (with_reducible exact Own.new _ _ _) | (with_reducible refine Own.new' _ _ _ ?_; (focus (simp; done))) | (with_reducible refine Own.alloc ?_ _) | (with_reducible refine Own.drew ?_) | (with_reducible refine Own.drewN ?_ _) | (with_reducible refine Own.keep (w := ?_) ?_ ?_; rotate_left; (with_reducible assumption); (exact (by with_reducible repeat (first | assumption | exact Ext.rfl' _ | exact Ext.new _ _ | refine Ext.alloc' ?_ _ | refine Ext.drew' ?_ | refine Ext.drewN' ?_ _ | (refine Ext.set' ?_ ?_ _; rotate_left; focus (first | omega | (simp; done) | (simp; omega))) | (refine Ext.then (b := ?_) ?_ ?_; rotate_left; rotate_left; assumption))))) | (with_reducible refine Own.keep (w := ?_) ?_ ?_; rotate_left; rotate_left; (with_reducible assumption))))
  replace hb1 : Ext w w1 := (by with_reducible repeat (first | assumption | exact Ext.rfl' _ | exact Ext.new _ _ | refine Ext.alloc' ?_ _ | refine Ext.drew' ?_ | refine Ext.drewN' ?_ _ | (refine Ext.set' ?_ ?_ _; rotate_left; focus (first | omega | (simp; done) | (simp; omega))) | (refine Ext.then (b := ?_) ?_ ?_; rotate_left; rotate_left; assumption)))
  have hq1 : Hid (IntKind.u64.wrap (↑n / ↑(n.gcd d)) = ((n / n.gcd d : Nat) : Int)) := by
    show _ = _
    rw [IntKind.wrap_u64, ← Int.natCast_ediv]
    have := Nat.div_le_self n (n.gcd d); generalize n / n.gcd d = q at *; omega
  have hq2 : Hid (IntKind.u64.wrap (↑d / ↑(n.gcd d)) = ((d / n.gcd d : Nat) : Int)) := by
    show _ = _
    rw [IntKind.wrap_u64, ← Int.natCast_ediv]
    have := Nat.div_le_self d (n.gcd d); generalize d / n.gcd d = q at *; omega
  go_wp2_with fail
  go_quiet (fail)
  rw [hq1.out, hq2.out]
  have ho : Own (w1.drewN nq) w.heap.size #[.int .i64 0, .int .i64 0] 44 := (by repeat (first | (with_reducible assumption) | (with_reducible exact Own.new _ _ _) | (with_reducible refine Own.new' _ _ _ ?_; (focus (simp; done))) | (with_reducible refine Own.alloc ?_ _) | (with_reducible refine Own.drew ?_) | (with_reducible refine Own.drewN ?_ _) | (with_reducible refine Own.keep (w := ?_) ?_ ?_; rotate_left; (with_reducible assumption); (exact (by with_reducible repeat (first | assumption | exact Ext.rfl' _ | exact Ext.new _ _ | refine Ext.alloc' ?_ _ | refine Ext.drew' ?_ | refine Ext.drewN' ?_ _ | (refine Ext.set' ?_ ?_ _; rotate_left; focus (first | omega | (simp; done) | (simp; omega))) | (refine Ext.then (b := ?_) ?_ ?_; rotate_left; rotate_left; assumption))))) | (with_reducible refine Own.keep (w := ?_) ?_ ?_; rotate_left; rotate_left; (with_reducible assumption))))
  have hb : Ext w (w1.drewN nq) := (by with_reducible repeat (first | assumption | exact Ext.rfl' _ | exact Ext.new _ _ | refine Ext.alloc' ?_ _ | refine Ext.drew' ?_ | refine Ext.drewN' ?_ _ | (refine Ext.set' ?_ ?_ _; rotate_left; focus (first | omega | (simp; done) | (simp; omega))) | (refine Ext.then (b := ?_) ?_ ?_; rotate_left; rotate_left; assumption)))
  generalize w1.drewN nq = w2 at *
  clear hb1 ho1
  have hl := ho.lt
  obtain ⟨hoc, hof⟩ := ho.facts
  have hspec : buildS neg n d = if 1099511627776 < n / Nat.gcd n d ∨ 1048576 < d / Nat.gcd n d then (⟨0, 0⟩, 5)
      else (⟨if neg then -((n / Nat.gcd n d : Nat) : Int) else (n / Nat.gcd n d : Nat), (d / Nat.gcd n d : Nat)⟩, 0) := rfl
  have hql := Nat.div_le_self n (n.gcd d)
  have hml := Nat.div_le_self d (n.gcd d)
  have HS := Lib.hid hspec
  clear hspec hq1 hq2
  generalize n / Nat.gcd n d = q at *
  generalize d / Nat.gcd n d = m at *
  generalize Nat.gcd n d = g at *
  by_cases h1 : 1099511627776 < q
  · go_wp2_with fail
    exact bodyPost_ret (v := .tuple #[.agg #[.int .i64 0, .int .i64 0], .int .i64 5]) (by simp [results, Tryz.results99, go_sem, hoc, hof, hl]) rfl ⟨by rw [HS.out, if_pos (.inl h1)]; rfl, (by with_reducible repeat (first | assumption | exact Ext.rfl' _ | exact Ext.new _ _ | refine Ext.alloc' ?_ _ | refine Ext.drew' ?_ | refine Ext.drewN' ?_ _ | (refine Ext.set' ?_ ?_ _; rotate_left; focus (first | omega | (simp; done) | (simp; omega))) | (refine Ext.then (b := ?_) ?_ ?_; rotate_left; rotate_left; assumption)))⟩
  · by_cases h2 : 1048576 < m
    · go_wp2_with fail
      exact bodyPost_ret (v := .tuple #[.agg #[.int .i64 0, .int .i64 0], .int .i64 5]) (by simp [results, Tryz.results99, go_sem, hoc, hof, hl]) rfl ⟨by rw [HS.out, if_pos (.inr h2)]; rfl, (by with_reducible repeat (first | assumption | exact Ext.rfl' _ | exact Ext.new _ _ | refine Ext.alloc' ?_ _ | refine Ext.drew' ?_ | refine Ext.drewN' ?_ _ | (refine Ext.set' ?_ ?_ _; rotate_left; focus (first | omega | (simp; done) | (simp; omega))) | (refine Ext.then (b := ?_) ?_ ?_; rotate_left; rotate_left; assumption)))⟩
    · cases neg with
      | true =>
        go_wp2_with fail
        exact bodyPost_ret (v := .tuple #[.agg #[.int .i64 (-q), .int .i64 m], .int .i64 0]) (by simp [results, Tryz.results99, go_sem, hoc, hof, hl]) rfl ⟨by rw [HS.out, if_neg (by omega)]; rfl, (by with_reducible repeat (first | assumption | exact Ext.rfl' _ | exact Ext.new _ _ | refine Ext.alloc' ?_ _ | refine Ext.drew' ?_ | refine Ext.drewN' ?_ _ | (refine Ext.set' ?_ ?_ _; rotate_left; focus (first | omega | (simp; done) | (simp; omega))) | (refine Ext.then (b := ?_) ?_ ?_; rotate_left; rotate_left; assumption)))⟩
      | false =>
        go_wp2_with fail
        exact bodyPost_ret (v := .tuple #[.agg #[.int .i64 q, .int .i64 m], .int .i64 0]) (by simp [results, Tryz.results99, go_sem, hoc, hof, hl]) rfl ⟨by rw [HS.out, if_neg (by omega)]; rfl, (by with_reducible repeat (first | assumption | exact Ext.rfl' _ | exact Ext.new _ _ | refine Ext.alloc' ?_ _ | refine Ext.drew' ?_ | refine Ext.drewN' ?_ _ | (refine Ext.set' ?_ ?_ _; rotate_left; focus (first | omega | (simp; done) | (simp; omega))) | (refine Ext.then (b := ?_) ?_ ?_; rotate_left; rotate_left; assumption)))⟩
set_option maxHeartbeats 400000 in
theorem new_c (num den : Int) (w : World) (hn : I64 num) (hd : I64 den) :
    Calls Tryz.prog 71 #[.int .i64 num, .int .i64 den] w (RetV w (ratErr (newS num den).1 (newS num den).2)) := by
  obtain ⟨hn1, hn2⟩ := hn
  obtain ⟨hd1, hd2⟩ := hd
  by_cases h0 : den = 0
  · subst h0
    go_enter Tryz.func71, Tryz.ntmps71
    go_wp2_with fail
    exact bodyPost_ret (v := .tuple #[.agg #[.int .i64 0, .int .i64 0], .int .i64 1]) (by simp [results, Tryz.results71, go_sem]) rfl ⟨rfl, (by with_reducible repeat (first | assumption | exact Ext.rfl' _ | exact Ext.new _ _ | refine Ext.alloc' ?_ _ | refine Ext.drew' ?_ | refine Ext.drewN' ?_ _ | (refine Ext.set' ?_ ?_ _; rotate_left; focus (first | omega | (simp; done) | (simp; omega))) | (refine Ext.then (b := ?_) ?_ ?_; rotate_left; rotate_left; assumption)))⟩
  · go_enter Tryz.func71, Tryz.ntmps71
    go_wp2_with fail
    refine (sizeI_c num _ ⟨hn1, hn2⟩).mono ?_
    rintro e w1 ⟨rfl, hb1⟩
    go_wp2_with fail
    refine (sizeI_c den _ ⟨hd1, hd2⟩).mono ?_
    rintro e w2 ⟨rfl, hb2⟩
    go_wp2_with fail
    refine (build_c _ num.natAbs den.natAbs _ (by omega) (by omega) (by omega)).mono ?_
    rintro e w3 ⟨rfl, hb3⟩
    have ho : Own w3 w.heap.size #[.int .i64 0, .int .i64 0] 44 := (by repeat (first | (with_reducible assumption) | (with_reducible exact Own.new _ _ _) | (with_reducible refine Own.new' _ _ _ ?_; (focus (simp; done))) | (with_reducible refine Own.alloc ?_ _) | (with_reducible refine Own.drew ?_) | (with_reducible refine Own.drewN ?_ _) | (with_reducible refine Own.keep (w := ?_) ?_ ?_; rotate_left; (with_reducible assumption); (exact (by with_reducible repeat (first | assumption | exact Ext.rfl' _ | exact Ext.new _ _ | refine Ext.alloc' ?_ _ | refine Ext.drew' ?_ | refine Ext.drewN' ?_ _ | (refine Ext.set' ?_ ?_ _; rotate_left; focus (first | omega | (simp; done) | (simp; omega))) | (refine Ext.then (b := ?_) ?_ ?_; rotate_left; rotate_left; assumption))))) | (with_reducible refine Own.keep (w := ?_) ?_ ?_; rotate_left; rotate_left; (with_reducible assumption))))
    have hb : Ext w w3 := (by with_reducible repeat (first | assumption | exact Ext.rfl' _ | exact Ext.new _ _ | refine Ext.alloc' ?_ _ | refine Ext.drew' ?_ | refine Ext.drewN' ?_ _ | (refine Ext.set' ?_ ?_ _; rotate_left; focus (first | omega | (simp; done) | (simp; omega))) | (refine Ext.then (b := ?_) ?_ ?_; rotate_left; rotate_left; assumption)))
    clear hb1 hb2 hb3
    have hs : newS num den = buildS (!(decide (num < 0) == decide (den < 0))) num.natAbs den.natAbs := by rw [newS, if_neg h0]; rfl
    rw [← hs]
    have HS := Lib.hid hs; clear hs
    have hl := ho.lt
    obtain ⟨hoc, hof⟩ := ho.facts
    unfold ratErr
    go_wp2_with fail
    exact bodyPost_ret (v := ratErr (newS num den).1 (newS num den).2) (by simp [ratErr, results, Tryz.results71, go_sem, hoc, hof, hl]) rfl ⟨rfl, (by with_reducible repeat (first | assumption | exact Ext.rfl' _ | exact Ext.new _ _ | refine Ext.alloc' ?_ _ | refine Ext.drew' ?_ | refine Ext.drewN' ?_ _ | (refine Ext.set' ?_ ?_ _; rotate_left; focus (first | omega | (simp; done) | (simp; omega))) | (refine Ext.then (b := ?_) ?_ ?_; rotate_left; rotate_left; assumption)))⟩
end Go.Proofs.YtnhcplmcddlgnaaGreat
namespace Go.Proofs.YtnhcplmcddlgnaaGreat
open Go.RowKit
set_option linter.unusedSimpArgs false
set_option linter.unusedVariables false
def RatOk (r : Rat2) : Prop := 1 ≤ r.den ∧ r.den ≤ 1048576 ∧ r.num.natAbs ≤ 1099511627776 ∧ Nat.gcd r.num.natAbs r.den.natAbs = 1
instance (r : Rat2) : Decidable (RatOk r) := by unfold RatOk; infer_instance
theorem newS_ok (r : Rat2) (h : 1 ≤ r.den) : ((newS r.num r.den).2 = 0 ∧ (newS r.num r.den).1 = r) ↔ RatOk r := by
  obtain ⟨num, den⟩ := r
  simp only at h
  have hd : den ≠ 0 := by omega
  have hdn : decide (den < 0) = false := by simp; omega
  have hgp : 0 < Nat.gcd num.natAbs den.natAbs := Nat.gcd_pos_of_pos_right _ (by omega)
  have h1 := Nat.div_mul_cancel (Nat.gcd_dvd_left num.natAbs den.natAbs)
  have h2 := Nat.div_mul_cancel (Nat.gcd_dvd_right num.natAbs den.natAbs)
  simp only [newS, if_neg hd, buildS, hdn, Bool.bne_false, RatOk]
  generalize Nat.gcd num.natAbs den.natAbs = g at *
  generalize hq : num.natAbs / g = q at *
  generalize hm : den.natAbs / g = m at *
  split
  · constructor
    · rintro ⟨h3, _⟩; simp at h3
    · rintro ⟨_, h4, h5, h6⟩
      subst h6
      simp at h1 h2
      omega
  · rename_i hlim
    constructor
    · rintro ⟨_, h3⟩
      have h4 := congrArg Rat2.den h3
      have h5 := congrArg Rat2.num h3
      simp only at h4 h5
      have h6 : m = den.natAbs := by omega
      have h7 : g = 1 := by
        rw [h6] at h2
        have : den.natAbs * g = den.natAbs * 1 := by omega
        exact Nat.eq_of_mul_eq_mul_left (by omega) this
      subst h7
      simp at h1 h2
      exact ⟨h, by omega, by omega, rfl⟩
    · rintro ⟨_, h4, h5, h6⟩
      subst h6
      simp at h1 h2
      refine ⟨rfl, ?_⟩
      by_cases hn : num < 0
      · simp only [hn, decide_true, if_true]; congr 1 <;> omega
      · have : decide (num < 0) = false := by simpa using hn
        rw [this]; simp only [Bool.false_eq_true, if_false]; congr 1 <;> omega
set_option maxHeartbeats 400000 in
theorem ratValid_c (r : Rat2) (w : World) (hn : I64 r.num) (hd : I64 r.den) :
    Calls Tryz.prog 51 #[.agg #[.int .i64 r.num, .int .i64 r.den]] w (RetV w (.int .i64 (ErrIf (RatOk r) 1))) := by
  by_cases hlt : r.den < 1
  · have hs : ¬ RatOk r := by unfold RatOk; omega
    have hs := Lib.hid hs
    go_enter Tryz.func51, Tryz.ntmps51
    go_wp2_with fail
    go_ret
    exact ⟨ret_ek hs.out, (by with_reducible repeat (first | assumption | exact Ext.rfl' _ | exact Ext.new _ _ | refine Ext.alloc' ?_ _ | refine Ext.drew' ?_ | refine Ext.drewN' ?_ _ | (refine Ext.set' ?_ ?_ _; rotate_left; focus (first | omega | (simp; done) | (simp; omega))) | (refine Ext.then (b := ?_) ?_ ?_; rotate_left; rotate_left; assumption)))⟩
  · have hs := Lib.hid (newS_ok r (by omega))
    go_enter Tryz.func51, Tryz.ntmps51
    go_wp2_with fail
    refine (new_c r.num r.den _ hn hd).mono ?_
    rintro e w1 ⟨rfl, hb1⟩
    have ho : Own w1 w.heap.size #[.int .i64 r.num, .int .i64 r.den] 44 := (by repeat (first | (with_reducible assumption) | (with_reducible exact Own.new _ _ _) | (with_reducible refine Own.new' _ _ _ ?_; (focus (simp; done))) | (with_reducible refine Own.alloc ?_ _) | (with_reducible refine Own.drew ?_) | (with_reducible refine Own.drewN ?_ _) | (with_reducible refine Own.keep (w := ?_) ?_ ?_; rotate_left; (with_reducible assumption); (exact (by with_reducible repeat (first | assumption | exact Ext.rfl' _ | exact Ext.new _ _ | refine Ext.alloc' ?_ _ | refine Ext.drew' ?_ | refine Ext.drewN' ?_ _ | (refine Ext.set' ?_ ?_ _; rotate_left; focus (first | omega | (simp; done) | (simp; omega))) | (refine Ext.then (b := ?_) ?_ ?_; rotate_left; rotate_left; assumption))))) | (with_reducible refine Own.keep (w := ?_) ?_ ?_; rotate_left; rotate_left; (with_reducible assumption))))
    replace hb1 : Ext w w1 := (by with_reducible repeat (first | assumption | exact Ext.rfl' _ | exact Ext.new _ _ | refine Ext.alloc' ?_ _ | refine Ext.drew' ?_ | refine Ext.drewN' ?_ _ | (refine Ext.set' ?_ ?_ _; rotate_left; focus (first | omega | (simp; done) | (simp; omega))) | (refine Ext.then (b := ?_) ?_ ?_; rotate_left; rotate_left; assumption)))
    have hl := ho.lt
    obtain ⟨hoc, hof⟩ := ho.facts
    unfold ratErr
    by_cases he : (newS r.num r.den).2 = 0
    · by_cases hr : (newS r.num r.den).1 = r
      · have h1 : (newS r.num r.den).1.num = r.num := by rw [hr]
        have h2 : (newS r.num r.den).1.den = r.den := by rw [hr]
        rw [h1, h2, he]
        have hok := Lib.hid (hs.out.1 ⟨he, hr⟩)
        clear hr h1 h2 he hs
        go_wp2_with fail
        go_ret
        exact ⟨ret_e0 hok.out, (by with_reducible repeat (first | assumption | exact Ext.rfl' _ | exact Ext.new _ _ | refine Ext.alloc' ?_ _ | refine Ext.drew' ?_ | refine Ext.drewN' ?_ _ | (refine Ext.set' ?_ ?_ _; rotate_left; focus (first | omega | (simp; done) | (simp; omega))) | (refine Ext.then (b := ?_) ?_ ?_; rotate_left; rotate_left; assumption)))⟩
      · have hok : Hid (¬ RatOk r) := fun h => hr (hs.out.2 h).2
        have hne : (((newS r.num r.den).1.num == r.num) && ((newS r.num r.den).1.den == r.den)) = false := by
          rw [Bool.eq_false_iff]; intro h
          simp at h
          apply hr
          cases hx : (newS r.num r.den).1; cases r; simp_all
        rw [he]
        clear hr he hs
        generalize (newS r.num r.den).1.num = x at *
        generalize (newS r.num r.den).1.den = y at *
        go_wp2_with fail
        all_goals first | (exfalso; simp_all; done) | (go_ret; exact ⟨ret_ek hok.out, (by with_reducible repeat (first | assumption | exact Ext.rfl' _ | exact Ext.new _ _ | refine Ext.alloc' ?_ _ | refine Ext.drew' ?_ | refine Ext.drewN' ?_ _ | (refine Ext.set' ?_ ?_ _; rotate_left; focus (first | omega | (simp; done) | (simp; omega))) | (refine Ext.then (b := ?_) ?_ ?_; rotate_left; rotate_left; assumption)))⟩)
    · have hok : Hid (¬ RatOk r) := fun h => he (hs.out.2 h).1
      have he' : ((newS r.num r.den).2 == 0) = false := by simpa using he
      clear he hs
      generalize (newS r.num r.den).2 = z at *
      go_wp2_with fail
      all_goals first | (exfalso; simp_all; done) | (go_ret; exact ⟨ret_ek hok.out, (by with_reducible repeat (first | assumption | exact Ext.rfl' _ | exact Ext.new _ _ | refine Ext.alloc' ?_ _ | refine Ext.drew' ?_ | refine Ext.drewN' ?_ _ | (refine Ext.set' ?_ ?_ _; rotate_left; focus (first | omega | (simp; done) | (simp; omega))) | (refine Ext.then (b := ?_) ?_ ?_; rotate_left; rotate_left; assumption)))⟩)
set_option maxHeartbeats 400000 in
theorem divisor_c (a b : Nat) (w : World) (ha : a ≤ 9223372036854775807) (hb : b ≤ 9223372036854775807) :
    Calls Tryz.prog 98 #[.int .i64 a, .int .i64 b] w (RetV w (.int .i64 (Nat.gcd a b))) := by
  go_enter Tryz.func98, Tryz.ntmps98
  go_wp2
  go_loopw [0, 1] (fun u v wr => ∃ x y : Nat, x ≤ 9223372036854775807 ∧ y ≤ 9223372036854775807 ∧ u = .int .i64 x ∧ v = .int .i64 y ∧ Hid (Nat.gcd x y = Nat.gcd a b) ∧ Ext w wr) (fun _ v _ => (intOf v).toNat)
  case atStart => exact ⟨a, b, ha, hb, rfl, rfl, Lib.hid rfl, (by with_reducible repeat (first | assumption | exact Ext.rfl' _ | exact Ext.new _ _ | refine Ext.alloc' ?_ _ | refine Ext.drew' ?_ | refine Ext.drewN' ?_ _ | (refine Ext.set' ?_ ?_ _; rotate_left; focus (first | omega | (simp; done) | (simp; omega))) | (refine Ext.then (b := ?_) ?_ ?_; rotate_left; rotate_left; assumption)))⟩
  case round =>
    obtain ⟨x, y, hx, hy, rfl, rfl, hg, he⟩ := hrel
    by_cases hlt : 0 < y
    · go_wp2_with fail
      refine ⟨⟨y, x % y, hy, ?_, rfl, val_int (by simp), Lib.hid ?_, (by with_reducible repeat (first | assumption | exact Ext.rfl' _ | exact Ext.new _ _ | refine Ext.alloc' ?_ _ | refine Ext.drew' ?_ | refine Ext.drewN' ?_ _ | (refine Ext.set' ?_ ?_ _; rotate_left; focus (first | omega | (simp; done) | (simp; omega))) | (refine Ext.then (b := ?_) ?_ ?_; rotate_left; rotate_left; assumption)))⟩, ?_⟩
      · have := Nat.mod_lt x hlt; omega
      · rw [← hg.out]; rw [Nat.gcd_comm x y, Nat.gcd_rec y x, Nat.gcd_comm]
      · have := Nat.mod_lt x hlt; simp only [intOf]; rw [← Int.natCast_emod]; omega
    · go_wp2_with fail
      go_ret
      exact ⟨ret_int (by have := hg.out; obtain rfl : y = 0 := by omega
                         simp at this; rw [this]), (by with_reducible repeat (first | assumption | exact Ext.rfl' _ | exact Ext.new _ _ | refine Ext.alloc' ?_ _ | refine Ext.drew' ?_ | refine Ext.drewN' ?_ _ | (refine Ext.set' ?_ ?_ _; rotate_left; focus (first | omega | (simp; done) | (simp; omega))) | (refine Ext.then (b := ?_) ?_ ?_; rotate_left; rotate_left; assumption)))⟩
theorem divisor_i (a b : Int) (w : World) (ha : 0 ≤ a) (hb : 0 ≤ b) (ha' : a ≤ 9223372036854775807) (hb' : b ≤ 9223372036854775807) :
    Calls Tryz.prog 98 #[.int .i64 a, .int .i64 b] w (RetV w (.int .i64 (Nat.gcd a.natAbs b.natAbs))) := by
  obtain ⟨x, rfl⟩ := Int.eq_ofNat_of_zero_le ha
  obtain ⟨y, rfl⟩ := Int.eq_ofNat_of_zero_le hb
  exact divisor_c x y w (by omega) (by omega)
def GoodP (r : Rat2) : Prop := RatOk r ∧ r.den ≤ 65536
instance (r : Rat2) : Decidable (GoodP r) := by unfold GoodP; infer_instance
set_option maxHeartbeats 400000 in
theorem good6_c (r : Rat2) (w : World) (hn : I64 r.num) (hd : I64 r.den) :
    Calls Tryz.prog 70 #[.agg #[.int .i64 r.num, .int .i64 r.den]] w (RetV w (.bool (B (GoodP r)))) := by
  obtain ⟨hn1, hn2⟩ := hn
  obtain ⟨hd1, hd2⟩ := hd
  by_cases hbad : r.den < 1 ∨ 65536 < r.den ∨ r.num < -1099511627776 ∨ 1099511627776 < r.num
  · have hs : Hid (¬ GoodP r) := by show ¬ _; unfold GoodP RatOk; omega
    go_enter Tryz.func70, Tryz.ntmps70
    go_wp2_with fail
    all_goals first
      | (exfalso; omega)
      | (go_ret; exact ⟨ret_f hs.out, (by with_reducible repeat (first | assumption | exact Ext.rfl' _ | exact Ext.new _ _ | refine Ext.alloc' ?_ _ | refine Ext.drew' ?_ | refine Ext.drewN' ?_ _ | (refine Ext.set' ?_ ?_ _; rotate_left; focus (first | omega | (simp; done) | (simp; omega))) | (refine Ext.then (b := ?_) ?_ ?_; rotate_left; rotate_left; assumption)))⟩)
  · go_enter Tryz.func70, Tryz.ntmps70
    go_wp2_with fail
    all_goals
      refine (divisor_i _ _ _ (by omega) (by omega) (by omega) (by omega)).mono ?_
      rintro e w1 ⟨rfl, hb1⟩
      have hs : Hid (Nat.gcd r.num.natAbs r.den.natAbs = 1 ↔ GoodP r) := by
        show _ ↔ _; unfold GoodP RatOk; constructor
        · intro h; exact ⟨⟨by omega, by omega, by omega, h⟩, by omega⟩
        · rintro ⟨⟨_, _, _, h⟩, _⟩; exact h
      try rw [Int.natAbs_neg]
      generalize Nat.gcd r.num.natAbs r.den.natAbs = g at *
      go_wp2_with fail
      go_ret
      refine ⟨ret_B ?_, (by with_reducible repeat (first | assumption | exact Ext.rfl' _ | exact Ext.new _ _ | refine Ext.alloc' ?_ _ | refine Ext.drew' ?_ | refine Ext.drewN' ?_ _ | (refine Ext.set' ?_ ?_ _; rotate_left; focus (first | omega | (simp; done) | (simp; omega))) | (refine Ext.then (b := ?_) ?_ ?_; rotate_left; rotate_left; assumption)))⟩
      simp only [beq_iff_eq, ← hs.out]; omega
end Go.Proofs.YtnhcplmcddlgnaaGreat
namespace Go.Proofs.YtnhcplmcddlgnaaGreat
set_option linter.unusedSimpArgs false
set_option linter.unusedVariables false
/-- sums over lists -/
def sumN {α : Type} (f : α → Nat) : List α → Nat
  | [] => 0
  | x :: xs => f x + sumN f xs
theorem sumN_take {α : Type} (f : α → Nat) (l : List α) (k : Nat) (h : k < l.length) : sumN f (l.take (k+1)) = sumN f (l.take k) + f l[k] := by
  induction l generalizing k with
  | nil => simp at h
  | cons x xs ih =>
    cases k with
    | zero => simp [sumN]
    | succ k => simp [sumN, ih k (by simpa using h)]; omega
theorem sumN_take_le {α : Type} (f : α → Nat) (l : List α) (k : Nat) : sumN f (l.take k) ≤ sumN f l := by
  induction l generalizing k with
  | nil => simp
  | cons x xs ih => cases k with
    | zero => simp [sumN]
    | succ k => simp [sumN]; exact ih k
theorem sumN_mem {α : Type} (f : α → Nat) {l : List α} {x : α} (h : x ∈ l) : f x ≤ sumN f l := by
  induction l with
  | nil => cases h
  | cons y ys ih =>
    rcases List.mem_cons.1 h with rfl | h
    · simp [sumN]
    · have := ih h; simp only [sumN]; omega
def maxN {α : Type} (f : α → Nat) : List α → Nat
  | [] => 0
  | x :: xs => max (f x) (maxN f xs)
theorem maxN_take {α : Type} (f : α → Nat) (l : List α) (k : Nat) (h : k < l.length) : maxN f (l.take (k+1)) = max (maxN f (l.take k)) (f l[k]) := by
  induction l generalizing k with
  | nil => simp at h
  | cons x xs ih =>
    cases k with
    | zero => simp [maxN]
    | succ k => have := ih k (by simpa using h); simp only [List.take_succ_cons, maxN, List.getElem_cons_succ, this]; omega
theorem maxN_take_le {α : Type} (f : α → Nat) (l : List α) (k : Nat) : maxN f (l.take k) ≤ maxN f l := by
  induction l generalizing k with
  | nil => simp
  | cons x xs ih => cases k with
    | zero => simp [maxN]
    | succ k => have := ih k; simp [maxN]; omega
theorem maxN_mem {α : Type} (f : α → Nat) {l : List α} {x : α} (h : x ∈ l) : f x ≤ maxN f l := by
  induction l with
  | nil => cases h
  | cons y ys ih =>
    rcases List.mem_cons.1 h with rfl | h
    · simp only [maxN]; omega
    · have := ih h; simp only [maxN]; omega
theorem maxN_le {α : Type} {f : α → Nat} {l : List α} {n : Nat} (h : ∀ x ∈ l, f x ≤ n) : maxN f l ≤ n := by
  induction l with
  | nil => simp [maxN]
  | cons x xs ih =>
    have := ih fun y hy => h y (by simp [hy])
    have := h x (by simp)
    simp only [maxN]; omega
theorem maxN_le_sumN {α : Type} (f g : α → Nat) (l : List α) (h : ∀ x ∈ l, f x ≤ g x) : maxN f l ≤ sumN g l := by
  induction l with
  | nil => simp [maxN]
  | cons x xs ih =>
    have := ih fun y hy => h y (by simp [hy])
    have := h x (by simp)
    simp only [maxN, sumN]; omega
theorem sumN_le {α : Type} (f g : α → Nat) (l : List α) (h : ∀ x ∈ l, f x ≤ g x) : sumN f l ≤ sumN g l := by
  induction l with
  | nil => simp [sumN]
  | cons x xs ih =>
    have := ih fun y hy => h y (by simp [hy])
    have := h x (by simp)
    simp only [sumN]; omega
theorem length_le_sumN {α : Type} (f : α → Nat) (l : List α) (h : ∀ x ∈ l, 1 ≤ f x) : l.length ≤ sumN f l := by
  induction l with
  | nil => simp
  | cons x xs ih =>
    have := ih fun y hy => h y (by simp [hy])
    have := h x (by simp)
    simp only [sumN, List.length_cons]; omega
end Go.Proofs.YtnhcplmcddlgnaaGreat
namespace Go.Proofs.YtnhcplmcddlgnaaGreat
open Go.RowKit
set_option linter.unusedSimpArgs false
set_option linter.unusedVariables false
structure Val where
  attr : Int
  n : Rat2
  deriving DecidableEq
inductive Thing where
  | mk (cls : List Int) (vals : List Val) (parts : List Thing)
def Thing.cls : Thing → List Int | .mk c _ _ => c
def Thing.vals : Thing → List Val | .mk _ v _ => v
def Thing.parts : Thing → List Thing | .mk _ _ p => p
theorem Thing.ind {P : Thing → Prop} (h : ∀ t, (∀ p ∈ t.parts, P p) → P t) (t : Thing) : P t := by
  induction t using Thing.rec (motive_2 := fun xs => ∀ x ∈ xs, P x) with
  | mk cls vals parts ih => exact h _ ih
  | nil => intros; contradiction
  | cons x xs h1 h2 =>
    rename_i y hy
    rcases List.mem_cons.1 hy with rfl | hy
    · exact h1
    · exact h2 y hy
def ValR (_ : PH) (cs : List Value) (v : Val) : Prop := cs = [.int .i64 v.attr, .int .i64 v.n.num, .int .i64 v.n.den] ∧ I64 v.attr ∧ I64 v.n.num ∧ I64 v.n.den
abbrev ValsR : PH → Value → List Val → Prop := SliceRep ValR 3
theorem mono_ValR : Mono ValR := fun _ _ _ _ _ h => h
mutual
def ThingR (h : PH) : List Value → Thing → Prop
  | cs, .mk cls vals parts => ∃ v1 v2 a3 c3, cs = [v1, v2, .slice a3 parts.length c3] ∧ IntsR h v1 cls ∧ ValsR h v2 vals ∧
      parts.length ≤ c3 ∧ c3 ≤ maxLen ∧ (parts = [] ∨ ∃ b o, a3 = some ⟨b, o, none⟩ ∧ ThingsAt h b o parts)
def ThingsAt (h : PH) (b : Nat) : Nat → List Thing → Prop
  | _, [] => True
  | o, x :: xs => (∃ cs, cs.length = 3 ∧ (∀ j, j < 3 → cellAt h b (o + j) = some (cs.getD j undef)) ∧ ThingR h cs x) ∧ ThingsAt h b (o + 3) xs
end
abbrev ThingsR : PH → Value → List Thing → Prop := SliceRep ThingR 3
theorem thingsAt_eq {h : PH} {b : Nat} : ∀ {xs : List Thing} {o : Nat}, ThingsAt h b o xs ↔ RowRep h ThingR 3 b o xs
  | [], o => by simp [ThingsAt, RowRep]
  | x :: xs, o => by simp [ThingsAt, RowRep, thingsAt_eq]
theorem thingR_iff {h : PH} {cs : List Value} {t : Thing} : ThingR h cs t ↔ ∃ v1 v2 v3, cs = [v1, v2, v3] ∧ IntsR h v1 t.cls ∧ ValsR h v2 t.vals ∧ ThingsR h v3 t.parts := by
  cases t with
  | mk cls vals parts =>
    simp only [ThingR, thingsAt_eq, Thing.cls, Thing.vals, Thing.parts]
    constructor
    · rintro ⟨v1, v2, a3, c3, rfl, h1, h2, h3, h4, h5⟩
      exact ⟨v1, v2, _, rfl, h1, h2, a3, c3, rfl, h3, h4, h5⟩
    · rintro ⟨v1, v2, v3, rfl, h1, h2, a3, c3, rfl, h3, h4, h5⟩
      exact ⟨v1, v2, a3, c3, rfl, h1, h2, h3, h4, h5⟩
theorem mono_ThingR : Mono ThingR := by
  intro h h' cs x hl
  induction x using Thing.ind generalizing cs with
  | h t ih =>
    rw [thingR_iff, thingR_iff]
    rintro ⟨v1, v2, v3, h1, h2, h3, h4⟩
    exact ⟨v1, v2, v3, h1, h2.mono mono_IntR hl, h3.mono mono_ValR hl, h4.mono' hl fun cs x hx => ih x hx cs⟩
/-- a thing, its cells as three slices -/
theorem ThingR.form {h : PH} {cs : List Value} {t : Thing} (hr : ThingR h cs t) : ∃ a1 c1 a2 c2 a3 c3, cs = [.slice a1 t.cls.length c1, .slice a2 t.vals.length c2, .slice a3 t.parts.length c3] ∧
    t.cls.length ≤ 9223372036854775807 ∧ t.vals.length ≤ 9223372036854775807 ∧ t.parts.length ≤ 9223372036854775807 ∧
    IntsR h (.slice a1 t.cls.length c1) t.cls ∧ ValsR h (.slice a2 t.vals.length c2) t.vals ∧ ThingsR h (.slice a3 t.parts.length c3) t.parts := by
  rw [thingR_iff] at hr
  obtain ⟨v1, v2, v3, rfl, h1, h2, h3⟩ := hr
  obtain ⟨a1, c1, rfl, b1, h1⟩ := h1.form
  obtain ⟨a2, c2, rfl, b2, h2⟩ := h2.form
  obtain ⟨a3, c3, rfl, b3, h3⟩ := h3.form
  exact ⟨a1, c1, a2, c2, a3, c3, rfl, b1, b2, b3, h1, h2, h3⟩
theorem ThingsR.at {w : World} {a : Option Addr} {n cap : Nat} {xs : List Thing} (hr : ThingsR (ph w) (.slice a n cap) xs) (k : Nat) (hk : k < xs.length) :
    ∃ b o a1 c1 a2 c2 a3 c3, a = some ⟨b, o, none⟩ ∧ w.cell? ⟨b, o + k * 3, none⟩ = some (.slice a1 xs[k].cls.length c1) ∧ w.cell? ⟨b, o + k * 3 + 1, none⟩ = some (.slice a2 xs[k].vals.length c2) ∧
      w.cell? ⟨b, o + k * 3 + 2, none⟩ = some (.slice a3 xs[k].parts.length c3) ∧ ThingR (ph w) [.slice a1 xs[k].cls.length c1, .slice a2 xs[k].vals.length c2, .slice a3 xs[k].parts.length c3] xs[k] ∧ b < w.heap.size := by
  obtain ⟨b, o, c, d, e, h1, h2, h3, h4, h5⟩ := SliceRep.get3 hr k hk
  obtain ⟨a1, c1, a2, c2, a3, c3, h6, -⟩ := h5.form
  injection h6 with h7 h8
  injection h8 with h8 h9
  injection h9 with h9 _
  subst h7 h8 h9
  exact ⟨b, o, a1, c1, a2, c2, a3, c3, h1, h2, h3, h4, h5, cell_lt h2⟩
theorem ValsR.at {w : World} {a : Option Addr} {n cap : Nat} {xs : List Val} (hr : ValsR (ph w) (.slice a n cap) xs) (k : Nat) (hk : k < xs.length) :
    ∃ b o, a = some ⟨b, o, none⟩ ∧ w.cell? ⟨b, o + k * 3, none⟩ = some (.int .i64 xs[k].attr) ∧ w.cell? ⟨b, o + k * 3 + 1, none⟩ = some (.int .i64 xs[k].n.num) ∧
      w.cell? ⟨b, o + k * 3 + 2, none⟩ = some (.int .i64 xs[k].n.den) ∧ I64 xs[k].attr ∧ I64 xs[k].n.num ∧ I64 xs[k].n.den ∧ b < w.heap.size := by
  obtain ⟨b, o, c, d, e, h1, h2, h3, h4, h5, h6⟩ := SliceRep.get3 hr k hk
  injection h5 with h7 h8
  injection h8 with h8 h9
  injection h9 with h9 _
  subst h7 h8 h9
  exact ⟨b, o, h1, h2, h3, h4, h6.1, h6.2.1, h6.2.2, cell_lt h2⟩
mutual
def Thing.size : Thing → Nat
  | .mk _ _ parts => 1 + sizes parts
def sizes : List Thing → Nat
  | [] => 0
  | x :: xs => x.size + sizes xs
end
theorem sizes_eq : ∀ l : List Thing, sizes l = sumN Thing.size l
  | [] => rfl
  | x :: xs => by simp [sizes, sumN, sizes_eq xs]
theorem Thing.size_eq (t : Thing) : t.size = 1 + sumN Thing.size t.parts := by
  cases t with
  | mk c v p => simp [Thing.size, Thing.parts, sizes_eq]
mutual
def Thing.deep : Thing → Nat
  | .mk _ _ parts => 1 + deeps parts
def deeps : List Thing → Nat
  | [] => 0
  | x :: xs => max x.deep (deeps xs)
end
theorem deeps_eq : ∀ l : List Thing, deeps l = maxN Thing.deep l
  | [] => rfl
  | x :: xs => by simp [deeps, maxN, deeps_eq xs]
theorem Thing.deep_eq (t : Thing) : t.deep = 1 + maxN Thing.deep t.parts := by
  cases t with
  | mk c v p => simp [Thing.deep, Thing.parts, deeps_eq]
theorem Thing.deep_le_size (t : Thing) : t.deep ≤ t.size := by
  induction t using Thing.ind with
  | h t ih => rw [Thing.deep_eq, Thing.size_eq]; have := maxN_le_sumN Thing.deep Thing.size t.parts ih; omega
mutual
def Thing.bulk : Thing → Nat
  | .mk c v parts => 1 + c.length + v.length + bulks parts
def bulks : List Thing → Nat
  | [] => 0
  | x :: xs => x.bulk + bulks xs
end
theorem bulks_eq : ∀ l : List Thing, bulks l = sumN Thing.bulk l
  | [] => rfl
  | x :: xs => by simp [bulks, sumN, bulks_eq xs]
theorem Thing.bulk_eq (t : Thing) : t.bulk = 1 + t.cls.length + t.vals.length + sumN Thing.bulk t.parts := by
  cases t with
  | mk c v p => simp [Thing.bulk, Thing.parts, Thing.cls, Thing.vals, bulks_eq]
theorem Thing.bulk_pos (t : Thing) : 1 ≤ t.bulk := by rw [Thing.bulk_eq]; omega
theorem Thing.size_le_bulk (t : Thing) : t.size ≤ t.bulk := by
  induction t using Thing.ind with
  | h t ih => rw [Thing.bulk_eq, Thing.size_eq]; have := sumN_le Thing.size Thing.bulk t.parts ih; omega
theorem Thing.parts_le (t : Thing) : t.parts.length ≤ t.bulk := by
  have := length_le_sumN Thing.bulk t.parts fun x _ => x.bulk_pos
  rw [Thing.bulk_eq]; omega
theorem Thing.part_le {t p : Thing} (h : p ∈ t.parts) : p.bulk ≤ t.bulk := by
  have := sumN_mem Thing.bulk h
  rw [Thing.bulk_eq t]; omega
end Go.Proofs.YtnhcplmcddlgnaaGreat
namespace Go.Proofs.YtnhcplmcddlgnaaGreat
open Go.RowKit
set_option linter.unusedSimpArgs false
set_option linter.unusedVariables false
set_option maxHeartbeats 400000 in
theorem indexFunc_thing (p : Thing → Bool) (fid : Nat) (cap : Array Value) (vs : Value) (xs : List Thing) (w : World) (hr : ThingsR (ph w) vs xs)
    (hfn : ∀ args w, (callFunc fid args).run Tryz.prog w = .ok (.enter fid args) w)
    (hf : ∀ w', Ext w w' → ∀ x ∈ xs, ∀ cs, ThingR (ph w') cs x → Calls Tryz.prog fid (#[.agg cs.toArray] ++ cap) w' (RetV w' (.bool (p x)))) :
    Calls Tryz.prog 29 #[vs, .func (.func fid) #[] cap] w (RetV w (.int .i64 (idxOf p xs))) := by
  obtain ⟨a, c, rfl, hlen, hr⟩ := hr.form
  have HF := Lib.hid hf; clear hf
  go_enter Tryz.func29, Tryz.ntmps29
  go_wp2
  go_loopw [8] (fun i wr => ∃ k : Nat, k ≤ xs.length ∧ i = .int .i64 k ∧ Hid (∀ x ∈ xs.take k, p x = false) ∧ Ext w wr) (fun i _ => xs.length - (intOf i).toNat)
  case atStart => exact ⟨0, Nat.zero_le _, rfl, Lib.hid (by simp), (by with_reducible repeat (first | assumption | exact Ext.rfl' _ | exact Ext.new _ _ | refine Ext.alloc' ?_ _ | refine Ext.drew' ?_ | refine Ext.drewN' ?_ _ | (refine Ext.set' ?_ ?_ _; rotate_left; focus (first | omega | (simp; done) | (simp; omega))) | (refine Ext.then (b := ?_) ?_ ?_; rotate_left; rotate_left; assumption)))⟩
  case round =>
    obtain ⟨k, hk, rfl, HNO, hb⟩ := hrel
    by_cases hlt : k < xs.length
    · have hp' := hr.mono mono_ThingR hb.ple
      obtain ⟨b, o, b1, d1, b2, d2, b3, d3, rfl, h0, h1, h2, hE, hbl⟩ := ThingsR.at hp' k hlt
      clear hp'
      go_wp2_with fail
      refine (HF.out _ (by with_reducible repeat (first | assumption | exact Ext.rfl' _ | exact Ext.new _ _ | refine Ext.alloc' ?_ _ | refine Ext.drew' ?_ | refine Ext.drewN' ?_ _ | (refine Ext.set' ?_ ?_ _; rotate_left; focus (first | omega | (simp; done) | (simp; omega))) | (refine Ext.then (b := ?_) ?_ ?_; rotate_left; rotate_left; assumption))) _ (List.getElem_mem hlt) _ hE).mono ?_
      rintro e w1 ⟨rfl, hb1⟩
      cases hpk : p xs[k] with
      | true =>
        go_wp2_with fail
        go_ret
        exact ⟨ret_int (idxOf_found p xs k hlt hpk HNO.out).symm, (by with_reducible repeat (first | assumption | exact Ext.rfl' _ | exact Ext.new _ _ | refine Ext.alloc' ?_ _ | refine Ext.drew' ?_ | refine Ext.drewN' ?_ _ | (refine Ext.set' ?_ ?_ _; rotate_left; focus (first | omega | (simp; done) | (simp; omega))) | (refine Ext.then (b := ?_) ?_ ?_; rotate_left; rotate_left; assumption)))⟩
      | false =>
        go_wp2_with fail
        go_roundw
        case rel => exact ⟨k + 1, by omega, by go_num, take_all hlt hpk HNO.out, (by with_reducible repeat (first | assumption | exact Ext.rfl' _ | exact Ext.new _ _ | refine Ext.alloc' ?_ _ | refine Ext.drew' ?_ | refine Ext.drewN' ?_ _ | (refine Ext.set' ?_ ?_ _; rotate_left; focus (first | omega | (simp; done) | (simp; omega))) | (refine Ext.then (b := ?_) ?_ ?_; rotate_left; rotate_left; assumption)))⟩
        case measure => simp [intOf]; omega
    · clear hr HF
      go_wp2_with fail
      go_ret
      exact ⟨ret_int (idxOf_none p xs (take_done (by omega) HNO.out)).symm, (by with_reducible repeat (first | assumption | exact Ext.rfl' _ | exact Ext.new _ _ | refine Ext.alloc' ?_ _ | refine Ext.drew' ?_ | refine Ext.drewN' ?_ _ | (refine Ext.set' ?_ ?_ _; rotate_left; focus (first | omega | (simp; done) | (simp; omega))) | (refine Ext.then (b := ?_) ?_ ?_; rotate_left; rotate_left; assumption)))⟩
theorem containsFunc_thing (p : Thing → Bool) (fid : Nat) (cap : Array Value) (vs : Value) (xs : List Thing) (w : World) (hr : ThingsR (ph w) vs xs)
    (hfn : ∀ args w, (callFunc fid args).run Tryz.prog w = .ok (.enter fid args) w)
    (hf : ∀ w', Ext w w' → ∀ x ∈ xs, ∀ cs, ThingR (ph w') cs x → Calls Tryz.prog fid (#[.agg cs.toArray] ++ cap) w' (RetV w' (.bool (p x)))) :
    Calls Tryz.prog 54 #[vs, .func (.func fid) #[] cap] w (RetV w (.bool (xs.any p))) := by
  have HF := Lib.hid hf; clear hf
  have HFN := Lib.hid hfn; clear hfn
  go_enter Tryz.func54, Tryz.ntmps54
  go_wp2_with fail
  refine (indexFunc_thing p fid cap vs xs _ hr HFN.out HF.out).mono ?_
  rintro e w1 ⟨rfl, hb1⟩
  have hx := Lib.hid (idxOf_ge p xs)
  generalize idxOf p xs = i at *
  go_wp2_with fail
  go_ret
  exact ⟨ret_bool hx.out, (by with_reducible repeat (first | assumption | exact Ext.rfl' _ | exact Ext.new _ _ | refine Ext.alloc' ?_ _ | refine Ext.drew' ?_ | refine Ext.drewN' ?_ _ | (refine Ext.set' ?_ ?_ _; rotate_left; focus (first | omega | (simp; done) | (simp; omega))) | (refine Ext.then (b := ?_) ?_ ?_; rotate_left; rotate_left; assumption)))⟩
end Go.Proofs.YtnhcplmcddlgnaaGreat
namespace Go.Proofs.YtnhcplmcddlgnaaGreat
open Go.RowKit
set_option linter.unusedSimpArgs false
set_option linter.unusedVariables false
/-- the cells, one after the other, of a list of elements -/
def Cells {α : Type} (h : PH) (E : PH → List Value → α → Prop) (sz : Nat) : List Value → List α → Prop
  | cells, [] => cells = []
  | cells, x :: xs => ∃ cs rest, cells = cs ++ rest ∧ cs.length = sz ∧ E h cs x ∧ Cells h E sz rest xs
section
variable {α : Type} {E : PH → List Value → α → Prop} {sz : Nat} {h h' : PH}
theorem Cells.length : ∀ {xs : List α} {cells : List Value}, Cells h E sz cells xs → cells.length = xs.length * sz
  | [], cells, hc => by obtain rfl : cells = [] := hc; simp
  | x :: xs, cells, hc => by
    obtain ⟨cs, rest, rfl, h1, -, h3⟩ := hc
    rw [List.length_append, h1, Cells.length h3, List.length_cons, Nat.add_mul]; omega
theorem Cells.append : ∀ {xs ys : List α} {c d : List Value}, Cells h E sz c xs → Cells h E sz d ys → Cells h E sz (c ++ d) (xs ++ ys)
  | [], ys, c, d, hc, hd => by obtain rfl : c = [] := hc; simpa using hd
  | x :: xs, ys, c, d, hc, hd => by
    obtain ⟨cs, rest, rfl, h1, h2, h3⟩ := hc
    exact ⟨cs, rest ++ d, by simp, h1, h2, h3.append hd⟩
theorem Cells.mono (hm : ∀ cs x, E h cs x → E h' cs x) : ∀ {xs : List α} {c : List Value}, Cells h E sz c xs → Cells h' E sz c xs
  | [], c, hc => hc
  | x :: xs, c, hc => by
    obtain ⟨cs, rest, rfl, h1, h2, h3⟩ := hc
    exact ⟨cs, rest, rfl, h1, hm _ _ h2, h3.mono hm⟩
theorem Cells.one (ho : ∀ cs x, E h cs x → ∀ u ∈ cs, u.oneCell' = true) : ∀ {xs : List α} {c : List Value}, Cells h E sz c xs → ∀ u ∈ c, u.oneCell' = true
  | [], c, hc => by obtain rfl : c = [] := hc; simp
  | x :: xs, c, hc => by
    obtain ⟨cs, rest, rfl, h1, h2, h3⟩ := hc
    intro u hu
    rcases List.mem_append.1 hu with hu | hu
    · exact ho _ _ h2 u hu
    · exact h3.one ho u hu
theorem Cells.row {b : Nat} (hm : ∀ cs x, E h cs x → E h' cs x) : ∀ {xs : List α} {c : List Value} {o : Nat}, Cells h E sz c xs → (∀ j u, c[j]? = some u → cellAt h' b (o + j) = some u) → RowRep h' E sz b o xs
  | [], c, o, hc, hr => trivial
  | x :: xs, c, o, hc, hr => by
    obtain ⟨cs, rest, rfl, h1, h2, h3⟩ := hc
    refine ⟨⟨cs, h1, fun j hj => ?_, hm _ _ h2⟩, h3.row hm fun j u hu => ?_⟩
    · have : cs[j]? = some (cs.getD j undef) := by simp [List.getD_eq_getElem?_getD, List.getElem?_eq_getElem (h1 ▸ hj)]
      exact hr j _ (by rw [List.getElem?_append_left (h1 ▸ hj)]; exact this)
    · rw [Nat.add_assoc]; exact hr (sz + j) u (by rw [List.getElem?_append_right (by omega), h1]; simpa using hu)
theorem Cells.ofRow {b : Nat} : ∀ {xs : List α} {o : Nat}, RowRep h E sz b o xs → ∃ c, Cells h E sz c xs ∧ ∀ j u, c[j]? = some u → cellAt h b (o + j) = some u
  | [], o, hr => ⟨[], rfl, by simp⟩
  | x :: xs, o, hr => by
    obtain ⟨⟨cs, h1, h2, h3⟩, h4⟩ := hr
    obtain ⟨rest, h5, h6⟩ := Cells.ofRow h4
    refine ⟨cs ++ rest, ⟨cs, rest, rfl, h1, h3, h5⟩, fun j u hu => ?_⟩
    by_cases hj : j < cs.length
    · rw [List.getElem?_append_left hj] at hu
      rw [h2 j (by omega)]
      simp [List.getD_eq_getElem?_getD, hu]
    · rw [List.getElem?_append_right (by omega)] at hu
      have := h6 _ _ hu
      rw [← this]; congr 1; omega
end
/-- what immutable memory is known behind a call: what was known before, and all that the call has made -/
def up (H : PH) (w w' : World) : PH := fun k => if k < w.heap.size then H k else ph w' k
theorem up_ple {H : PH} {w w' : World} (h : PLe H (ph w)) (e : Ext w w') : PLe (up H w w') (ph w') := by
  intro k o hk
  unfold up at hk
  split at hk
  · exact e.ple k o (h k o hk)
  · exact hk
theorem ple_up {H : PH} {w w' : World} (h : PLe H (ph w)) : PLe H (up H w w') := by
  intro k o hk
  unfold up
  rw [if_pos (ph_lt (h k o hk))]; exact hk
theorem up_none {H : PH} {w w' : World} {g : Nat} (h : H g = none) (hg : g < w.heap.size) : up H w w' g = none := by
  unfold up; rw [if_pos hg]; exact h
theorem up_mono {H H' : PH} {w w' : World} (h : PLe H H') : PLe (up H w w') (up H' w w') := by
  intro k o hk
  unfold up at *
  split at hk
  · rename_i hl; rw [if_pos hl]; exact h k o hk
  · rename_i hl; rw [if_neg hl]; exact hk
theorem up_then {H : PH} {w w1 w2 : World} (h : Ext w w1) (e : Ext w1 w2) : PLe (up H w w1) (up H w w2) := by
  intro k o hk
  unfold up at *
  split at hk
  · rename_i hl; rw [if_pos hl]; exact hk
  · rename_i hl; rw [if_neg hl]; exact e.ple k o hk
theorem up_up {H : PH} {w w1 w2 : World} (h : Ext w w1) (e : Ext w1 w2) : PLe (up (up H w w1) w1 w2) (up H w w2) := by
  intro k o hk
  unfold up at *
  by_cases h1 : k < w1.heap.size
  · rw [if_pos h1] at hk
    by_cases h2 : k < w.heap.size
    · rw [if_pos h2] at hk ⊢; exact hk
    · rw [if_neg h2] at hk ⊢; exact e.ple k o hk
  · rw [if_neg h1] at hk
    rw [if_neg (by have := h.size; omega)]; exact hk
/-- v is a slice with the elements xs, whole in a block of its own (from base on), which is not in H -/
def OwnS {α : Type} (base : Nat) (H : PH) (w : World) (E : PH → List Value → α → Prop) (sz : Nat) (T : TypeId) (v : Value) (xs : List α) : Prop :=
  (v = .slice none 0 0 ∧ xs = []) ∨
  ∃ g cap cur, v = .slice (some ⟨g, 0, none⟩) xs.length cap ∧ base ≤ g ∧ H g = none ∧ w.heap[g]? = some (.cells cur T (0, 0)) ∧ xs.length ≤ cap ∧ cap ≤ maxLen ∧ cur.size = cap * sz ∧
    Cells H E sz (cur.toList.take (xs.length * sz)) xs
/-- vx is a slice with the elements ys, wherever its row lies -/
def Src {α : Type} (w : World) (H : PH) (E : PH → List Value → α → Prop) (sz : Nat) (vx : Value) (ys : List α) : Prop :=
  ∃ a cap, vx = .slice a ys.length cap ∧ ys.length ≤ cap ∧ (ys = [] ∨ ∃ ad c, a = some ad ∧ Cells H E sz c ys ∧ ∀ j u, c[j]? = some u → w.cell? (ad.add j) = some u)
section
variable {α : Type} {E : PH → List Value → α → Prop} {sz : Nat} {H : PH} {w w' : World} {base : Nat} {T : TypeId} {v : Value} {xs ys : List α}
theorem add0 (g j : Nat) : (⟨g, 0, none⟩ : Addr).add j = ⟨g, j, none⟩ := by unfold Addr.add; split <;> simp_all
theorem addo (b o j : Nat) : (⟨b, o, none⟩ : Addr).add j = ⟨b, o + j, none⟩ := by unfold Addr.add; split <;> simp_all
theorem OwnS.nil (base : Nat) (H : PH) (w : World) (E : PH → List Value → α → Prop) (sz : Nat) (T : TypeId) : OwnS base H w E sz T (.slice none 0 0) [] := .inl ⟨rfl, rfl⟩
theorem OwnS.lt (h : OwnS base H w E sz T v xs) : ∀ k, v.ownBlock = some k → base ≤ k ∧ k < w.heap.size ∧ H k = none := by
  intro k hk
  rcases h with ⟨rfl, _⟩ | ⟨g, cap, cur, rfl, hb, hn, hg, _⟩
  · simp [Value.ownBlock] at hk
  · simp [Value.ownBlock] at hk; subst hk
    exact ⟨hb, (Array.getElem?_eq_some_iff.1 hg).1, hn⟩
/-- it stays while its block does and immutable memory grows -/
theorem OwnS.keepB {H' : PH} (h : OwnS base H w E sz T v xs) (hb : ∀ k, v.ownBlock = some k → w'.heap[k]? = w.heap[k]?) (hn : ∀ k, v.ownBlock = some k → H' k = none) (hm : ∀ cs x, E H cs x → E H' cs x) : OwnS base H' w' E sz T v xs := by
  rcases h with h | ⟨g, cap, cur, rfl, h1, h2, h3, h4, h5, h6, h7⟩
  · exact .inl h
  · exact .inr ⟨g, cap, cur, rfl, h1, hn g rfl, by rw [hb g rfl]; exact h3, h4, h5, h6, h7.mono hm⟩
theorem OwnS.keep (h : OwnS base H w E sz T v xs) (e : Ext w w') : OwnS base H w' E sz T v xs :=
  h.keepB (fun k hk => e.block k (h.lt k hk).2.1) (fun k hk => (h.lt k hk).2.2) fun _ _ h => h
theorem OwnS.keepUp (h : OwnS base H w E sz T v xs) (hm : Mono E) (hl : PLe H (ph w)) (e : Ext w w') : OwnS base (up H w w') w' E sz T v xs :=
  h.keepB (fun k hk => e.block k (h.lt k hk).2.1) (fun k hk => up_none (h.lt k hk).2.2 (h.lt k hk).2.1) fun _ _ => hm _ _ _ _ (ple_up hl)
theorem OwnS.form (h : OwnS base H w E sz T v xs) : ∃ a cap, v = .slice a xs.length cap ∧ xs.length ≤ 9223372036854775807 := by
  rcases h with ⟨rfl, rfl⟩ | ⟨g, cap, cur, rfl, h1, h2, h3, h4, h5, h6, h7⟩
  · exact ⟨none, 0, rfl, by simp⟩
  · exact ⟨_, cap, rfl, by unfold maxLen at h5; omega⟩
/-- read as any slice -/
theorem OwnS.rep (h : OwnS base H w E sz T v xs) (hm : Mono E) (hl : PLe H (ph w)) : SliceRep E sz (ph w) v xs := by
  rcases h with ⟨rfl, rfl⟩ | ⟨g, cap, cur, rfl, h1, h2, h3, h4, h5, h6, h7⟩
  · exact SliceRep.nil E sz _
  · refine ⟨_, cap, rfl, h4, h5, .inr ⟨g, 0, rfl, h7.row (fun _ _ => hm _ _ _ _ hl) fun j u hu => ?_⟩⟩
    simp only [cellAt, ph, h3, Nat.zero_add]
    rw [List.getElem?_take] at hu
    split at hu
    · simpa using hu
    · cases hu
/-- handed back: its block becomes immutable -/
theorem OwnS.repUp {w0 : World} (h : OwnS base H w E sz T v xs) (hm : Mono E) (hb : w0.heap.size ≤ base) (hl : PLe H (up H w0 w)) : SliceRep E sz (up H w0 w) v xs := by
  rcases h with ⟨rfl, rfl⟩ | ⟨g, cap, cur, rfl, h1, h2, h3, h4, h5, h6, h7⟩
  · exact SliceRep.nil E sz _
  · refine ⟨_, cap, rfl, h4, h5, .inr ⟨g, 0, rfl, h7.row (fun _ _ => hm _ _ _ _ hl) fun j u hu => ?_⟩⟩
    have : up H w0 w g = some (.cells cur T (0, 0)) := by unfold up; rw [if_neg (by omega)]; exact h3
    simp only [cellAt, this, Nat.zero_add]
    rw [List.getElem?_take] at hu
    split at hu
    · simpa using hu
    · cases hu
theorem Src.ofRep (h : SliceRep E sz H v xs) (hl : PLe H (ph w)) : Src w H E sz v xs := by
  obtain ⟨a, cap, rfl, h1, h2, h3⟩ := h
  refine ⟨a, cap, rfl, h1, ?_⟩
  rcases h3 with h3 | ⟨b, o, rfl, h4⟩
  · exact .inl h3
  · obtain ⟨c, h5, h6⟩ := Cells.ofRow h4
    refine .inr ⟨_, c, rfl, h5, fun j u hu => ?_⟩
    rw [addo, cell_ph]
    exact cellAt_mono hl (h6 j u hu)
theorem Src.ofOwn (h : OwnS base H w E sz T v xs) : Src w H E sz v xs := by
  rcases h with ⟨rfl, rfl⟩ | ⟨g, cap, cur, rfl, h1, h2, h3, h4, h5, h6, h7⟩
  · exact ⟨none, 0, rfl, by simp, .inl rfl⟩
  · refine ⟨_, cap, rfl, h4, .inr ⟨_, _, rfl, h7, fun j u hu => ?_⟩⟩
    rw [add0, cell_of_row w g j cur T (0, 0) h3]
    rw [List.getElem?_take] at hu
    split at hu
    · simpa using hu
    · cases hu
/-- one element, laid in a block of its own -/
theorem Src.lit1 {x : α} {cs : List Value} {b : Nat} (hE : E H cs x) (hs : cs.length = sz) (hc : ∀ j, w.cell? ⟨b, j, none⟩ = cs[j]?) : Src w H E sz (.slice (some ⟨b, 0, none⟩) 1 1) [x] :=
  ⟨_, 1, rfl, Nat.le_refl _, .inr ⟨_, cs, rfl, ⟨cs, [], by simp, hs, hE, rfl⟩, fun j u hu => by rw [add0, hc]; exact hu⟩⟩
end
section
variable {P : Program} {w : World}
theorem run_append_zero (t ty e : TypeId) (i : TypeInfo) (ht : P.underlying t = some (.slice e)) (hi : P.info? e = some i) (b : Option Addr) (n cap : Nat) (hn : n ≤ cap) (a : Option Addr) (c : Nat) :
    (Builtin.append_ #[t, t] ty #[.slice b n cap, .slice a 0 c]).run P w = .ok (.slice b n cap) w := by
  cases a <;> cases b <;> simp [Builtin.append_, run_underlying ht, sizeOf, typeInfo, hi, Builtin.lenOf, Builtin.firstCells, loadCells, loadCellsFrom, hn, storeCells]
theorem run_append_S {α : Type} {E : PH → List Value → α → Prop} {sz : Nat} {H : PH} {base : Nat} (t ty e : TypeId) (i : TypeInfo) (z : Value) (bytes : Nat)
    (ht : P.underlying t = some (.slice e)) (hi : P.info? e = some i) (hz : i.zero = some z) (hsz : i.size = sz) (hby : i.bytes = bytes) (hzs : z.cells.size = sz)
    {v vx : Value} {xs ys : List α} (hown : OwnS base H w E sz e v xs) (hsrc : Src w H E sz vx ys) (hl : PLe H (ph w)) (hb : base ≤ w.heap.size)
    (hone : ∀ cs x, E H cs x → ∀ u ∈ cs, u.oneCell' = true) (hbytes : (xs.length + ys.length) * bytes ≤ 140737488355328) (hcnt : xs.length + ys.length ≤ 140737488355328) :
    ∃ v' w', (Builtin.append_ #[t, t] ty #[v, vx]).run P w = .ok v' w' ∧ OwnS base H w' E sz e v' (xs ++ ys) ∧ w.grownBy w' v.ownBlock ∧
      (∀ k, v'.ownBlock = some k → v.ownBlock = some k ∨ w.heap.size ≤ k) := by
  subst hsz; subst hby
  obtain ⟨a, cap', rfl, hcap', hsrc⟩ := hsrc
  by_cases hy : ys = []
  · subst hy
    have hrun : (Builtin.append_ #[t, t] ty #[v, .slice a ([] : List α).length cap']).run P w = .ok v w := by
      rcases hown with ⟨rfl, rfl⟩ | ⟨g, cap, cur, rfl, h1, h2, h3, h4, h5, h6, h7⟩
      · exact run_append_zero t ty e i ht hi none 0 0 (Nat.le_refl _) a cap'
      · exact run_append_zero t ty e i ht hi _ _ cap h4 a cap'
    exact ⟨v, w, hrun, by simpa using hown, ⟨rfl, rfl, rfl, Nat.le_refl _, fun _ _ _ => rfl⟩, fun k hk => .inl hk⟩
  · rcases hsrc with h | ⟨ad, news, rfl, hnews, hcell⟩
    · exact absurd h hy
    have hlen := hnews.length
    have hpos : 0 < ys.length := List.length_pos_iff.2 hy
    have hfresh : H w.heap.size = none := by
      cases hx : H w.heap.size with
      | none => rfl
      | some o => exact absurd (ph_lt (hl _ _ hx)) (by omega)
    have mk : ∀ (olds : List Value) (c : Nat), Cells H E i.size olds xs → xs.length + ys.length ≤ c → c ≤ maxLen → ∀ (row : Option Nat),
        OwnS base H (w.drew.alloc (.cells (olds.toArray ++ news.toArray ++ Builtin.zeroCells z.cells (c - (xs.length + ys.length))) e)) E i.size e (.slice (some ⟨w.heap.size, 0, none⟩) (xs.length + ys.length) c) (xs ++ ys) ∧
        w.grownBy (w.drew.alloc (.cells (olds.toArray ++ news.toArray ++ Builtin.zeroCells z.cells (c - (xs.length + ys.length))) e)) row := by
      intro olds c hold hc1 hc2 row
      have hol := hold.length
      refine ⟨.inr ⟨w.heap.size, c, _, by simp, hb, hfresh, heap_alloc_new w.drew _, by simpa using hc1, hc2, ?_, ?_⟩, ⟨rfl, rfl, rfl, by simp, fun k hk _ => Below.heap_alloc w.drew _ k hk⟩⟩
      · simp only [Array.size_append, List.size_toArray, size_zeroCells, hzs, hol, hlen, ← Nat.add_mul]
        congr 1; omega
      · have : (olds.toArray ++ news.toArray ++ Builtin.zeroCells z.cells (c - (xs.length + ys.length))).toList.take ((xs ++ ys).length * i.size) = olds ++ news := by
          simp only [Array.toList_append, List.append_assoc]
          rw [← List.append_assoc, List.length_append, Nat.add_mul, ← hol, ← hlen, ← List.length_append]
          exact List.take_left
        rw [this]
        exact hold.append hnews
    rcases hown with ⟨rfl, rfl⟩ | ⟨g, cap, cur, rfl, h1, h2, h3, h4, h5, h6, h7⟩
    · have hr := run_append_nil (P := P) w t ty e i z ht hi hz ad ys.length cap' news hlen hcell hpos (by omega) (by simp only [List.length_nil, Nat.zero_add] at hbytes; omega)
      have hm := mk [] (grownCap w ys.length 0 e) rfl (by simpa using grownCap_ge w ys.length 0 e) (grownCap_le_maxLen w ys.length 0 e (by simp only [maxLen, List.length_nil] at hcnt ⊢; omega)) (Value.ownBlock (.slice none 0 0))
      simp only [List.length_nil, Nat.zero_add, List.nil_append] at hm
      refine ⟨_, _, hr, ?_, ?_, fun k hk => .inr (by simp [Value.ownBlock] at hk; omega)⟩
      · simpa using hm.1
      · simpa using hm.2
    · by_cases hroom : xs.length + ys.length ≤ cap
      · have hfit : xs.length * i.size + news.length ≤ cur.size := by rw [hlen, h6, ← Nat.add_mul]; exact Nat.mul_le_mul_right _ hroom
        have hr := run_append_room (P := P) w t ty e i ht hi g xs.length cap cur h3 ad ys.length cap' news hlen hcell (hnews.one hone) hroom hfit
        refine ⟨_, _, hr, .inr ⟨g, cap, _, by simp, h1, h2, setRow_heap w g cur _ e _ h3, by simpa using hroom, h5, ?_, ?_⟩, ⟨rfl, rfl, rfl, by simp, fun k _ hk => setRow_other w g k _ (fun e => hk (by simp [Value.ownBlock, e]))⟩, fun k hk => .inl hk⟩
        · simp only [List.size_toArray, List.length_append, List.length_take, List.length_drop, Array.length_toList]
          omega
        · have hl7 := h7.length
          have : ((cur.toList.take (xs.length * i.size) ++ news ++ cur.toList.drop (xs.length * i.size + news.length)).toArray).toList.take ((xs ++ ys).length * i.size) = cur.toList.take (xs.length * i.size) ++ news := by
            simp only []
            rw [List.length_append, Nat.add_mul, ← hl7, ← hlen, ← List.length_append]
            rw [hl7]
            exact List.take_left' (by first | (simp only [List.length_append, List.length_take]; done) | (simp only [List.length_append, List.length_take]; omega))
          rw [this]
          exact h7.append hnews
      · have holds : ∀ j u, (cur.toList.take (xs.length * i.size))[j]? = some u → w.cell? ((⟨g, 0, none⟩ : Addr).add j) = some u := by
          intro j u hu
          rw [add0, cell_of_row w g j cur e (0, 0) h3]
          rw [List.getElem?_take] at hu
          split at hu
          · simpa using hu
          · cases hu
        have hr := run_append_grow (P := P) w t ty e i z ht hi hz ⟨g, 0, none⟩ xs.length cap _ h7.length holds ad ys.length cap' news hlen hcell (by omega) (by omega) (growslice_fits (by omega) hbytes)
        have hm := mk _ (grownCap w (xs.length + ys.length) cap e) h7 (grownCap_ge _ _ _ _) (grownCap_le_maxLen _ _ _ _ (by simp only [maxLen]; omega)) (Value.ownBlock (.slice (some ⟨g, 0, none⟩) xs.length cap))
        exact ⟨_, _, hr, hm.1, hm.2, fun k hk => .inr (by simp [Value.ownBlock] at hk; omega)⟩
/-- the walk's arm at an append: the source owned or not -/
theorem wpList_append_S {α : Type} {E : PH → List Value → α → Prop} {sz : Nat} {H : PH} {base : Nat} {ops : Array Oper} {rest : List Oper} {o : Oper} {a : Act} {Q : Exit → Act → World → Prop} (hgd : o.guard = none) (s x : Operand) (t e : TypeId)
    (ho : o.op = .call { callee := .builtin .append, args := #[s, x], argTypes := #[t, t] }) (z : Value) (bytes : Nat)
    (ht : P.underlying t = some (.slice e)) (hinfo : (P.info? e).map (fun i => (i.zero, i.size, i.bytes)) = some (some z, sz, bytes)) (hzs : z.cells.size = sz)
    {v vx : Value} {xs ys : List α} (hs : a.eval s = v) (hx : a.eval x = vx) (hown : OwnS base H w E sz e v xs) (hsrc : Src w H E sz vx ys) (hl : PLe H (ph w)) (hb : base ≤ w.heap.size)
    (hone : ∀ cs x, E H cs x → ∀ u ∈ cs, u.oneCell' = true) (hbytes : (xs.length + ys.length) * bytes ≤ 140737488355328) (hcnt : xs.length + ys.length ≤ 140737488355328)
    (h : ∀ v' w', OwnS base H w' E sz e v' (xs ++ ys) → w.grownBy w' v.ownBlock → (∀ k, v'.ownBlock = some k → v.ownBlock = some k ∨ w.heap.size ≤ k) → wpList P ops Q rest (a.put o.dst v') w') :
    wpList P ops Q (o :: rest) a w := by
  obtain ⟨i, hi, hz0, hz1, hz2⟩ := info_parts hinfo
  obtain ⟨v', w', hr, h2, h3, h4⟩ := run_append_S (P := P) (w := w) t o.type e i z bytes ht hi hz0 hz1 hz2 hzs hown hsrc hl hb hone hbytes hcnt
  refine wpList_plain hgd fun _ hK => ?_
  unfold Oper.wp execOp
  simp only [ho, resolve, invoke, builtin, Sem.run_bind, Sem.run_pure, Result.andThen_ok, List.map_toArray, List.map_cons, List.map_nil, hs, hx, hr]
  exact hK _ _ (h v' w' h2 h3 h4)
theorem Own.grown {w w' : World} {b : Nat} {c : Array Value} {T : TypeId} {row : Option Nat} (h : Own w b c T) (g : w.grownBy w' row) (hne : some b ≠ row) : Own w' b c T := by
  unfold Own; rw [g.block b h.lt hne]; exact h
theorem Ext.grown {w0 w w' : World} {row : Option Nat} (h : Ext w0 w) (g : w.grownBy w' row) (hr : ∀ k, row = some k → w0.heap.size ≤ k) : Ext w0 w' := Below.grown h g h.size hr
end
theorem infoInt : (Tryz.prog.info? 3).map (fun i => (i.zero, i.size, i.bytes)) = some (some (.int .i64 0), 1, 8) := by kernel_rfl
theorem one_IntR {h : PH} : ∀ cs x, IntR h cs x → ∀ u ∈ cs, u.oneCell' = true := by
  rintro cs x ⟨rfl, -⟩ u hu
  obtain rfl := List.mem_singleton.1 hu
  rfl
abbrev noH : PH := fun _ => none
theorem noH_le (h : PH) : PLe noH h := fun _ _ hk => by cases hk
theorem OwnS.ofNew {α : Type} {E : PH → List Value → α → Prop} {sz : Nat} {base : Nat} {w : World} {T : TypeId} {g n : Nat} {xs : List α} {cur : Array Value} (hb : base ≤ g) (hg : w.heap[g]? = some (.cells cur T (0, 0))) (hn : n = xs.length) (hm : n ≤ maxLen) (hs : cur.size = n * sz) (hc : Cells noH E sz cur.toList xs) :
    OwnS base noH w E sz T (.slice (some ⟨g, 0, none⟩) n n) xs := by
  subst hn
  exact .inr ⟨g, _, cur, rfl, hb, rfl, hg, Nat.le_refl _, hm, hs, by rw [List.take_of_length_le (by simp [hs])]; exact hc⟩
abbrev OwnI (base : Nat) (w : World) : Value → List Int → Prop := OwnS base noH w IntR 1 3
end Go.Proofs.YtnhcplmcddlgnaaGreat
