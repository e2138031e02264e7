/- the reference of package span: put. -/
import Derived.Deep.CutBlock
import Derived.Test.YtmbkefgmiehdiaaSpX
import Derived.Test.YtmbkefgmiehdiaaSpB
namespace Go.Proofs.Ytmbkefgmiehdiaa
open Go.RowKit Go.Shelf
set_option linter.unusedSimpArgs false
set_option linter.unusedVariables false
def NewSk (W : World) (n : Nat) (c : Array Value) (T : TypeId) : Prop1 := fun v w => ∃ g, v = .slice (some ⟨g, 0, none⟩) n n ∧ Own w g c T ∧ W.heap.size ≤ g
theorem stab_NewSk {W : World} (W0 : World) (n : Nat) (c : Array Value) (T : TypeId) : Stable W (NewSk W0 n c T) := fun v w w' _ ⟨g, h1, h2, h3⟩ e => ⟨g, h1, h2.keep e, h3⟩
abbrev RatsR : PH → Value → List Rat2 → Prop := SliceRep RatR 2
theorem RatsR.at {w : World} {a : Option Addr} {n cap : Nat} {xs : List Rat2} (hr : RatsR (ph w) (.slice a n cap) xs) (k : Nat) (hk : k < xs.length) :
    ∃ b o, a = some ⟨b, o, none⟩ ∧ w.cell? ⟨b, o + k * 2, none⟩ = some (.int .i64 xs[k].num) ∧ w.cell? ⟨b, o + k * 2 + 1, none⟩ = some (.int .i64 xs[k].den) ∧ xs[k].I ∧ b < w.heap.size := by
  obtain ⟨b, o, c, d, h1, h2, h3, h4, h5⟩ := SliceRep.get2 hr k hk
  injection h4 with h6 h7
  injection h7 with h7 h8
  subst h6 h7
  exact ⟨b, o, h1, h2, h3, h5, cell_lt h2⟩
theorem infoRat : (Try.prog.info? 40).map (fun i => (i.zero, i.size, i.bytes)) = some (some (.agg #[.int .i64 0, .int .i64 0]), 2, 16) := by kernel_rfl
theorem one_RatR {h : PH} : ∀ cs x, RatR h cs x → ∀ u ∈ cs, u.oneCell' = true := by
  rintro cs x ⟨rfl, -⟩ u hu
  simp only [List.mem_cons, List.not_mem_nil, or_false] at hu
  rcases hu with rfl | rfl <;> rfl
section
variable {α : Type} {E : PH → List Value → α → Prop} {sz : Nat} {h : PH} {b : Nat}
theorem RowRep.takeR : ∀ {xs : List α} {o : Nat} (k : Nat), RowRep h E sz b o xs → RowRep h E sz b o (xs.take k)
  | [], _, k, _ => by rw [List.take_nil]; trivial
  | x :: xs, _, 0, _ => trivial
  | x :: xs, _, k + 1, hr => ⟨hr.1, RowRep.takeR k hr.2⟩
theorem RowRep.dropR : ∀ {xs : List α} {o : Nat} (k : Nat), RowRep h E sz b o xs → RowRep h E sz b (o + k * sz) (xs.drop k)
  | [], _, k, _ => by rw [List.drop_nil]; trivial
  | x :: xs, _, 0, hr => by rw [Nat.zero_mul, Nat.add_zero]; exact hr
  | x :: xs, o, k + 1, hr => by
    have := RowRep.dropR k hr.2
    rw [show o + (k + 1) * sz = o + sz + k * sz by rw [Nat.add_mul]; omega]
    exact this
theorem SliceRep.takeS {a : Option Addr} {n c : Nat} {xs : List α} (hr : SliceRep E sz h (.slice a n c) xs) (k : Nat) (hk : k ≤ xs.length) : SliceRep E sz h (.slice a k c) (xs.take k) := by
  obtain ⟨a', c', h1, h2, h3, h4⟩ := hr
  cases h1
  have hl : (xs.take k).length = k := by rw [List.length_take]; omega
  refine ⟨a, c, by rw [hl], by omega, h3, ?_⟩
  rcases h4 with rfl | ⟨b, o, rfl, h5⟩
  · exact .inl (by simp)
  · exact .inr ⟨b, o, rfl, h5.takeR k⟩
theorem SliceRep.dropS {o n c : Nat} {xs : List α} (hr : SliceRep E sz h (.slice (some ⟨b, o, none⟩) n c) xs) (k : Nat) (hk : k ≤ xs.length) : SliceRep E sz h (.slice (some ⟨b, o + k * sz, none⟩) (n - k) (c - k)) (xs.drop k) := by
  obtain ⟨a', c', h1, h2, h3, h4⟩ := hr
  cases h1
  refine ⟨_, c - k, by rw [List.length_drop], by rw [List.length_drop]; omega, by omega, ?_⟩
  rcases h4 with rfl | ⟨b, o, h6, h5⟩
  · exact .inl (by simp)
  · cases h6
    exact .inr ⟨b, _, rfl, h5.dropR k⟩
theorem SliceRep.cap {a : Option Addr} {n c : Nat} {xs : List α} (hr : SliceRep E sz h (.slice a n c) xs) : n = xs.length ∧ xs.length ≤ c ∧ c ≤ maxLen := by
  obtain ⟨a', c', h1, h2, h3, h4⟩ := hr
  cases h1; exact ⟨rfl, h2, h3⟩
theorem SliceRep.empty (a : Option Addr) (c : Nat) (hc : c ≤ maxLen) : SliceRep E sz h (.slice a 0 c) ([] : List α) := ⟨a, c, rfl, Nat.zero_le _, hc, .inl rfl⟩
end
/-- an append in a drawn region -/
theorem oper_append_S {P : Program} {α : Type} {E : PH → List Value → α → Prop} {sz : Nat} {H : PH} {base : Nat} {w : World} {o : Oper} {a : Act} {K : Act → World → Prop} {Q : Exit → Act → World → Prop} (s x : Operand) (t e : TypeId)
    (ho : o.op = .call { callee := .builtin .append, args := #[s, x], argTypes := #[t, t] }) (z : Value) (bytes : Nat)
    (ht : P.underlying t = some (.slice e)) (hinfo : (P.info? e).map (fun i => (i.zero, i.size, i.bytes)) = some (some z, sz, bytes)) (hzs : z.cells.size = sz)
    {v vx : Value} {xs ys : List α} (hs : a.eval s = v) (hx : a.eval x = vx) (hown : OwnS base H w E sz e v xs) (hsrc : Src w H E sz vx ys) (hl : PLe H (ph w)) (hb : base ≤ w.heap.size)
    (hone : ∀ cs x, E H cs x → ∀ u ∈ cs, u.oneCell' = true) (hbytes : (xs.length + ys.length) * bytes ≤ 140737488355328) (hcnt : xs.length + ys.length ≤ 140737488355328)
    (h : ∀ v' w', OwnS base H w' E sz e v' (xs ++ ys) → w.grownBy w' v.ownBlock → (∀ k, v'.ownBlock = some k → v.ownBlock = some k ∨ w.heap.size ≤ k) → K (a.put o.dst v') w') :
    o.wp P a w K Q := by
  obtain ⟨i, hi, hz0, hz1, hz2⟩ := info_parts hinfo
  obtain ⟨v', w', hr, h2, h3, h4⟩ := run_append_S (P := P) (w := w) t o.type e i z bytes ht hi hz0 hz1 hz2 hzs hown hsrc hl hb hone hbytes hcnt
  unfold Oper.wp execOp
  simp only [ho, resolve, invoke, builtin, Sem.run_bind, Sem.run_pure, Result.andThen_ok, List.map_toArray, List.map_cons, List.map_nil, hs, hx, hr]
  exact h v' w' h2 h3 h4
theorem putR_split {l : List Rat2} {r : Rat2} : ∀ {k : Nat}, k ≤ l.length → (∀ x ∈ l.take k, lessR x r = true) → putR l r = l.take k ++ putR (l.drop k) r := by
  induction l with
  | nil => intro k _ _; simp
  | cons p l ih =>
    intro k hk h
    cases k with
    | zero => rfl
    | succ k =>
      have hp := h p (by simp)
      rw [putR, if_pos hp, ih (by simpa using hk) (fun x hx => h x (by simp [hx]))]
      rfl
def PutP (w : World) (l : List Rat2) (e : Ending) (w' : World) : Prop := ∃ v, e = .returned v ∧ Ext w w' ∧ RatsR (ph w') v l
set_option maxRecDepth 100000 in
set_option maxHeartbeats 8000000 in
theorem put_c (vl : Value) (l : List Rat2) (r : Rat2) (w : World) (hr : RatsR (ph w) vl l) (hlen : l.length ≤ 100000) (hb : ∀ p ∈ l, p.bd) (hrb : r.bd) (hrI : r.I) : Calls Try.prog 70 #[vl, raA r] w (PutP w (putR l r)) := by
  have hless := fun (k : Nat) (h : k < l.length) w => rless_c l[k] r w (hb _ (List.getElem_mem h)) hrb
  obtain ⟨a, c, rfl, -, hr⟩ := hr.form
  obtain ⟨N, hN⟩ : ∃ N, l.length = N := ⟨_, rfl⟩
  have hcap := hr.cap
  rw [hN] at hr hcap ⊢
  have hN6 : N ≤ 100000 := by omega
  replace hN := Lib.hid hN
  replace hless := Lib.hid hless
  have hrA : Hid (raA r = .agg #[.int .i64 r.num, .int .i64 r.den]) := rfl
  have hO := Proofs.Ytmbkefgmiehdiaa.Own.new w #[.int .i64 r.num, .int .i64 r.den] 40
  have hx0 := Ext.new w (.cells #[.int .i64 r.num, .int .i64 r.den] 40)
  rw [hrA.out]
  clear hlen hb
  go_enter Try.func70, Try.ntmps70
  go_upto_region 1 with (fail)
  generalize w.heap.size = b3 at *
  generalize w.alloc _ = W at *
  go_wp2_with fail
  go_loopw [5] (fun vi wr => ∃ k : Nat, k ≤ N ∧ vi = .int .i64 k ∧ Hid (∀ x ∈ l.take k, lessR x r = true) ∧ Ext W wr) (fun vi _ => N - (intOf vi).toNat)
  case atStart => exact ⟨0, by omega, rfl, Lib.hid (by simp), Ext.rfl' _⟩
  case round =>
    obtain ⟨k, hk, rfl, ho, hx⟩ := hrel
    replace hO := hO.keep hx
    obtain ⟨c3, f3⟩ := hO.facts
    have z3 := hO.lt
    have r0 : _ = some (Value.int .i64 r.num) := c3 0
    have r1 : _ = some (Value.int .i64 r.den) := c3 1
    have hxw := hx0.then hx
    by_cases hlt : k < N
    · obtain ⟨b, o, rfl, g0, g1, gI, gl⟩ := RatsR.at hr k (by rw [hN.out]; exact hlt)
      replace g0 := hxw.cell1 g0
      replace g1 := hxw.cell1 g1
      replace gl := cell_lt g0
      have hja : decide (k < N) = true := decide_eq_true hlt
      have hle := hless.out k (by rw [hN.out]; exact hlt)
      have htk := fun (h : lessR (l[k]'(by rw [hN.out]; exact hlt)) r = true) => take_all (p := fun x => lessR x r = true) (show k < l.length by rw [hN.out]; exact hlt) h ho.out
      have hsp := putR_split (l := l) (r := r) (k := k) (by rw [hN.out]; exact hk) ho.out
      rw [List.drop_eq_getElem_cons (show k < l.length by rw [hN.out]; exact hlt), putR] at hsp
      have hdr := List.drop_eq_getElem_cons (show k < l.length by rw [hN.out]; exact hlt)
      obtain ⟨q, hq⟩ : ∃ q, lessR (l[k]'(by rw [hN.out]; exact hlt)) r = q := ⟨_, rfl⟩
      rw [hq] at hle htk hsp
      unfold raA at hle
      generalize hlk : (l[k]'(by rw [hN.out]; exact hlt)) = x at *
      replace hle := Lib.hid hle
      replace htk := Lib.hid htk
      replace hsp := Lib.hid hsp
      replace hdr := Lib.hid hdr
      replace hlk := Lib.hid hlk
      clear hq c3
      go_upto_region 2 with (fail)
      (refine wp_region_I 12 (by kernel_rfl) (by kernel_rfl) ?_; simp only [List.toList_toArray, List.take_succ_cons, List.take_zero, List.drop_succ_cons, List.drop_zero])
      (refine walkI_is (u := ?_) rfl (by simp) rfl ?_ ?_; rotate_left; (focus (intro A w' hS hA K hK; (simp only [List.map_cons, List.map_nil, knows, Is, Op.operands, Call.operands, List.lookup_cons, List.lookup_nil, Nat.reduceBEq, Bool.false_eq_true, if_false, if_true, Act.eval, Array.getD_eq_getD_getElem?, List.getElem?_toArray, List.getElem?_cons_succ, List.getElem?_cons_zero, Option.getD_some, and_true, true_and, List.append_toArray, List.nil_append, List.cons_append, List.toList_toArray, Array.toList_append, Option.toArray, List.append_nil] at hA); first | fail | (obtain ⟨hSc, hSf, hSs⟩ := hS.cells; go_simp; exact hK _ (by first | exact Ext.rfl' _ | exact Ext.new _ _ | assumption)))); (try simp only [List.nil_append, List.cons_append]))
      (refine walkI_is (u := ?_) rfl (by simp) rfl ?_ ?_; rotate_left; (focus (intro A w' hS hA K hK; (simp only [List.map_cons, List.map_nil, knows, Is, Op.operands, Call.operands, List.lookup_cons, List.lookup_nil, Nat.reduceBEq, Bool.false_eq_true, if_false, if_true, Act.eval, Array.getD_eq_getD_getElem?, List.getElem?_toArray, List.getElem?_cons_succ, List.getElem?_cons_zero, Option.getD_some, and_true, true_and, List.append_toArray, List.nil_append, List.cons_append, List.toList_toArray, Array.toList_append, Option.toArray, List.append_nil] at hA); first | fail | (obtain ⟨hSc, hSf, hSs⟩ := hS.cells; go_simp; exact hK _ (by first | exact Ext.rfl' _ | exact Ext.new _ _ | assumption)))); (try simp only [List.nil_append, List.cons_append]))
      (refine walkI_is (u := ?_) rfl (by simp) rfl ?_ ?_; rotate_left; (focus (intro A w' hS hA K hK; (simp only [List.map_cons, List.map_nil, knows, Is, Op.operands, Call.operands, List.lookup_cons, List.lookup_nil, Nat.reduceBEq, Bool.false_eq_true, if_false, if_true, Act.eval, Array.getD_eq_getD_getElem?, List.getElem?_toArray, List.getElem?_cons_succ, List.getElem?_cons_zero, Option.getD_some, and_true, true_and, List.append_toArray, List.nil_append, List.cons_append, List.toList_toArray, Array.toList_append, Option.toArray, List.append_nil] at hA); first | fail | (obtain ⟨hSc, hSf, hSs⟩ := hS.cells; go_simp; exact hK _ (by first | exact Ext.rfl' _ | exact Ext.new _ _ | assumption)))); (try simp only [List.nil_append, List.cons_append]))
      (refine walkI_is (u := ?_) rfl (by simp) rfl ?_ ?_; rotate_left; (focus (intro A w' hS hA K hK; (simp only [List.map_cons, List.map_nil, knows, Is, Op.operands, Call.operands, List.lookup_cons, List.lookup_nil, Nat.reduceBEq, Bool.false_eq_true, if_false, if_true, Act.eval, Array.getD_eq_getD_getElem?, List.getElem?_toArray, List.getElem?_cons_succ, List.getElem?_cons_zero, Option.getD_some, and_true, true_and, List.append_toArray, List.nil_append, List.cons_append, List.toList_toArray, Array.toList_append, Option.toArray, List.append_nil] at hA); first | fail | (obtain ⟨hSc, hSf, hSs⟩ := hS.cells; go_simp; exact hK _ (by first | exact Ext.rfl' _ | exact Ext.new _ _ | assumption)))); (try simp only [List.nil_append, List.cons_append]))
      (refine walkI_is (u := ?_) rfl (by simp) rfl ?_ ?_; rotate_left; (focus (intro A w' hS hA K hK; (simp only [List.map_cons, List.map_nil, knows, Is, Op.operands, Call.operands, List.lookup_cons, List.lookup_nil, Nat.reduceBEq, Bool.false_eq_true, if_false, if_true, Act.eval, Array.getD_eq_getD_getElem?, List.getElem?_toArray, List.getElem?_cons_succ, List.getElem?_cons_zero, Option.getD_some, and_true, true_and, List.append_toArray, List.nil_append, List.cons_append, List.toList_toArray, Array.toList_append, Option.toArray, List.append_nil] at hA); first | fail | (obtain ⟨hSc, hSf, hSs⟩ := hS.cells; go_simp; exact hK _ (by first | exact Ext.rfl' _ | exact Ext.new _ _ | assumption)))); (try simp only [List.nil_append, List.cons_append]))
      (refine walkI_yesis (u := ?_) rfl (by simp) rfl rfl rfl ?_ ?_; rotate_left; (focus (intro A w' hS hA K hK; (simp only [List.map_cons, List.map_nil, knows, Is, Op.operands, Call.operands, List.lookup_cons, List.lookup_nil, Nat.reduceBEq, Bool.false_eq_true, if_false, if_true, Act.eval, Array.getD_eq_getD_getElem?, List.getElem?_toArray, List.getElem?_cons_succ, List.getElem?_cons_zero, Option.getD_some, and_true, true_and, List.append_toArray, List.nil_append, List.cons_append, List.toList_toArray, Array.toList_append, Option.toArray, List.append_nil] at hA); first | fail | (obtain ⟨hSc, hSf, hSs⟩ := hS.cells; go_simp; exact hK _ (by first | exact Ext.rfl' _ | exact Ext.new _ _ | assumption)))); (try simp only [List.nil_append, List.cons_append]))
      (refine walkI_yesis (u := ?_) rfl (by simp) rfl rfl rfl ?_ ?_; rotate_left; (focus (intro A w' hS hA K hK; (simp only [List.map_cons, List.map_nil, knows, Is, Op.operands, Call.operands, List.lookup_cons, List.lookup_nil, Nat.reduceBEq, Bool.false_eq_true, if_false, if_true, Act.eval, Array.getD_eq_getD_getElem?, List.getElem?_toArray, List.getElem?_cons_succ, List.getElem?_cons_zero, Option.getD_some, and_true, true_and, List.append_toArray, List.nil_append, List.cons_append, List.toList_toArray, Array.toList_append, Option.toArray, List.append_nil] at hA); first | fail | (obtain ⟨hSc, hSf, hSs⟩ := hS.cells; go_simp; exact hK _ (by first | exact Ext.rfl' _ | exact Ext.new _ _ | assumption)))); (try simp only [List.nil_append, List.cons_append]))
      (refine walkI_yesis (u := ?_) rfl (by simp) rfl rfl rfl ?_ ?_; rotate_left; (focus (intro A w' hS hA K hK; (simp only [List.map_cons, List.map_nil, knows, Is, Op.operands, Call.operands, List.lookup_cons, List.lookup_nil, Nat.reduceBEq, Bool.false_eq_true, if_false, if_true, Act.eval, Array.getD_eq_getD_getElem?, List.getElem?_toArray, List.getElem?_cons_succ, List.getElem?_cons_zero, Option.getD_some, and_true, true_and, List.append_toArray, List.nil_append, List.cons_append, List.toList_toArray, Array.toList_append, Option.toArray, List.append_nil] at hA); first | fail | (obtain ⟨hSc, hSf, hSs⟩ := hS.cells; go_simp; exact hK _ (by first | exact Ext.rfl' _ | exact Ext.new _ _ | assumption)))); (try simp only [List.nil_append, List.cons_append]))
      (refine walkI_yesis (u := ?_) rfl (by simp) rfl rfl rfl ?_ ?_; rotate_left; (focus (intro A w' hS hA K hK; (simp only [List.map_cons, List.map_nil, knows, Is, Op.operands, Call.operands, List.lookup_cons, List.lookup_nil, Nat.reduceBEq, Bool.false_eq_true, if_false, if_true, Act.eval, Array.getD_eq_getD_getElem?, List.getElem?_toArray, List.getElem?_cons_succ, List.getElem?_cons_zero, Option.getD_some, and_true, true_and, List.append_toArray, List.nil_append, List.cons_append, List.toList_toArray, Array.toList_append, Option.toArray, List.append_nil] at hA); first | fail | (obtain ⟨hSc, hSf, hSs⟩ := hS.cells; go_simp; exact hK _ (by first | exact Ext.rfl' _ | exact Ext.new _ _ | assumption)))); (try simp only [List.nil_append, List.cons_append]))
      (refine walkI_yesis (u := ?_) rfl (by simp) rfl rfl rfl ?_ ?_; rotate_left; (focus (intro A w' hS hA K hK; (simp only [List.map_cons, List.map_nil, knows, Is, Op.operands, Call.operands, List.lookup_cons, List.lookup_nil, Nat.reduceBEq, Bool.false_eq_true, if_false, if_true, Act.eval, Array.getD_eq_getD_getElem?, List.getElem?_toArray, List.getElem?_cons_succ, List.getElem?_cons_zero, Option.getD_some, and_true, true_and, List.append_toArray, List.nil_append, List.cons_append, List.toList_toArray, Array.toList_append, Option.toArray, List.append_nil] at hA); first | fail | (obtain ⟨hSc, hSf, hSs⟩ := hS.cells; go_simp; exact hK _ (by first | exact Ext.rfl' _ | exact Ext.new _ _ | assumption)))); (try simp only [List.nil_append, List.cons_append]))
      (refine walkI_yesis (u := ?_) rfl (by simp) rfl rfl rfl ?_ ?_; rotate_left; (focus (intro A w' hS hA K hK; (simp only [List.map_cons, List.map_nil, knows, Is, Op.operands, Call.operands, List.lookup_cons, List.lookup_nil, Nat.reduceBEq, Bool.false_eq_true, if_false, if_true, Act.eval, Array.getD_eq_getD_getElem?, List.getElem?_toArray, List.getElem?_cons_succ, List.getElem?_cons_zero, Option.getD_some, and_true, true_and, List.append_toArray, List.nil_append, List.cons_append, List.toList_toArray, Array.toList_append, Option.toArray, List.append_nil] at hA); first | (go_simp; refine RetV_at (hle.out w') ?_; intro w6 hx6; exact hK _ hx6) | (obtain ⟨hSc, hSf, hSs⟩ := hS.cells; go_simp; exact hK _ (by first | exact Ext.rfl' _ | exact Ext.new _ _ | assumption)))); (try simp only [List.nil_append, List.cons_append]))
      (refine walkI_is (u := ?_) rfl (by simp) rfl ?_ ?_; rotate_left; (focus (intro A w' hS hA K hK; (simp only [List.map_cons, List.map_nil, knows, Is, Op.operands, Call.operands, List.lookup_cons, List.lookup_nil, Nat.reduceBEq, Bool.false_eq_true, if_false, if_true, Act.eval, Array.getD_eq_getD_getElem?, List.getElem?_toArray, List.getElem?_cons_succ, List.getElem?_cons_zero, Option.getD_some, and_true, true_and, List.append_toArray, List.nil_append, List.cons_append, List.toList_toArray, Array.toList_append, Option.toArray, List.append_nil] at hA); first | fail | (obtain ⟨hSc, hSf, hSs⟩ := hS.cells; go_simp; exact hK _ (by first | exact Ext.rfl' _ | exact Ext.new _ _ | assumption)))); (try simp only [List.nil_append, List.cons_append]))
      (refine walkI_nil ?_; simp only [List.nil_append, List.cons_append, fins, Is, forall_eq, Act.put, List.setIfInBounds_toArray, List.set_cons_zero, List.set_cons_succ])
      intro w5 hx5
      have hx5' := hx5
      replace hO := hO.keep hx5
      replace hxw := hxw.then hx5
      replace g0 := hx5.cell1 g0
      replace g1 := hx5.cell1 g1
      replace gl := cell_lt g0
      clear r0 r1 f3 z3
      obtain ⟨c3, f3⟩ := hO.facts
      have z3 := hO.lt
      have r0 : _ = some (Value.int .i64 r.num) := c3 0
      have r1 : _ = some (Value.int .i64 r.den) := c3 1
      cases q with
      | true =>
        have h9 := Lib.hid (htk.out (by rfl))
        go_wp2_with fail
        go_roundw
        case rel => exact ⟨k + 1, by omega, by go_num, h9.out, hx.then hx5⟩
        case measure => simp [intOf]; omega
      | false =>
        have hsp2 := hsp.out
        rw [if_neg (by simp)] at hsp2
        clear hle htk hsp
        replace hsp2 := Lib.hid hsp2
        go_upto_region 4 with (fail)
        go_cut [32] (fun v wx => v = .bool (decide (x = r)) ∧ Ext w5 wx)
        case first =>
          by_cases hn : x.num = r.num
          · by_cases hd : x.den = r.den
            · have hxr : decide (x = r) = true := by
                obtain ⟨xn, xd⟩ := x
                obtain ⟨rn, rd⟩ := r
                simp only at hn hd
                subst hn hd; simp
              replace hxr := Lib.hid hxr
              (refine wp_region_I 12 (by kernel_rfl) (by kernel_rfl) ?_; simp only [List.toList_toArray, List.take_succ_cons, List.take_zero, List.drop_succ_cons, List.drop_zero])
              (refine walkI_is (u := ?_) rfl (by simp) rfl ?_ ?_; rotate_left; (focus (intro A w' hS hA K hK; (simp only [List.map_cons, List.map_nil, knows, Is, Op.operands, Call.operands, List.lookup_cons, List.lookup_nil, Nat.reduceBEq, Bool.false_eq_true, if_false, if_true, Act.eval, Array.getD_eq_getD_getElem?, List.getElem?_toArray, List.getElem?_cons_succ, List.getElem?_cons_zero, Option.getD_some, and_true, true_and, List.append_toArray, List.nil_append, List.cons_append, List.toList_toArray, Array.toList_append, Option.toArray, List.append_nil] at hA); first | fail | (obtain ⟨hSc, hSf, hSs⟩ := hS.cells; go_simp; exact hK _ (by first | exact Ext.rfl' _ | exact Ext.new _ _ | assumption)))); (try simp only [List.nil_append, List.cons_append]))
              (refine walkI_is (u := ?_) rfl (by simp) rfl ?_ ?_; rotate_left; (focus (intro A w' hS hA K hK; (simp only [List.map_cons, List.map_nil, knows, Is, Op.operands, Call.operands, List.lookup_cons, List.lookup_nil, Nat.reduceBEq, Bool.false_eq_true, if_false, if_true, Act.eval, Array.getD_eq_getD_getElem?, List.getElem?_toArray, List.getElem?_cons_succ, List.getElem?_cons_zero, Option.getD_some, and_true, true_and, List.append_toArray, List.nil_append, List.cons_append, List.toList_toArray, Array.toList_append, Option.toArray, List.append_nil] at hA); first | fail | (obtain ⟨hSc, hSf, hSs⟩ := hS.cells; go_simp; exact hK _ (by first | exact Ext.rfl' _ | exact Ext.new _ _ | assumption)))); (try simp only [List.nil_append, List.cons_append]))
              (refine walkI_is (u := ?_) rfl (by simp) rfl ?_ ?_; rotate_left; (focus (intro A w' hS hA K hK; (simp only [List.map_cons, List.map_nil, knows, Is, Op.operands, Call.operands, List.lookup_cons, List.lookup_nil, Nat.reduceBEq, Bool.false_eq_true, if_false, if_true, Act.eval, Array.getD_eq_getD_getElem?, List.getElem?_toArray, List.getElem?_cons_succ, List.getElem?_cons_zero, Option.getD_some, and_true, true_and, List.append_toArray, List.nil_append, List.cons_append, List.toList_toArray, Array.toList_append, Option.toArray, List.append_nil] at hA); first | fail | (obtain ⟨hSc, hSf, hSs⟩ := hS.cells; go_simp; exact hK _ (by first | exact Ext.rfl' _ | exact Ext.new _ _ | assumption)))); (try simp only [List.nil_append, List.cons_append]))
              (refine walkI_is (u := ?_) rfl (by simp) rfl ?_ ?_; rotate_left; (focus (intro A w' hS hA K hK; (simp only [List.map_cons, List.map_nil, knows, Is, Op.operands, Call.operands, List.lookup_cons, List.lookup_nil, Nat.reduceBEq, Bool.false_eq_true, if_false, if_true, Act.eval, Array.getD_eq_getD_getElem?, List.getElem?_toArray, List.getElem?_cons_succ, List.getElem?_cons_zero, Option.getD_some, and_true, true_and, List.append_toArray, List.nil_append, List.cons_append, List.toList_toArray, Array.toList_append, Option.toArray, List.append_nil] at hA); first | fail | (obtain ⟨hSc, hSf, hSs⟩ := hS.cells; go_simp; exact hK _ (by first | exact Ext.rfl' _ | exact Ext.new _ _ | assumption)))); (try simp only [List.nil_append, List.cons_append]))
              (refine walkI_is (u := ?_) rfl (by simp) rfl ?_ ?_; rotate_left; (focus (intro A w' hS hA K hK; (simp only [List.map_cons, List.map_nil, knows, Is, Op.operands, Call.operands, List.lookup_cons, List.lookup_nil, Nat.reduceBEq, Bool.false_eq_true, if_false, if_true, Act.eval, Array.getD_eq_getD_getElem?, List.getElem?_toArray, List.getElem?_cons_succ, List.getElem?_cons_zero, Option.getD_some, and_true, true_and, List.append_toArray, List.nil_append, List.cons_append, List.toList_toArray, Array.toList_append, Option.toArray, List.append_nil] at hA); first | fail | (obtain ⟨hSc, hSf, hSs⟩ := hS.cells; go_simp; exact hK _ (by first | exact Ext.rfl' _ | exact Ext.new _ _ | assumption)))); (try simp only [List.nil_append, List.cons_append]))
              (refine walkI_yesis (u := ?_) rfl (by simp) rfl rfl rfl ?_ ?_; rotate_left; (focus (intro A w' hS hA K hK; (simp only [List.map_cons, List.map_nil, knows, Is, Op.operands, Call.operands, List.lookup_cons, List.lookup_nil, Nat.reduceBEq, Bool.false_eq_true, if_false, if_true, Act.eval, Array.getD_eq_getD_getElem?, List.getElem?_toArray, List.getElem?_cons_succ, List.getElem?_cons_zero, Option.getD_some, and_true, true_and, List.append_toArray, List.nil_append, List.cons_append, List.toList_toArray, Array.toList_append, Option.toArray, List.append_nil] at hA); first | fail | (obtain ⟨hSc, hSf, hSs⟩ := hS.cells; go_simp; exact hK _ (by first | exact Ext.rfl' _ | exact Ext.new _ _ | assumption)))); (try simp only [List.nil_append, List.cons_append]))
              (refine walkI_yesis (u := ?_) rfl (by simp) rfl rfl rfl ?_ ?_; rotate_left; (focus (intro A w' hS hA K hK; (simp only [List.map_cons, List.map_nil, knows, Is, Op.operands, Call.operands, List.lookup_cons, List.lookup_nil, Nat.reduceBEq, Bool.false_eq_true, if_false, if_true, Act.eval, Array.getD_eq_getD_getElem?, List.getElem?_toArray, List.getElem?_cons_succ, List.getElem?_cons_zero, Option.getD_some, and_true, true_and, List.append_toArray, List.nil_append, List.cons_append, List.toList_toArray, Array.toList_append, Option.toArray, List.append_nil] at hA); first | fail | (obtain ⟨hSc, hSf, hSs⟩ := hS.cells; go_simp; exact hK _ (by first | exact Ext.rfl' _ | exact Ext.new _ _ | assumption)))); (try simp only [List.nil_append, List.cons_append]))
              (refine walkI_yesis (u := ?_) rfl (by simp) rfl rfl rfl ?_ ?_; rotate_left; (focus (intro A w' hS hA K hK; (simp only [List.map_cons, List.map_nil, knows, Is, Op.operands, Call.operands, List.lookup_cons, List.lookup_nil, Nat.reduceBEq, Bool.false_eq_true, if_false, if_true, Act.eval, Array.getD_eq_getD_getElem?, List.getElem?_toArray, List.getElem?_cons_succ, List.getElem?_cons_zero, Option.getD_some, and_true, true_and, List.append_toArray, List.nil_append, List.cons_append, List.toList_toArray, Array.toList_append, Option.toArray, List.append_nil] at hA); first | fail | (obtain ⟨hSc, hSf, hSs⟩ := hS.cells; go_simp; exact hK _ (by first | exact Ext.rfl' _ | exact Ext.new _ _ | assumption)))); (try simp only [List.nil_append, List.cons_append]))
              (refine walkI_yesis (u := ?_) rfl (by simp) rfl rfl rfl ?_ ?_; rotate_left; (focus (intro A w' hS hA K hK; (simp only [List.map_cons, List.map_nil, knows, Is, Op.operands, Call.operands, List.lookup_cons, List.lookup_nil, Nat.reduceBEq, Bool.false_eq_true, if_false, if_true, Act.eval, Array.getD_eq_getD_getElem?, List.getElem?_toArray, List.getElem?_cons_succ, List.getElem?_cons_zero, Option.getD_some, and_true, true_and, List.append_toArray, List.nil_append, List.cons_append, List.toList_toArray, Array.toList_append, Option.toArray, List.append_nil] at hA); first | fail | (obtain ⟨hSc, hSf, hSs⟩ := hS.cells; go_simp; exact hK _ (by first | exact Ext.rfl' _ | exact Ext.new _ _ | assumption)))); (try simp only [List.nil_append, List.cons_append]))
              (refine walkI_yesis (u := ?_) rfl (by simp) rfl rfl rfl ?_ ?_; rotate_left; (focus (intro A w' hS hA K hK; (simp only [List.map_cons, List.map_nil, knows, Is, Op.operands, Call.operands, List.lookup_cons, List.lookup_nil, Nat.reduceBEq, Bool.false_eq_true, if_false, if_true, Act.eval, Array.getD_eq_getD_getElem?, List.getElem?_toArray, List.getElem?_cons_succ, List.getElem?_cons_zero, Option.getD_some, and_true, true_and, List.append_toArray, List.nil_append, List.cons_append, List.toList_toArray, Array.toList_append, Option.toArray, List.append_nil] at hA); first | fail | (obtain ⟨hSc, hSf, hSs⟩ := hS.cells; go_simp; exact hK _ (by first | exact Ext.rfl' _ | exact Ext.new _ _ | assumption)))); (try simp only [List.nil_append, List.cons_append]))
              (refine walkI_yesis (u := ?_) rfl (by simp) rfl rfl rfl ?_ ?_; rotate_left; (focus (intro A w' hS hA K hK; (simp only [List.map_cons, List.map_nil, knows, Is, Op.operands, Call.operands, List.lookup_cons, List.lookup_nil, Nat.reduceBEq, Bool.false_eq_true, if_false, if_true, Act.eval, Array.getD_eq_getD_getElem?, List.getElem?_toArray, List.getElem?_cons_succ, List.getElem?_cons_zero, Option.getD_some, and_true, true_and, List.append_toArray, List.nil_append, List.cons_append, List.toList_toArray, Array.toList_append, Option.toArray, List.append_nil] at hA); first | fail | (obtain ⟨hSc, hSf, hSs⟩ := hS.cells; go_simp; exact hK _ (by first | exact Ext.rfl' _ | exact Ext.new _ _ | assumption)))); (try simp only [List.nil_append, List.cons_append]))
              (refine walkI_is (u := ?_) rfl (by simp) rfl ?_ ?_; rotate_left; (focus (intro A w' hS hA K hK; (simp only [List.map_cons, List.map_nil, knows, Is, Op.operands, Call.operands, List.lookup_cons, List.lookup_nil, Nat.reduceBEq, Bool.false_eq_true, if_false, if_true, Act.eval, Array.getD_eq_getD_getElem?, List.getElem?_toArray, List.getElem?_cons_succ, List.getElem?_cons_zero, Option.getD_some, and_true, true_and, List.append_toArray, List.nil_append, List.cons_append, List.toList_toArray, Array.toList_append, Option.toArray, List.append_nil] at hA); first | fail | (obtain ⟨hSc, hSf, hSs⟩ := hS.cells; go_simp; exact hK _ (by first | exact Ext.rfl' _ | exact Ext.new _ _ | assumption)))); (try simp only [List.nil_append, List.cons_append]))
              (refine walkI_nil ?_; simp only [List.nil_append, List.cons_append, fins, Is, forall_eq, Act.put, List.setIfInBounds_toArray, List.set_cons_zero, List.set_cons_succ])
              intro w6 hx6
              go_wp2_with fail
              go_meet
              case rel => exact ⟨by rw [hxr.out], hx6⟩
            · have hxr : decide (x = r) = false := by simp; intro e; exact hd (by rw [e])
              replace hxr := Lib.hid hxr
              (refine wp_region_I 12 (by kernel_rfl) (by kernel_rfl) ?_; simp only [List.toList_toArray, List.take_succ_cons, List.take_zero, List.drop_succ_cons, List.drop_zero])
              (refine walkI_is (u := ?_) rfl (by simp) rfl ?_ ?_; rotate_left; (focus (intro A w' hS hA K hK; (simp only [List.map_cons, List.map_nil, knows, Is, Op.operands, Call.operands, List.lookup_cons, List.lookup_nil, Nat.reduceBEq, Bool.false_eq_true, if_false, if_true, Act.eval, Array.getD_eq_getD_getElem?, List.getElem?_toArray, List.getElem?_cons_succ, List.getElem?_cons_zero, Option.getD_some, and_true, true_and, List.append_toArray, List.nil_append, List.cons_append, List.toList_toArray, Array.toList_append, Option.toArray, List.append_nil] at hA); first | fail | (obtain ⟨hSc, hSf, hSs⟩ := hS.cells; go_simp; exact hK _ (by first | exact Ext.rfl' _ | exact Ext.new _ _ | assumption)))); (try simp only [List.nil_append, List.cons_append]))
              (refine walkI_is (u := ?_) rfl (by simp) rfl ?_ ?_; rotate_left; (focus (intro A w' hS hA K hK; (simp only [List.map_cons, List.map_nil, knows, Is, Op.operands, Call.operands, List.lookup_cons, List.lookup_nil, Nat.reduceBEq, Bool.false_eq_true, if_false, if_true, Act.eval, Array.getD_eq_getD_getElem?, List.getElem?_toArray, List.getElem?_cons_succ, List.getElem?_cons_zero, Option.getD_some, and_true, true_and, List.append_toArray, List.nil_append, List.cons_append, List.toList_toArray, Array.toList_append, Option.toArray, List.append_nil] at hA); first | fail | (obtain ⟨hSc, hSf, hSs⟩ := hS.cells; go_simp; exact hK _ (by first | exact Ext.rfl' _ | exact Ext.new _ _ | assumption)))); (try simp only [List.nil_append, List.cons_append]))
              (refine walkI_is (u := ?_) rfl (by simp) rfl ?_ ?_; rotate_left; (focus (intro A w' hS hA K hK; (simp only [List.map_cons, List.map_nil, knows, Is, Op.operands, Call.operands, List.lookup_cons, List.lookup_nil, Nat.reduceBEq, Bool.false_eq_true, if_false, if_true, Act.eval, Array.getD_eq_getD_getElem?, List.getElem?_toArray, List.getElem?_cons_succ, List.getElem?_cons_zero, Option.getD_some, and_true, true_and, List.append_toArray, List.nil_append, List.cons_append, List.toList_toArray, Array.toList_append, Option.toArray, List.append_nil] at hA); first | fail | (obtain ⟨hSc, hSf, hSs⟩ := hS.cells; go_simp; exact hK _ (by first | exact Ext.rfl' _ | exact Ext.new _ _ | assumption)))); (try simp only [List.nil_append, List.cons_append]))
              (refine walkI_is (u := ?_) rfl (by simp) rfl ?_ ?_; rotate_left; (focus (intro A w' hS hA K hK; (simp only [List.map_cons, List.map_nil, knows, Is, Op.operands, Call.operands, List.lookup_cons, List.lookup_nil, Nat.reduceBEq, Bool.false_eq_true, if_false, if_true, Act.eval, Array.getD_eq_getD_getElem?, List.getElem?_toArray, List.getElem?_cons_succ, List.getElem?_cons_zero, Option.getD_some, and_true, true_and, List.append_toArray, List.nil_append, List.cons_append, List.toList_toArray, Array.toList_append, Option.toArray, List.append_nil] at hA); first | fail | (obtain ⟨hSc, hSf, hSs⟩ := hS.cells; go_simp; exact hK _ (by first | exact Ext.rfl' _ | exact Ext.new _ _ | assumption)))); (try simp only [List.nil_append, List.cons_append]))
              (refine walkI_is (u := ?_) rfl (by simp) rfl ?_ ?_; rotate_left; (focus (intro A w' hS hA K hK; (simp only [List.map_cons, List.map_nil, knows, Is, Op.operands, Call.operands, List.lookup_cons, List.lookup_nil, Nat.reduceBEq, Bool.false_eq_true, if_false, if_true, Act.eval, Array.getD_eq_getD_getElem?, List.getElem?_toArray, List.getElem?_cons_succ, List.getElem?_cons_zero, Option.getD_some, and_true, true_and, List.append_toArray, List.nil_append, List.cons_append, List.toList_toArray, Array.toList_append, Option.toArray, List.append_nil] at hA); first | fail | (obtain ⟨hSc, hSf, hSs⟩ := hS.cells; go_simp; exact hK _ (by first | exact Ext.rfl' _ | exact Ext.new _ _ | assumption)))); (try simp only [List.nil_append, List.cons_append]))
              (refine walkI_yesis (u := ?_) rfl (by simp) rfl rfl rfl ?_ ?_; rotate_left; (focus (intro A w' hS hA K hK; (simp only [List.map_cons, List.map_nil, knows, Is, Op.operands, Call.operands, List.lookup_cons, List.lookup_nil, Nat.reduceBEq, Bool.false_eq_true, if_false, if_true, Act.eval, Array.getD_eq_getD_getElem?, List.getElem?_toArray, List.getElem?_cons_succ, List.getElem?_cons_zero, Option.getD_some, and_true, true_and, List.append_toArray, List.nil_append, List.cons_append, List.toList_toArray, Array.toList_append, Option.toArray, List.append_nil] at hA); first | fail | (obtain ⟨hSc, hSf, hSs⟩ := hS.cells; go_simp; exact hK _ (by first | exact Ext.rfl' _ | exact Ext.new _ _ | assumption)))); (try simp only [List.nil_append, List.cons_append]))
              (refine walkI_yesis (u := ?_) rfl (by simp) rfl rfl rfl ?_ ?_; rotate_left; (focus (intro A w' hS hA K hK; (simp only [List.map_cons, List.map_nil, knows, Is, Op.operands, Call.operands, List.lookup_cons, List.lookup_nil, Nat.reduceBEq, Bool.false_eq_true, if_false, if_true, Act.eval, Array.getD_eq_getD_getElem?, List.getElem?_toArray, List.getElem?_cons_succ, List.getElem?_cons_zero, Option.getD_some, and_true, true_and, List.append_toArray, List.nil_append, List.cons_append, List.toList_toArray, Array.toList_append, Option.toArray, List.append_nil] at hA); first | fail | (obtain ⟨hSc, hSf, hSs⟩ := hS.cells; go_simp; exact hK _ (by first | exact Ext.rfl' _ | exact Ext.new _ _ | assumption)))); (try simp only [List.nil_append, List.cons_append]))
              (refine walkI_yesis (u := ?_) rfl (by simp) rfl rfl rfl ?_ ?_; rotate_left; (focus (intro A w' hS hA K hK; (simp only [List.map_cons, List.map_nil, knows, Is, Op.operands, Call.operands, List.lookup_cons, List.lookup_nil, Nat.reduceBEq, Bool.false_eq_true, if_false, if_true, Act.eval, Array.getD_eq_getD_getElem?, List.getElem?_toArray, List.getElem?_cons_succ, List.getElem?_cons_zero, Option.getD_some, and_true, true_and, List.append_toArray, List.nil_append, List.cons_append, List.toList_toArray, Array.toList_append, Option.toArray, List.append_nil] at hA); first | fail | (obtain ⟨hSc, hSf, hSs⟩ := hS.cells; go_simp; exact hK _ (by first | exact Ext.rfl' _ | exact Ext.new _ _ | assumption)))); (try simp only [List.nil_append, List.cons_append]))
              (refine walkI_yesis (u := ?_) rfl (by simp) rfl rfl rfl ?_ ?_; rotate_left; (focus (intro A w' hS hA K hK; (simp only [List.map_cons, List.map_nil, knows, Is, Op.operands, Call.operands, List.lookup_cons, List.lookup_nil, Nat.reduceBEq, Bool.false_eq_true, if_false, if_true, Act.eval, Array.getD_eq_getD_getElem?, List.getElem?_toArray, List.getElem?_cons_succ, List.getElem?_cons_zero, Option.getD_some, and_true, true_and, List.append_toArray, List.nil_append, List.cons_append, List.toList_toArray, Array.toList_append, Option.toArray, List.append_nil] at hA); first | fail | (obtain ⟨hSc, hSf, hSs⟩ := hS.cells; go_simp; exact hK _ (by first | exact Ext.rfl' _ | exact Ext.new _ _ | assumption)))); (try simp only [List.nil_append, List.cons_append]))
              (refine walkI_yesis (u := ?_) rfl (by simp) rfl rfl rfl ?_ ?_; rotate_left; (focus (intro A w' hS hA K hK; (simp only [List.map_cons, List.map_nil, knows, Is, Op.operands, Call.operands, List.lookup_cons, List.lookup_nil, Nat.reduceBEq, Bool.false_eq_true, if_false, if_true, Act.eval, Array.getD_eq_getD_getElem?, List.getElem?_toArray, List.getElem?_cons_succ, List.getElem?_cons_zero, Option.getD_some, and_true, true_and, List.append_toArray, List.nil_append, List.cons_append, List.toList_toArray, Array.toList_append, Option.toArray, List.append_nil] at hA); first | fail | (obtain ⟨hSc, hSf, hSs⟩ := hS.cells; go_simp; exact hK _ (by first | exact Ext.rfl' _ | exact Ext.new _ _ | assumption)))); (try simp only [List.nil_append, List.cons_append]))
              (refine walkI_yesis (u := ?_) rfl (by simp) rfl rfl rfl ?_ ?_; rotate_left; (focus (intro A w' hS hA K hK; (simp only [List.map_cons, List.map_nil, knows, Is, Op.operands, Call.operands, List.lookup_cons, List.lookup_nil, Nat.reduceBEq, Bool.false_eq_true, if_false, if_true, Act.eval, Array.getD_eq_getD_getElem?, List.getElem?_toArray, List.getElem?_cons_succ, List.getElem?_cons_zero, Option.getD_some, and_true, true_and, List.append_toArray, List.nil_append, List.cons_append, List.toList_toArray, Array.toList_append, Option.toArray, List.append_nil] at hA); first | fail | (obtain ⟨hSc, hSf, hSs⟩ := hS.cells; go_simp; exact hK _ (by first | exact Ext.rfl' _ | exact Ext.new _ _ | assumption)))); (try simp only [List.nil_append, List.cons_append]))
              (refine walkI_is (u := ?_) rfl (by simp) rfl ?_ ?_; rotate_left; (focus (intro A w' hS hA K hK; (simp only [List.map_cons, List.map_nil, knows, Is, Op.operands, Call.operands, List.lookup_cons, List.lookup_nil, Nat.reduceBEq, Bool.false_eq_true, if_false, if_true, Act.eval, Array.getD_eq_getD_getElem?, List.getElem?_toArray, List.getElem?_cons_succ, List.getElem?_cons_zero, Option.getD_some, and_true, true_and, List.append_toArray, List.nil_append, List.cons_append, List.toList_toArray, Array.toList_append, Option.toArray, List.append_nil] at hA); first | fail | (obtain ⟨hSc, hSf, hSs⟩ := hS.cells; go_simp; exact hK _ (by first | exact Ext.rfl' _ | exact Ext.new _ _ | assumption)))); (try simp only [List.nil_append, List.cons_append]))
              (refine walkI_nil ?_; simp only [List.nil_append, List.cons_append, fins, Is, forall_eq, Act.put, List.setIfInBounds_toArray, List.set_cons_zero, List.set_cons_succ])
              intro w6 hx6
              go_wp2_with fail
              go_meet
              case rel => exact ⟨by rw [hxr.out], hx6⟩
          · have hxr : decide (x = r) = false := by simp; intro e; exact hn (by rw [e])
            replace hxr := Lib.hid hxr
            (refine wp_region_I 12 (by kernel_rfl) (by kernel_rfl) ?_; simp only [List.toList_toArray, List.take_succ_cons, List.take_zero, List.drop_succ_cons, List.drop_zero])
            (refine walkI_is (u := ?_) rfl (by simp) rfl ?_ ?_; rotate_left; (focus (intro A w' hS hA K hK; (simp only [List.map_cons, List.map_nil, knows, Is, Op.operands, Call.operands, List.lookup_cons, List.lookup_nil, Nat.reduceBEq, Bool.false_eq_true, if_false, if_true, Act.eval, Array.getD_eq_getD_getElem?, List.getElem?_toArray, List.getElem?_cons_succ, List.getElem?_cons_zero, Option.getD_some, and_true, true_and, List.append_toArray, List.nil_append, List.cons_append, List.toList_toArray, Array.toList_append, Option.toArray, List.append_nil] at hA); first | fail | (obtain ⟨hSc, hSf, hSs⟩ := hS.cells; go_simp; exact hK _ (by first | exact Ext.rfl' _ | exact Ext.new _ _ | assumption)))); (try simp only [List.nil_append, List.cons_append]))
            (refine walkI_is (u := ?_) rfl (by simp) rfl ?_ ?_; rotate_left; (focus (intro A w' hS hA K hK; (simp only [List.map_cons, List.map_nil, knows, Is, Op.operands, Call.operands, List.lookup_cons, List.lookup_nil, Nat.reduceBEq, Bool.false_eq_true, if_false, if_true, Act.eval, Array.getD_eq_getD_getElem?, List.getElem?_toArray, List.getElem?_cons_succ, List.getElem?_cons_zero, Option.getD_some, and_true, true_and, List.append_toArray, List.nil_append, List.cons_append, List.toList_toArray, Array.toList_append, Option.toArray, List.append_nil] at hA); first | fail | (obtain ⟨hSc, hSf, hSs⟩ := hS.cells; go_simp; exact hK _ (by first | exact Ext.rfl' _ | exact Ext.new _ _ | assumption)))); (try simp only [List.nil_append, List.cons_append]))
            (refine walkI_is (u := ?_) rfl (by simp) rfl ?_ ?_; rotate_left; (focus (intro A w' hS hA K hK; (simp only [List.map_cons, List.map_nil, knows, Is, Op.operands, Call.operands, List.lookup_cons, List.lookup_nil, Nat.reduceBEq, Bool.false_eq_true, if_false, if_true, Act.eval, Array.getD_eq_getD_getElem?, List.getElem?_toArray, List.getElem?_cons_succ, List.getElem?_cons_zero, Option.getD_some, and_true, true_and, List.append_toArray, List.nil_append, List.cons_append, List.toList_toArray, Array.toList_append, Option.toArray, List.append_nil] at hA); first | fail | (obtain ⟨hSc, hSf, hSs⟩ := hS.cells; go_simp; exact hK _ (by first | exact Ext.rfl' _ | exact Ext.new _ _ | assumption)))); (try simp only [List.nil_append, List.cons_append]))
            (refine walkI_is (u := ?_) rfl (by simp) rfl ?_ ?_; rotate_left; (focus (intro A w' hS hA K hK; (simp only [List.map_cons, List.map_nil, knows, Is, Op.operands, Call.operands, List.lookup_cons, List.lookup_nil, Nat.reduceBEq, Bool.false_eq_true, if_false, if_true, Act.eval, Array.getD_eq_getD_getElem?, List.getElem?_toArray, List.getElem?_cons_succ, List.getElem?_cons_zero, Option.getD_some, and_true, true_and, List.append_toArray, List.nil_append, List.cons_append, List.toList_toArray, Array.toList_append, Option.toArray, List.append_nil] at hA); first | fail | (obtain ⟨hSc, hSf, hSs⟩ := hS.cells; go_simp; exact hK _ (by first | exact Ext.rfl' _ | exact Ext.new _ _ | assumption)))); (try simp only [List.nil_append, List.cons_append]))
            (refine walkI_is (u := ?_) rfl (by simp) rfl ?_ ?_; rotate_left; (focus (intro A w' hS hA K hK; (simp only [List.map_cons, List.map_nil, knows, Is, Op.operands, Call.operands, List.lookup_cons, List.lookup_nil, Nat.reduceBEq, Bool.false_eq_true, if_false, if_true, Act.eval, Array.getD_eq_getD_getElem?, List.getElem?_toArray, List.getElem?_cons_succ, List.getElem?_cons_zero, Option.getD_some, and_true, true_and, List.append_toArray, List.nil_append, List.cons_append, List.toList_toArray, Array.toList_append, Option.toArray, List.append_nil] at hA); first | fail | (obtain ⟨hSc, hSf, hSs⟩ := hS.cells; go_simp; exact hK _ (by first | exact Ext.rfl' _ | exact Ext.new _ _ | assumption)))); (try simp only [List.nil_append, List.cons_append]))
            (refine walkI_yesis (u := ?_) rfl (by simp) rfl rfl rfl ?_ ?_; rotate_left; (focus (intro A w' hS hA K hK; (simp only [List.map_cons, List.map_nil, knows, Is, Op.operands, Call.operands, List.lookup_cons, List.lookup_nil, Nat.reduceBEq, Bool.false_eq_true, if_false, if_true, Act.eval, Array.getD_eq_getD_getElem?, List.getElem?_toArray, List.getElem?_cons_succ, List.getElem?_cons_zero, Option.getD_some, and_true, true_and, List.append_toArray, List.nil_append, List.cons_append, List.toList_toArray, Array.toList_append, Option.toArray, List.append_nil] at hA); first | fail | (obtain ⟨hSc, hSf, hSs⟩ := hS.cells; go_simp; exact hK _ (by first | exact Ext.rfl' _ | exact Ext.new _ _ | assumption)))); (try simp only [List.nil_append, List.cons_append]))
            (refine walkI_yesis (u := ?_) rfl (by simp) rfl rfl rfl ?_ ?_; rotate_left; (focus (intro A w' hS hA K hK; (simp only [List.map_cons, List.map_nil, knows, Is, Op.operands, Call.operands, List.lookup_cons, List.lookup_nil, Nat.reduceBEq, Bool.false_eq_true, if_false, if_true, Act.eval, Array.getD_eq_getD_getElem?, List.getElem?_toArray, List.getElem?_cons_succ, List.getElem?_cons_zero, Option.getD_some, and_true, true_and, List.append_toArray, List.nil_append, List.cons_append, List.toList_toArray, Array.toList_append, Option.toArray, List.append_nil] at hA); first | fail | (obtain ⟨hSc, hSf, hSs⟩ := hS.cells; go_simp; exact hK _ (by first | exact Ext.rfl' _ | exact Ext.new _ _ | assumption)))); (try simp only [List.nil_append, List.cons_append]))
            (refine walkI_yesis (u := ?_) rfl (by simp) rfl rfl rfl ?_ ?_; rotate_left; (focus (intro A w' hS hA K hK; (simp only [List.map_cons, List.map_nil, knows, Is, Op.operands, Call.operands, List.lookup_cons, List.lookup_nil, Nat.reduceBEq, Bool.false_eq_true, if_false, if_true, Act.eval, Array.getD_eq_getD_getElem?, List.getElem?_toArray, List.getElem?_cons_succ, List.getElem?_cons_zero, Option.getD_some, and_true, true_and, List.append_toArray, List.nil_append, List.cons_append, List.toList_toArray, Array.toList_append, Option.toArray, List.append_nil] at hA); first | fail | (obtain ⟨hSc, hSf, hSs⟩ := hS.cells; go_simp; exact hK _ (by first | exact Ext.rfl' _ | exact Ext.new _ _ | assumption)))); (try simp only [List.nil_append, List.cons_append]))
            (refine walkI_yesis (u := ?_) rfl (by simp) rfl rfl rfl ?_ ?_; rotate_left; (focus (intro A w' hS hA K hK; (simp only [List.map_cons, List.map_nil, knows, Is, Op.operands, Call.operands, List.lookup_cons, List.lookup_nil, Nat.reduceBEq, Bool.false_eq_true, if_false, if_true, Act.eval, Array.getD_eq_getD_getElem?, List.getElem?_toArray, List.getElem?_cons_succ, List.getElem?_cons_zero, Option.getD_some, and_true, true_and, List.append_toArray, List.nil_append, List.cons_append, List.toList_toArray, Array.toList_append, Option.toArray, List.append_nil] at hA); first | fail | (obtain ⟨hSc, hSf, hSs⟩ := hS.cells; go_simp; exact hK _ (by first | exact Ext.rfl' _ | exact Ext.new _ _ | assumption)))); (try simp only [List.nil_append, List.cons_append]))
            (refine walkI_yesis (u := ?_) rfl (by simp) rfl rfl rfl ?_ ?_; rotate_left; (focus (intro A w' hS hA K hK; (simp only [List.map_cons, List.map_nil, knows, Is, Op.operands, Call.operands, List.lookup_cons, List.lookup_nil, Nat.reduceBEq, Bool.false_eq_true, if_false, if_true, Act.eval, Array.getD_eq_getD_getElem?, List.getElem?_toArray, List.getElem?_cons_succ, List.getElem?_cons_zero, Option.getD_some, and_true, true_and, List.append_toArray, List.nil_append, List.cons_append, List.toList_toArray, Array.toList_append, Option.toArray, List.append_nil] at hA); first | fail | (obtain ⟨hSc, hSf, hSs⟩ := hS.cells; go_simp; exact hK _ (by first | exact Ext.rfl' _ | exact Ext.new _ _ | assumption)))); (try simp only [List.nil_append, List.cons_append]))
            (refine walkI_yesis (u := ?_) rfl (by simp) rfl rfl rfl ?_ ?_; rotate_left; (focus (intro A w' hS hA K hK; (simp only [List.map_cons, List.map_nil, knows, Is, Op.operands, Call.operands, List.lookup_cons, List.lookup_nil, Nat.reduceBEq, Bool.false_eq_true, if_false, if_true, Act.eval, Array.getD_eq_getD_getElem?, List.getElem?_toArray, List.getElem?_cons_succ, List.getElem?_cons_zero, Option.getD_some, and_true, true_and, List.append_toArray, List.nil_append, List.cons_append, List.toList_toArray, Array.toList_append, Option.toArray, List.append_nil] at hA); first | fail | (obtain ⟨hSc, hSf, hSs⟩ := hS.cells; go_simp; exact hK _ (by first | exact Ext.rfl' _ | exact Ext.new _ _ | assumption)))); (try simp only [List.nil_append, List.cons_append]))
            (refine walkI_is (u := ?_) rfl (by simp) rfl ?_ ?_; rotate_left; (focus (intro A w' hS hA K hK; (simp only [List.map_cons, List.map_nil, knows, Is, Op.operands, Call.operands, List.lookup_cons, List.lookup_nil, Nat.reduceBEq, Bool.false_eq_true, if_false, if_true, Act.eval, Array.getD_eq_getD_getElem?, List.getElem?_toArray, List.getElem?_cons_succ, List.getElem?_cons_zero, Option.getD_some, and_true, true_and, List.append_toArray, List.nil_append, List.cons_append, List.toList_toArray, Array.toList_append, Option.toArray, List.append_nil] at hA); first | fail | (obtain ⟨hSc, hSf, hSs⟩ := hS.cells; go_simp; exact hK _ (by first | exact Ext.rfl' _ | exact Ext.new _ _ | assumption)))); (try simp only [List.nil_append, List.cons_append]))
            (refine walkI_nil ?_; simp only [List.nil_append, List.cons_append, fins, Is, forall_eq, Act.put, List.setIfInBounds_toArray, List.set_cons_zero, List.set_cons_succ])
            intro w6 hx6
            go_wp2_with fail
            go_meet
            case rel => exact ⟨by rw [hxr.out], hx6⟩
        case rest =>
          obtain ⟨rfl, hx6⟩ := hcut
          obtain ⟨e1, hq1⟩ : ∃ e1, decide (x = r) = e1 := ⟨_, rfl⟩
          rw [hq1]
          replace hO := hO.keep hx6
          replace hxw := hxw.then hx6
          clear r0 r1 f3 z3 c3 g0 g1 gl hx5
          cases e1 with
          | true =>
            have hxr : x = r := by simpa using hq1
            have hres : Hid (putR l r = l) := Lib.hid (by rw [hsp2.out, if_pos hxr, ← hdr.out, List.take_append_drop])
            go_wp2_with fail
            go_ret
            rw [hres.out]
            exact ⟨_, rfl, hxw, hr.mono mono_RatR hxw.ple⟩
          | false =>
            have hxr : x ≠ r := by simpa using hq1
            have hres : Hid (putR l r = l.take k ++ [r] ++ l.drop k) := Lib.hid (by rw [hsp2.out, if_neg hxr, hdr.out]; simp)
            have hkc : decide (k ≤ c) = true := by simp; omega
            have hkc2 : k ≤ c := by omega
            have hck : 0 < c - k := by omega
            obtain ⟨c3, f3⟩ := hO.facts
            have z3 := hO.lt
            have r0 : _ = some (Value.int .i64 r.num) := c3 0
            have r1 : _ = some (Value.int .i64 r.den) := c3 1
            have hsT : SliceRep RatR 2 (ph w) (.slice (some ⟨b, o, none⟩) k c) (l.take k) := hr.takeS k (by rw [hN.out]; omega)
            have hsD : SliceRep RatR 2 (ph w) (.slice (some ⟨b, o + k * 2, none⟩) (N - k) (c - k)) (l.drop k) := by have := hr.dropS k (by rw [hN.out]; omega); exact this
            have hlt1 : (l.take k).length ≤ 100000 := by rw [List.length_take, hN.out]; omega
            have hlt2 : (l.drop k).length ≤ 100000 := by rw [List.length_drop, hN.out]; omega
            generalize l.take k = lt at *
            generalize l.drop k = ld at *
            clear hdr hlk ho hsp2 c3
            go_upto_region 7 with (fail)
            (refine wp_region_I 7 (by kernel_rfl) (by kernel_rfl) ?_; simp only [List.toList_toArray, List.take_succ_cons, List.take_zero, List.drop_succ_cons, List.drop_zero])
            (refine walkI_is (u := ?_) rfl (by simp) rfl ?_ ?_; rotate_left; (focus (intro A w' hS hA K hK; (simp only [List.map_cons, List.map_nil, knows, Is, Op.operands, Call.operands, List.lookup_cons, List.lookup_nil, Nat.reduceBEq, Bool.false_eq_true, if_false, if_true, Act.eval, Array.getD_eq_getD_getElem?, List.getElem?_toArray, List.getElem?_cons_succ, List.getElem?_cons_zero, Option.getD_some, and_true, true_and, List.append_toArray, List.nil_append, List.cons_append, List.toList_toArray, Array.toList_append, Option.toArray, List.append_nil] at hA); first | fail | (obtain ⟨hSc, hSf, hSs⟩ := hS.cells; go_simp; exact hK _ (by first | exact Ext.rfl' _ | exact Ext.new _ _ | assumption)))); (try simp only [List.nil_append, List.cons_append]))
            (refine walkI_is (u := ?_) rfl (by simp) rfl ?_ ?_; rotate_left; (focus (intro A w' hS hA K hK; (simp only [List.map_cons, List.map_nil, knows, Is, Op.operands, Call.operands, List.lookup_cons, List.lookup_nil, Nat.reduceBEq, Bool.false_eq_true, if_false, if_true, Act.eval, Array.getD_eq_getD_getElem?, List.getElem?_toArray, List.getElem?_cons_succ, List.getElem?_cons_zero, Option.getD_some, and_true, true_and, List.append_toArray, List.nil_append, List.cons_append, List.toList_toArray, Array.toList_append, Option.toArray, List.append_nil] at hA); first | fail | (obtain ⟨hSc, hSf, hSs⟩ := hS.cells; go_simp; exact hK _ (by first | exact Ext.rfl' _ | exact Ext.new _ _ | assumption)))); (try simp only [List.nil_append, List.cons_append]))
            (refine walkI_is (u := ?_) rfl (by simp) rfl ?_ ?_; rotate_left; (focus (intro A w' hS hA K hK; (simp only [List.map_cons, List.map_nil, knows, Is, Op.operands, Call.operands, List.lookup_cons, List.lookup_nil, Nat.reduceBEq, Bool.false_eq_true, if_false, if_true, Act.eval, Array.getD_eq_getD_getElem?, List.getElem?_toArray, List.getElem?_cons_succ, List.getElem?_cons_zero, Option.getD_some, and_true, true_and, List.append_toArray, List.nil_append, List.cons_append, List.toList_toArray, Array.toList_append, Option.toArray, List.append_nil] at hA); first | fail | (obtain ⟨hSc, hSf, hSs⟩ := hS.cells; go_simp; exact hK _ (by first | exact Ext.rfl' _ | exact Ext.new _ _ | assumption)))); (try simp only [List.nil_append, List.cons_append]))
            (refine walkI_is (u := ?_) rfl (by simp) rfl ?_ ?_; rotate_left; (focus (intro A w' hS hA K hK; (simp only [List.map_cons, List.map_nil, knows, Is, Op.operands, Call.operands, List.lookup_cons, List.lookup_nil, Nat.reduceBEq, Bool.false_eq_true, if_false, if_true, Act.eval, Array.getD_eq_getD_getElem?, List.getElem?_toArray, List.getElem?_cons_succ, List.getElem?_cons_zero, Option.getD_some, and_true, true_and, List.append_toArray, List.nil_append, List.cons_append, List.toList_toArray, Array.toList_append, Option.toArray, List.append_nil] at hA); first | fail | (obtain ⟨hSc, hSf, hSs⟩ := hS.cells; go_simp; exact hK _ (by first | exact Ext.rfl' _ | exact Ext.new _ _ | assumption)))); (try simp only [List.nil_append, List.cons_append]))
            (refine walkI_step ((fun v w' => OwnS wc.heap.size noH w' RatR 2 40 v lt)) rfl (by simp) rfl ((fun v w w' _ h e => h.keep e)) ?_ ?_; (focus (intro A w' hS hA K hK; (simp only [List.map_cons, List.map_nil, knows, Is, Op.operands, Call.operands, List.lookup_cons, List.lookup_nil, Nat.reduceBEq, Bool.false_eq_true, if_false, if_true, Act.eval, Array.getD_eq_getD_getElem?, List.getElem?_toArray, List.getElem?_cons_succ, List.getElem?_cons_zero, Option.getD_some, and_true, true_and, List.append_toArray, List.nil_append, List.cons_append, List.toList_toArray, Array.toList_append, Option.toArray, List.append_nil] at hA); (refine oper_append_S (E := RatR) (sz := 2) (H := noH) (base := wc.heap.size) (xs := ([] : List Rat2)) (ys := lt) _ _ 51 40 rfl (.agg #[.int .i64 0, .int .i64 0]) 16 Try.underlying51 infoRat rfl (v := .slice none 0 0) (vx := .slice (some ⟨b, o, none⟩) k c) (by simpa [Act.eval] using hA.1) (by simpa [Act.eval] using hA.2) (.inl ⟨rfl, rfl⟩) ((Src.ofRep (w := w') (hsT.mono mono_RatR (hxw.then hS).ple) (PLe.refl _)).free fun _ _ h => h) (noH_le _) hS.size one_RatR (by simp; omega) (by simp; omega) ?_; intro v' w2 h1 h2 h3; exact hK _ _ (Ext.grown (Ext.rfl' _) h2 (fun k hk => by cases hk)) h1))); (try simp only [List.nil_append, List.cons_append]))
            (refine walkI_is (u := ?_) rfl (by simp) rfl ?_ ?_; rotate_left; (focus (intro A w' hS hA K hK; (simp only [List.map_cons, List.map_nil, knows, Is, Op.operands, Call.operands, List.lookup_cons, List.lookup_nil, Nat.reduceBEq, Bool.false_eq_true, if_false, if_true, Act.eval, Array.getD_eq_getD_getElem?, List.getElem?_toArray, List.getElem?_cons_succ, List.getElem?_cons_zero, Option.getD_some, and_true, true_and, List.append_toArray, List.nil_append, List.cons_append, List.toList_toArray, Array.toList_append, Option.toArray, List.append_nil] at hA); first | fail | (obtain ⟨hSc, hSf, hSs⟩ := hS.cells; go_simp; exact hK _ (by first | exact Ext.rfl' _ | exact Ext.new _ _ | assumption)))); (try simp only [List.nil_append, List.cons_append]))
            (refine walkI_step (NewSk wc 1 #[.int .i64 r.num, .int .i64 r.den] 40) rfl (by simp) rfl (stab_NewSk _ _ _ _) ?_ ?_; (focus (intro A w' hS hA K hK; (simp only [List.map_cons, List.map_nil, knows, Is, Op.operands, Call.operands, List.lookup_cons, List.lookup_nil, Nat.reduceBEq, Bool.false_eq_true, if_false, if_true, Act.eval, Array.getD_eq_getD_getElem?, List.getElem?_toArray, List.getElem?_cons_succ, List.getElem?_cons_zero, Option.getD_some, and_true, true_and, List.append_toArray, List.nil_append, List.cons_append, List.toList_toArray, Array.toList_append, Option.toArray, List.append_nil] at hA); (go_simp; exact hK _ _ (Ext.new _ _) ⟨_, rfl, Proofs.Ytmbkefgmiehdiaa.Own.new _ _ _, hS.size⟩))); (try simp only [List.nil_append, List.cons_append]))
            (refine walkI_nil ?_; simp only [List.nil_append, List.cons_append, fins, Is, forall_eq, Act.put, List.setIfInBounds_toArray, List.set_cons_zero, List.set_cons_succ])
            rintro w7 hx7 v hv v1 ⟨gq, rfl, hO2, hgq⟩
            have hS1 := Src.lit1 (H := noH) (E := RatR) (sz := 2) (w := w7) (b := gq) (x := r) (cs := [.int .i64 r.num, .int .i64 r.den]) ⟨rfl, hrI⟩ rfl (fun j => by rw [hO2.facts.1]; simp)
            replace hxw := hxw.then hx7
            have hbase := hx7.size
            clear hO2 hgq r0 r1 f3 z3
            go_wp2_with (at_builtin; refine wpList_append_S (E := RatR) (H := noH) (base := wc.heap.size) (ys := [r]) rfl _ _ 51 40 rfl (.agg #[.int .i64 0, .int .i64 0]) 16 Try.underlying51 infoRat rfl rfl rfl hv hS1 (noH_le _) hbase one_RatR ?c3 ?c4 ?c5)
            case c3 => simp; omega
            case c4 => simp; omega
            case c5 =>
              intro v2 w8 hv2 hg2 hn2
              have hx8 : Ext wc w8 := Ext.grown hx7 hg2 (fun k e => (hv.lt k e).1)
              have hxw8 : Ext w w8 := by
                refine Ext.grown hxw hg2 (fun k e => ?_)
                have h1 := (hv.lt k e).1
                have h2 := hx6.size
                have h3 := hx.size
                have h4 := hx0.size
                have h5 := hx5'.size
                omega
              have hS3 := (Src.ofRep (w := w8) (hsD.mono mono_RatR hxw8.ple) (PLe.refl _)).free (H' := noH) fun _ _ h => h
              have hb8 := hx8.size
              obtain ⟨av, cv, rfl, -⟩ := hv2.form
              clear hv hS1 hg2 hn2
              go_wp2_with (at_builtin; refine wpList_append_S (E := RatR) (H := noH) (base := wc.heap.size) (ys := ld) rfl _ _ 51 40 rfl (.agg #[.int .i64 0, .int .i64 0]) 16 Try.underlying51 infoRat rfl rfl rfl hv2 hS3 (noH_le _) hb8 one_RatR ?d3 ?d4 ?d5)
              case d3 => simp; omega
              case d4 => simp; omega
              case d5 =>
                intro v3 w9 hv3 hg3 hn3
                have hxw9 : Ext w w9 := by
                  refine Ext.grown hxw8 hg3 (fun k e => ?_)
                  have h1 := (hv2.lt k (by simpa using e)).1
                  have h2 := hx6.size
                  have h3 := hx.size
                  have h4 := hx0.size
                  have h5 := hx5'.size
                  omega
                obtain ⟨av3, cv3, rfl, -⟩ := hv3.form
                have hrp := hv3.rep mono_RatR (noH_le _)
                replace hrp := Lib.hid hrp
                clear hv2 hS3 hg3 hn3 hv3
                go_wp2_with fail
                go_ret
                rw [hres.out]
                refine ⟨.slice av3 (lt ++ r :: ld).length cv3, rfl, hxw9, ?_⟩
                simpa using hrp.out
    · have hja : decide (k < N) = false := by simpa using hlt
      obtain rfl : k = N := by omega
      have hall : l.take k = l := List.take_of_length_le (by rw [hN.out]; exact Nat.le_refl _)
      have hdn : l.drop k = [] := List.drop_of_length_le (by rw [hN.out]; exact Nat.le_refl _)
      have hres : Hid (putR l r = l ++ [r]) := Lib.hid (by
        have := putR_split (l := l) (r := r) (k := k) (by rw [hN.out]; exact Nat.le_refl _) ho.out
        rw [hdn, hall] at this
        exact this)
      replace hall := Lib.hid hall
      replace hdn := Lib.hid hdn
      have hll : l.length ≤ 100000 := by rw [hN.out]; exact hN6
      clear c3 hless
      go_wp2_with fail
      (refine wp_region_I 12 (by kernel_rfl) (by kernel_rfl) ?_; simp only [List.toList_toArray, List.take_succ_cons, List.take_zero, List.drop_succ_cons, List.drop_zero])
      (refine walkI_is (u := ?_) rfl (by simp) rfl ?_ ?_; rotate_left; (focus (intro A w' hS hA K hK; (simp only [List.map_cons, List.map_nil, knows, Is, Op.operands, Call.operands, List.lookup_cons, List.lookup_nil, Nat.reduceBEq, Bool.false_eq_true, if_false, if_true, Act.eval, Array.getD_eq_getD_getElem?, List.getElem?_toArray, List.getElem?_cons_succ, List.getElem?_cons_zero, Option.getD_some, and_true, true_and, List.append_toArray, List.nil_append, List.cons_append, List.toList_toArray, Array.toList_append, Option.toArray, List.append_nil] at hA); first | fail | (obtain ⟨hSc, hSf, hSs⟩ := hS.cells; go_simp; exact hK _ (by first | exact Ext.rfl' _ | exact Ext.new _ _ | assumption)))); (try simp only [List.nil_append, List.cons_append]))
      (refine walkI_is (u := ?_) rfl (by simp) rfl ?_ ?_; rotate_left; (focus (intro A w' hS hA K hK; (simp only [List.map_cons, List.map_nil, knows, Is, Op.operands, Call.operands, List.lookup_cons, List.lookup_nil, Nat.reduceBEq, Bool.false_eq_true, if_false, if_true, Act.eval, Array.getD_eq_getD_getElem?, List.getElem?_toArray, List.getElem?_cons_succ, List.getElem?_cons_zero, Option.getD_some, and_true, true_and, List.append_toArray, List.nil_append, List.cons_append, List.toList_toArray, Array.toList_append, Option.toArray, List.append_nil] at hA); first | fail | (obtain ⟨hSc, hSf, hSs⟩ := hS.cells; go_simp; exact hK _ (by first | exact Ext.rfl' _ | exact Ext.new _ _ | assumption)))); (try simp only [List.nil_append, List.cons_append]))
      (refine walkI_is (u := ?_) rfl (by simp) rfl ?_ ?_; rotate_left; (focus (intro A w' hS hA K hK; (simp only [List.map_cons, List.map_nil, knows, Is, Op.operands, Call.operands, List.lookup_cons, List.lookup_nil, Nat.reduceBEq, Bool.false_eq_true, if_false, if_true, Act.eval, Array.getD_eq_getD_getElem?, List.getElem?_toArray, List.getElem?_cons_succ, List.getElem?_cons_zero, Option.getD_some, and_true, true_and, List.append_toArray, List.nil_append, List.cons_append, List.toList_toArray, Array.toList_append, Option.toArray, List.append_nil] at hA); first | fail | (obtain ⟨hSc, hSf, hSs⟩ := hS.cells; go_simp; exact hK _ (by first | exact Ext.rfl' _ | exact Ext.new _ _ | assumption)))); (try simp only [List.nil_append, List.cons_append]))
      (refine walkI_is (u := ?_) rfl (by simp) rfl ?_ ?_; rotate_left; (focus (intro A w' hS hA K hK; (simp only [List.map_cons, List.map_nil, knows, Is, Op.operands, Call.operands, List.lookup_cons, List.lookup_nil, Nat.reduceBEq, Bool.false_eq_true, if_false, if_true, Act.eval, Array.getD_eq_getD_getElem?, List.getElem?_toArray, List.getElem?_cons_succ, List.getElem?_cons_zero, Option.getD_some, and_true, true_and, List.append_toArray, List.nil_append, List.cons_append, List.toList_toArray, Array.toList_append, Option.toArray, List.append_nil] at hA); first | fail | (obtain ⟨hSc, hSf, hSs⟩ := hS.cells; go_simp; exact hK _ (by first | exact Ext.rfl' _ | exact Ext.new _ _ | assumption)))); (try simp only [List.nil_append, List.cons_append]))
      (refine walkI_is (u := ?_) rfl (by simp) rfl ?_ ?_; rotate_left; (focus (intro A w' hS hA K hK; (simp only [List.map_cons, List.map_nil, knows, Is, Op.operands, Call.operands, List.lookup_cons, List.lookup_nil, Nat.reduceBEq, Bool.false_eq_true, if_false, if_true, Act.eval, Array.getD_eq_getD_getElem?, List.getElem?_toArray, List.getElem?_cons_succ, List.getElem?_cons_zero, Option.getD_some, and_true, true_and, List.append_toArray, List.nil_append, List.cons_append, List.toList_toArray, Array.toList_append, Option.toArray, List.append_nil] at hA); first | fail | (obtain ⟨hSc, hSf, hSs⟩ := hS.cells; go_simp; exact hK _ (by first | exact Ext.rfl' _ | exact Ext.new _ _ | assumption)))); (try simp only [List.nil_append, List.cons_append]))
      (refine walkI_no rfl (by simp) rfl rfl rfl ?_ ?_; (focus (simp [undef]; done)); (try simp only [List.nil_append, List.cons_append]))
      (refine walkI_no rfl (by simp) rfl rfl rfl ?_ ?_; (focus (simp [undef]; done)); (try simp only [List.nil_append, List.cons_append]))
      (refine walkI_no rfl (by simp) rfl rfl rfl ?_ ?_; (focus (simp [undef]; done)); (try simp only [List.nil_append, List.cons_append]))
      (refine walkI_no rfl (by simp) rfl rfl rfl ?_ ?_; (focus (simp [undef]; done)); (try simp only [List.nil_append, List.cons_append]))
      (refine walkI_no rfl (by simp) rfl rfl rfl ?_ ?_; (focus (simp [undef]; done)); (try simp only [List.nil_append, List.cons_append]))
      (refine walkI_no rfl (by simp) rfl rfl rfl ?_ ?_; (focus (simp [undef]; done)); (try simp only [List.nil_append, List.cons_append]))
      (refine walkI_is (u := ?_) rfl (by simp) rfl ?_ ?_; rotate_left; (focus (intro A w' hS hA K hK; (simp only [List.map_cons, List.map_nil, knows, Is, Op.operands, Call.operands, List.lookup_cons, List.lookup_nil, Nat.reduceBEq, Bool.false_eq_true, if_false, if_true, Act.eval, Array.getD_eq_getD_getElem?, List.getElem?_toArray, List.getElem?_cons_succ, List.getElem?_cons_zero, Option.getD_some, and_true, true_and, List.append_toArray, List.nil_append, List.cons_append, List.toList_toArray, Array.toList_append, Option.toArray, List.append_nil] at hA); first | fail | (obtain ⟨hSc, hSf, hSs⟩ := hS.cells; go_simp; exact hK _ (by first | exact Ext.rfl' _ | exact Ext.new _ _ | assumption)))); (try simp only [List.nil_append, List.cons_append]))
      (refine walkI_nil ?_; simp only [List.nil_append, List.cons_append, fins, Is, forall_eq, Act.put, List.setIfInBounds_toArray, List.set_cons_zero, List.set_cons_succ])
      intro w5 hx5
      replace hO := hO.keep hx5
      replace hxw := hxw.then hx5
      go_wp2_with fail
      (refine wp_region_I 12 (by kernel_rfl) (by kernel_rfl) ?_; simp only [List.toList_toArray, List.take_succ_cons, List.take_zero, List.drop_succ_cons, List.drop_zero])
      (refine walkI_is (u := ?_) rfl (by simp) rfl ?_ ?_; rotate_left; (focus (intro A w' hS hA K hK; (simp only [List.map_cons, List.map_nil, knows, Is, Op.operands, Call.operands, List.lookup_cons, List.lookup_nil, Nat.reduceBEq, Bool.false_eq_true, if_false, if_true, Act.eval, Array.getD_eq_getD_getElem?, List.getElem?_toArray, List.getElem?_cons_succ, List.getElem?_cons_zero, Option.getD_some, and_true, true_and, List.append_toArray, List.nil_append, List.cons_append, List.toList_toArray, Array.toList_append, Option.toArray, List.append_nil] at hA); first | fail | (obtain ⟨hSc, hSf, hSs⟩ := hS.cells; go_simp; exact hK _ (by first | exact Ext.rfl' _ | exact Ext.new _ _ | assumption)))); (try simp only [List.nil_append, List.cons_append]))
      (refine walkI_is (u := ?_) rfl (by simp) rfl ?_ ?_; rotate_left; (focus (intro A w' hS hA K hK; (simp only [List.map_cons, List.map_nil, knows, Is, Op.operands, Call.operands, List.lookup_cons, List.lookup_nil, Nat.reduceBEq, Bool.false_eq_true, if_false, if_true, Act.eval, Array.getD_eq_getD_getElem?, List.getElem?_toArray, List.getElem?_cons_succ, List.getElem?_cons_zero, Option.getD_some, and_true, true_and, List.append_toArray, List.nil_append, List.cons_append, List.toList_toArray, Array.toList_append, Option.toArray, List.append_nil] at hA); first | fail | (obtain ⟨hSc, hSf, hSs⟩ := hS.cells; go_simp; exact hK _ (by first | exact Ext.rfl' _ | exact Ext.new _ _ | assumption)))); (try simp only [List.nil_append, List.cons_append]))
      (refine walkI_is (u := ?_) rfl (by simp) rfl ?_ ?_; rotate_left; (focus (intro A w' hS hA K hK; (simp only [List.map_cons, List.map_nil, knows, Is, Op.operands, Call.operands, List.lookup_cons, List.lookup_nil, Nat.reduceBEq, Bool.false_eq_true, if_false, if_true, Act.eval, Array.getD_eq_getD_getElem?, List.getElem?_toArray, List.getElem?_cons_succ, List.getElem?_cons_zero, Option.getD_some, and_true, true_and, List.append_toArray, List.nil_append, List.cons_append, List.toList_toArray, Array.toList_append, Option.toArray, List.append_nil] at hA); first | fail | (obtain ⟨hSc, hSf, hSs⟩ := hS.cells; go_simp; exact hK _ (by first | exact Ext.rfl' _ | exact Ext.new _ _ | assumption)))); (try simp only [List.nil_append, List.cons_append]))
      (refine walkI_is (u := ?_) rfl (by simp) rfl ?_ ?_; rotate_left; (focus (intro A w' hS hA K hK; (simp only [List.map_cons, List.map_nil, knows, Is, Op.operands, Call.operands, List.lookup_cons, List.lookup_nil, Nat.reduceBEq, Bool.false_eq_true, if_false, if_true, Act.eval, Array.getD_eq_getD_getElem?, List.getElem?_toArray, List.getElem?_cons_succ, List.getElem?_cons_zero, Option.getD_some, and_true, true_and, List.append_toArray, List.nil_append, List.cons_append, List.toList_toArray, Array.toList_append, Option.toArray, List.append_nil] at hA); first | fail | (obtain ⟨hSc, hSf, hSs⟩ := hS.cells; go_simp; exact hK _ (by first | exact Ext.rfl' _ | exact Ext.new _ _ | assumption)))); (try simp only [List.nil_append, List.cons_append]))
      (refine walkI_is (u := ?_) rfl (by simp) rfl ?_ ?_; rotate_left; (focus (intro A w' hS hA K hK; (simp only [List.map_cons, List.map_nil, knows, Is, Op.operands, Call.operands, List.lookup_cons, List.lookup_nil, Nat.reduceBEq, Bool.false_eq_true, if_false, if_true, Act.eval, Array.getD_eq_getD_getElem?, List.getElem?_toArray, List.getElem?_cons_succ, List.getElem?_cons_zero, Option.getD_some, and_true, true_and, List.append_toArray, List.nil_append, List.cons_append, List.toList_toArray, Array.toList_append, Option.toArray, List.append_nil] at hA); first | fail | (obtain ⟨hSc, hSf, hSs⟩ := hS.cells; go_simp; exact hK _ (by first | exact Ext.rfl' _ | exact Ext.new _ _ | assumption)))); (try simp only [List.nil_append, List.cons_append]))
      (refine walkI_no rfl (by simp) rfl rfl rfl ?_ ?_; (focus (simp [undef]; done)); (try simp only [List.nil_append, List.cons_append]))
      (refine walkI_no rfl (by simp) rfl rfl rfl ?_ ?_; (focus (simp [undef]; done)); (try simp only [List.nil_append, List.cons_append]))
      (refine walkI_no rfl (by simp) rfl rfl rfl ?_ ?_; (focus (simp [undef]; done)); (try simp only [List.nil_append, List.cons_append]))
      (refine walkI_no rfl (by simp) rfl rfl rfl ?_ ?_; (focus (simp [undef]; done)); (try simp only [List.nil_append, List.cons_append]))
      (refine walkI_no rfl (by simp) rfl rfl rfl ?_ ?_; (focus (simp [undef]; done)); (try simp only [List.nil_append, List.cons_append]))
      (refine walkI_no rfl (by simp) rfl rfl rfl ?_ ?_; (focus (simp [undef]; done)); (try simp only [List.nil_append, List.cons_append]))
      (refine walkI_is (u := ?_) rfl (by simp) rfl ?_ ?_; rotate_left; (focus (intro A w' hS hA K hK; (simp only [List.map_cons, List.map_nil, knows, Is, Op.operands, Call.operands, List.lookup_cons, List.lookup_nil, Nat.reduceBEq, Bool.false_eq_true, if_false, if_true, Act.eval, Array.getD_eq_getD_getElem?, List.getElem?_toArray, List.getElem?_cons_succ, List.getElem?_cons_zero, Option.getD_some, and_true, true_and, List.append_toArray, List.nil_append, List.cons_append, List.toList_toArray, Array.toList_append, Option.toArray, List.append_nil] at hA); first | fail | (obtain ⟨hSc, hSf, hSs⟩ := hS.cells; go_simp; exact hK _ (by first | exact Ext.rfl' _ | exact Ext.new _ _ | assumption)))); (try simp only [List.nil_append, List.cons_append]))
      (refine walkI_nil ?_; simp only [List.nil_append, List.cons_append, fins, Is, forall_eq, Act.put, List.setIfInBounds_toArray, List.set_cons_zero, List.set_cons_succ])
      intro w6 hx6
      replace hO := hO.keep hx6
      replace hxw := hxw.then hx6
      clear r0 r1 f3 z3
      obtain ⟨c3, f3⟩ := hO.facts
      have z3 := hO.lt
      have r0 : _ = some (Value.int .i64 r.num) := c3 0
      have r1 : _ = some (Value.int .i64 r.den) := c3 1
      have hkc2 : k ≤ c := by omega
      have hxw0 := hxw
      obtain ⟨wb, hwb⟩ : ∃ n, n = w6.heap.size := ⟨_, rfl⟩
      have hwle : w.heap.size ≤ wb := by rw [hwb]; exact hxw.size
      replace hwb := Lib.hid hwb
      cases a with
      | none =>
        go_wp2_with fail
        (refine wp_region_I 7 (by kernel_rfl) (by kernel_rfl) ?_; simp only [List.toList_toArray, List.take_succ_cons, List.take_zero, List.drop_succ_cons, List.drop_zero])
        (refine walkI_is (u := ?_) rfl (by simp) rfl ?_ ?_; rotate_left; (focus (intro A w' hS hA K hK; (simp only [List.map_cons, List.map_nil, knows, Is, Op.operands, Call.operands, List.lookup_cons, List.lookup_nil, Nat.reduceBEq, Bool.false_eq_true, if_false, if_true, Act.eval, Array.getD_eq_getD_getElem?, List.getElem?_toArray, List.getElem?_cons_succ, List.getElem?_cons_zero, Option.getD_some, and_true, true_and, List.append_toArray, List.nil_append, List.cons_append, List.toList_toArray, Array.toList_append, Option.toArray, List.append_nil] at hA); first | fail | (obtain ⟨hSc, hSf, hSs⟩ := hS.cells; go_simp; exact hK _ (by first | exact Ext.rfl' _ | exact Ext.new _ _ | assumption)))); (try simp only [List.nil_append, List.cons_append]))
        (refine walkI_is (u := ?_) rfl (by simp) rfl ?_ ?_; rotate_left; (focus (intro A w' hS hA K hK; (simp only [List.map_cons, List.map_nil, knows, Is, Op.operands, Call.operands, List.lookup_cons, List.lookup_nil, Nat.reduceBEq, Bool.false_eq_true, if_false, if_true, Act.eval, Array.getD_eq_getD_getElem?, List.getElem?_toArray, List.getElem?_cons_succ, List.getElem?_cons_zero, Option.getD_some, and_true, true_and, List.append_toArray, List.nil_append, List.cons_append, List.toList_toArray, Array.toList_append, Option.toArray, List.append_nil] at hA); first | fail | (obtain ⟨hSc, hSf, hSs⟩ := hS.cells; go_simp; exact hK _ (by first | exact Ext.rfl' _ | exact Ext.new _ _ | assumption)))); (try simp only [List.nil_append, List.cons_append]))
        (refine walkI_is (u := ?_) rfl (by simp) rfl ?_ ?_; rotate_left; (focus (intro A w' hS hA K hK; (simp only [List.map_cons, List.map_nil, knows, Is, Op.operands, Call.operands, List.lookup_cons, List.lookup_nil, Nat.reduceBEq, Bool.false_eq_true, if_false, if_true, Act.eval, Array.getD_eq_getD_getElem?, List.getElem?_toArray, List.getElem?_cons_succ, List.getElem?_cons_zero, Option.getD_some, and_true, true_and, List.append_toArray, List.nil_append, List.cons_append, List.toList_toArray, Array.toList_append, Option.toArray, List.append_nil] at hA); first | fail | (obtain ⟨hSc, hSf, hSs⟩ := hS.cells; go_simp; exact hK _ (by first | exact Ext.rfl' _ | exact Ext.new _ _ | assumption)))); (try simp only [List.nil_append, List.cons_append]))
        (refine walkI_is (u := ?_) rfl (by simp) rfl ?_ ?_; rotate_left; (focus (intro A w' hS hA K hK; (simp only [List.map_cons, List.map_nil, knows, Is, Op.operands, Call.operands, List.lookup_cons, List.lookup_nil, Nat.reduceBEq, Bool.false_eq_true, if_false, if_true, Act.eval, Array.getD_eq_getD_getElem?, List.getElem?_toArray, List.getElem?_cons_succ, List.getElem?_cons_zero, Option.getD_some, and_true, true_and, List.append_toArray, List.nil_append, List.cons_append, List.toList_toArray, Array.toList_append, Option.toArray, List.append_nil] at hA); first | fail | (obtain ⟨hSc, hSf, hSs⟩ := hS.cells; go_simp; exact hK _ (by first | exact Ext.rfl' _ | exact Ext.new _ _ | assumption)))); (try simp only [List.nil_append, List.cons_append]))
        (refine walkI_step ((fun v w' => OwnS wb noH w' RatR 2 40 v l)) rfl (by simp) rfl ((fun v w w' _ h e => h.keep e)) ?_ ?_; (focus (intro A w' hS hA K hK; (simp only [List.map_cons, List.map_nil, knows, Is, Op.operands, Call.operands, List.lookup_cons, List.lookup_nil, Nat.reduceBEq, Bool.false_eq_true, if_false, if_true, Act.eval, Array.getD_eq_getD_getElem?, List.getElem?_toArray, List.getElem?_cons_succ, List.getElem?_cons_zero, Option.getD_some, and_true, true_and, List.append_toArray, List.nil_append, List.cons_append, List.toList_toArray, Array.toList_append, Option.toArray, List.append_nil] at hA); (refine oper_append_S (E := RatR) (sz := 2) (H := noH) (base := wb) (xs := ([] : List Rat2)) (ys := l) _ _ 51 40 rfl (.agg #[.int .i64 0, .int .i64 0]) 16 Try.underlying51 infoRat rfl (v := .slice none 0 0) (vx := .slice none k c) (by simpa [Act.eval] using hA.1) (by simpa [Act.eval] using hA.2) (.inl ⟨rfl, rfl⟩) ((Src.ofRep (w := w') (hr.mono mono_RatR (hxw.then hS).ple) (PLe.refl _)).free fun _ _ h => h) (noH_le _) (by rw [hwb.out]; exact hS.size) one_RatR (by simp; omega) (by simp; omega) ?_; intro v' w2 h1 h2 h3; exact hK _ _ (Ext.grown (Ext.rfl' _) h2 (fun k hk => by cases hk)) h1))); (try simp only [List.nil_append, List.cons_append]))
        (refine walkI_is (u := ?_) rfl (by simp) rfl ?_ ?_; rotate_left; (focus (intro A w' hS hA K hK; (simp only [List.map_cons, List.map_nil, knows, Is, Op.operands, Call.operands, List.lookup_cons, List.lookup_nil, Nat.reduceBEq, Bool.false_eq_true, if_false, if_true, Act.eval, Array.getD_eq_getD_getElem?, List.getElem?_toArray, List.getElem?_cons_succ, List.getElem?_cons_zero, Option.getD_some, and_true, true_and, List.append_toArray, List.nil_append, List.cons_append, List.toList_toArray, Array.toList_append, Option.toArray, List.append_nil] at hA); first | fail | (obtain ⟨hSc, hSf, hSs⟩ := hS.cells; go_simp; exact hK _ (by first | exact Ext.rfl' _ | exact Ext.new _ _ | assumption)))); (try simp only [List.nil_append, List.cons_append]))
        (refine walkI_step (NewSk w6 1 #[.int .i64 r.num, .int .i64 r.den] 40) rfl (by simp) rfl (stab_NewSk _ _ _ _) ?_ ?_; (focus (intro A w' hS hA K hK; (simp only [List.map_cons, List.map_nil, knows, Is, Op.operands, Call.operands, List.lookup_cons, List.lookup_nil, Nat.reduceBEq, Bool.false_eq_true, if_false, if_true, Act.eval, Array.getD_eq_getD_getElem?, List.getElem?_toArray, List.getElem?_cons_succ, List.getElem?_cons_zero, Option.getD_some, and_true, true_and, List.append_toArray, List.nil_append, List.cons_append, List.toList_toArray, Array.toList_append, Option.toArray, List.append_nil] at hA); (go_simp; exact hK _ _ (Ext.new _ _) ⟨_, rfl, Proofs.Ytmbkefgmiehdiaa.Own.new _ _ _, hS.size⟩))); (try simp only [List.nil_append, List.cons_append]))
        (refine walkI_nil ?_; simp only [List.nil_append, List.cons_append, fins, Is, forall_eq, Act.put, List.setIfInBounds_toArray, List.set_cons_zero, List.set_cons_succ])
        rintro w7 hx7 v hv v1 ⟨gq, rfl, hO2, hgq⟩
        have hS1 := Src.lit1 (H := noH) (E := RatR) (sz := 2) (w := w7) (b := gq) (x := r) (cs := [.int .i64 r.num, .int .i64 r.den]) ⟨rfl, hrI⟩ rfl (fun j => by rw [hO2.facts.1]; simp)
        replace hxw := hxw.then hx7
        have hbase : wb ≤ w7.heap.size := by rw [hwb.out]; exact hx7.size
        clear hO2 hgq r0 r1 f3 z3
        go_wp2_with (at_builtin; refine wpList_append_S (E := RatR) (H := noH) (base := wb) (ys := [r]) rfl _ _ 51 40 rfl (.agg #[.int .i64 0, .int .i64 0]) 16 Try.underlying51 infoRat rfl rfl rfl hv hS1 (noH_le _) hbase one_RatR ?x3n ?x4n ?x5n)
        case x3n => simp; omega
        case x4n => simp; omega
        case x5n =>
          intro v2 w8 hv2 hg2 hn2
          have hb8 : wb ≤ w8.heap.size := Nat.le_trans hbase hg2.size
          have hxw8 : Ext w w8 := Ext.grown hxw hg2 (fun k e => Nat.le_trans hwle (hv.lt k e).1)
          obtain ⟨av, cv, rfl, -⟩ := hv2.form
          clear hv hS1 hg2 hn2
          have hs0 : ∀ (ax : Option Addr) (n cx : Nat), n = 0 → Src w8 noH RatR 2 (.slice ax n cx) [] := fun ax n cx h => ⟨ax, cx, by rw [h]; rfl, Nat.zero_le _, .inl rfl⟩
          by_cases hck : c = k
          · subst hck
            go_wp2_with (at_builtin; go_loud (refine wpList_append_S (E := RatR) (H := noH) (base := wb) (ys := []) rfl _ _ 51 40 rfl (.agg #[.int .i64 0, .int .i64 0]) 16 Try.underlying51 infoRat rfl rfl rfl hv2 (hs0 _ _ _ (by omega)) (noH_le _) hb8 one_RatR ?y3n ?y4n ?y5n))
            case y3n => simp; omega
            case y4n => simp; omega
            case y5n =>
              intro v3 w9 hv3 hg3 hn3
              have hxw9 : Ext w w9 := Ext.grown hxw8 hg3 (fun k e => Nat.le_trans hwle (hv2.lt k (by simpa using e)).1)
              obtain ⟨av3, cv3, rfl, -⟩ := hv3.form
              have hrp := hv3.rep mono_RatR (noH_le _)
              replace hrp := Lib.hid hrp
              clear hv2 hg3 hn3 hv3
              go_wp2_with fail
              go_ret
              rw [hres.out]
              refine ⟨.slice av3 (l ++ [r]).length cv3, rfl, hxw9, ?_⟩
              simpa using hrp.out
          · have hck2 : 0 < c - k := by omega
            go_wp2_with (at_builtin; go_loud (refine wpList_append_S (E := RatR) (H := noH) (base := wb) (ys := []) rfl _ _ 51 40 rfl (.agg #[.int .i64 0, .int .i64 0]) 16 Try.underlying51 infoRat rfl rfl rfl hv2 (hs0 _ _ _ (by omega)) (noH_le _) hb8 one_RatR ?z3n ?z4n ?z5n))
            case z3n => simp; omega
            case z4n => simp; omega
            case z5n =>
              intro v3 w9 hv3 hg3 hn3
              have hxw9 : Ext w w9 := Ext.grown hxw8 hg3 (fun k e => Nat.le_trans hwle (hv2.lt k (by simpa using e)).1)
              obtain ⟨av3, cv3, rfl, -⟩ := hv3.form
              have hrp := hv3.rep mono_RatR (noH_le _)
              replace hrp := Lib.hid hrp
              clear hv2 hg3 hn3 hv3
              go_wp2_with fail
              go_ret
              rw [hres.out]
              refine ⟨.slice av3 (l ++ [r]).length cv3, rfl, hxw9, ?_⟩
              simpa using hrp.out
      | some ad =>
        go_wp2_with fail
        (refine wp_region_I 7 (by kernel_rfl) (by kernel_rfl) ?_; simp only [List.toList_toArray, List.take_succ_cons, List.take_zero, List.drop_succ_cons, List.drop_zero])
        (refine walkI_is (u := ?_) rfl (by simp) rfl ?_ ?_; rotate_left; (focus (intro A w' hS hA K hK; (simp only [List.map_cons, List.map_nil, knows, Is, Op.operands, Call.operands, List.lookup_cons, List.lookup_nil, Nat.reduceBEq, Bool.false_eq_true, if_false, if_true, Act.eval, Array.getD_eq_getD_getElem?, List.getElem?_toArray, List.getElem?_cons_succ, List.getElem?_cons_zero, Option.getD_some, and_true, true_and, List.append_toArray, List.nil_append, List.cons_append, List.toList_toArray, Array.toList_append, Option.toArray, List.append_nil] at hA); first | fail | (obtain ⟨hSc, hSf, hSs⟩ := hS.cells; go_simp; exact hK _ (by first | exact Ext.rfl' _ | exact Ext.new _ _ | assumption)))); (try simp only [List.nil_append, List.cons_append]))
        (refine walkI_is (u := ?_) rfl (by simp) rfl ?_ ?_; rotate_left; (focus (intro A w' hS hA K hK; (simp only [List.map_cons, List.map_nil, knows, Is, Op.operands, Call.operands, List.lookup_cons, List.lookup_nil, Nat.reduceBEq, Bool.false_eq_true, if_false, if_true, Act.eval, Array.getD_eq_getD_getElem?, List.getElem?_toArray, List.getElem?_cons_succ, List.getElem?_cons_zero, Option.getD_some, and_true, true_and, List.append_toArray, List.nil_append, List.cons_append, List.toList_toArray, Array.toList_append, Option.toArray, List.append_nil] at hA); first | fail | (obtain ⟨hSc, hSf, hSs⟩ := hS.cells; go_simp; exact hK _ (by first | exact Ext.rfl' _ | exact Ext.new _ _ | assumption)))); (try simp only [List.nil_append, List.cons_append]))
        (refine walkI_is (u := ?_) rfl (by simp) rfl ?_ ?_; rotate_left; (focus (intro A w' hS hA K hK; (simp only [List.map_cons, List.map_nil, knows, Is, Op.operands, Call.operands, List.lookup_cons, List.lookup_nil, Nat.reduceBEq, Bool.false_eq_true, if_false, if_true, Act.eval, Array.getD_eq_getD_getElem?, List.getElem?_toArray, List.getElem?_cons_succ, List.getElem?_cons_zero, Option.getD_some, and_true, true_and, List.append_toArray, List.nil_append, List.cons_append, List.toList_toArray, Array.toList_append, Option.toArray, List.append_nil] at hA); first | fail | (obtain ⟨hSc, hSf, hSs⟩ := hS.cells; go_simp; exact hK _ (by first | exact Ext.rfl' _ | exact Ext.new _ _ | assumption)))); (try simp only [List.nil_append, List.cons_append]))
        (refine walkI_is (u := ?_) rfl (by simp) rfl ?_ ?_; rotate_left; (focus (intro A w' hS hA K hK; (simp only [List.map_cons, List.map_nil, knows, Is, Op.operands, Call.operands, List.lookup_cons, List.lookup_nil, Nat.reduceBEq, Bool.false_eq_true, if_false, if_true, Act.eval, Array.getD_eq_getD_getElem?, List.getElem?_toArray, List.getElem?_cons_succ, List.getElem?_cons_zero, Option.getD_some, and_true, true_and, List.append_toArray, List.nil_append, List.cons_append, List.toList_toArray, Array.toList_append, Option.toArray, List.append_nil] at hA); first | fail | (obtain ⟨hSc, hSf, hSs⟩ := hS.cells; go_simp; exact hK _ (by first | exact Ext.rfl' _ | exact Ext.new _ _ | assumption)))); (try simp only [List.nil_append, List.cons_append]))
        (refine walkI_step ((fun v w' => OwnS wb noH w' RatR 2 40 v l)) rfl (by simp) rfl ((fun v w w' _ h e => h.keep e)) ?_ ?_; (focus (intro A w' hS hA K hK; (simp only [List.map_cons, List.map_nil, knows, Is, Op.operands, Call.operands, List.lookup_cons, List.lookup_nil, Nat.reduceBEq, Bool.false_eq_true, if_false, if_true, Act.eval, Array.getD_eq_getD_getElem?, List.getElem?_toArray, List.getElem?_cons_succ, List.getElem?_cons_zero, Option.getD_some, and_true, true_and, List.append_toArray, List.nil_append, List.cons_append, List.toList_toArray, Array.toList_append, Option.toArray, List.append_nil] at hA); (refine oper_append_S (E := RatR) (sz := 2) (H := noH) (base := wb) (xs := ([] : List Rat2)) (ys := l) _ _ 51 40 rfl (.agg #[.int .i64 0, .int .i64 0]) 16 Try.underlying51 infoRat rfl (v := .slice none 0 0) (vx := .slice (some ad) k c) (by simpa [Act.eval] using hA.1) (by simpa [Act.eval] using hA.2) (.inl ⟨rfl, rfl⟩) ((Src.ofRep (w := w') (hr.mono mono_RatR (hxw.then hS).ple) (PLe.refl _)).free fun _ _ h => h) (noH_le _) (by rw [hwb.out]; exact hS.size) one_RatR (by simp; omega) (by simp; omega) ?_; intro v' w2 h1 h2 h3; exact hK _ _ (Ext.grown (Ext.rfl' _) h2 (fun k hk => by cases hk)) h1))); (try simp only [List.nil_append, List.cons_append]))
        (refine walkI_is (u := ?_) rfl (by simp) rfl ?_ ?_; rotate_left; (focus (intro A w' hS hA K hK; (simp only [List.map_cons, List.map_nil, knows, Is, Op.operands, Call.operands, List.lookup_cons, List.lookup_nil, Nat.reduceBEq, Bool.false_eq_true, if_false, if_true, Act.eval, Array.getD_eq_getD_getElem?, List.getElem?_toArray, List.getElem?_cons_succ, List.getElem?_cons_zero, Option.getD_some, and_true, true_and, List.append_toArray, List.nil_append, List.cons_append, List.toList_toArray, Array.toList_append, Option.toArray, List.append_nil] at hA); first | fail | (obtain ⟨hSc, hSf, hSs⟩ := hS.cells; go_simp; exact hK _ (by first | exact Ext.rfl' _ | exact Ext.new _ _ | assumption)))); (try simp only [List.nil_append, List.cons_append]))
        (refine walkI_step (NewSk w6 1 #[.int .i64 r.num, .int .i64 r.den] 40) rfl (by simp) rfl (stab_NewSk _ _ _ _) ?_ ?_; (focus (intro A w' hS hA K hK; (simp only [List.map_cons, List.map_nil, knows, Is, Op.operands, Call.operands, List.lookup_cons, List.lookup_nil, Nat.reduceBEq, Bool.false_eq_true, if_false, if_true, Act.eval, Array.getD_eq_getD_getElem?, List.getElem?_toArray, List.getElem?_cons_succ, List.getElem?_cons_zero, Option.getD_some, and_true, true_and, List.append_toArray, List.nil_append, List.cons_append, List.toList_toArray, Array.toList_append, Option.toArray, List.append_nil] at hA); (go_simp; exact hK _ _ (Ext.new _ _) ⟨_, rfl, Proofs.Ytmbkefgmiehdiaa.Own.new _ _ _, hS.size⟩))); (try simp only [List.nil_append, List.cons_append]))
        (refine walkI_nil ?_; simp only [List.nil_append, List.cons_append, fins, Is, forall_eq, Act.put, List.setIfInBounds_toArray, List.set_cons_zero, List.set_cons_succ])
        rintro w7 hx7 v hv v1 ⟨gq, rfl, hO2, hgq⟩
        have hS1 := Src.lit1 (H := noH) (E := RatR) (sz := 2) (w := w7) (b := gq) (x := r) (cs := [.int .i64 r.num, .int .i64 r.den]) ⟨rfl, hrI⟩ rfl (fun j => by rw [hO2.facts.1]; simp)
        replace hxw := hxw.then hx7
        have hbase : wb ≤ w7.heap.size := by rw [hwb.out]; exact hx7.size
        clear hO2 hgq r0 r1 f3 z3
        go_wp2_with (at_builtin; refine wpList_append_S (E := RatR) (H := noH) (base := wb) (ys := [r]) rfl _ _ 51 40 rfl (.agg #[.int .i64 0, .int .i64 0]) 16 Try.underlying51 infoRat rfl rfl rfl hv hS1 (noH_le _) hbase one_RatR ?x3s ?x4s ?x5s)
        case x3s => simp; omega
        case x4s => simp; omega
        case x5s =>
          intro v2 w8 hv2 hg2 hn2
          have hb8 : wb ≤ w8.heap.size := Nat.le_trans hbase hg2.size
          have hxw8 : Ext w w8 := Ext.grown hxw hg2 (fun k e => Nat.le_trans hwle (hv.lt k e).1)
          obtain ⟨av, cv, rfl, -⟩ := hv2.form
          clear hv hS1 hg2 hn2
          have hs0 : ∀ (ax : Option Addr) (n cx : Nat), n = 0 → Src w8 noH RatR 2 (.slice ax n cx) [] := fun ax n cx h => ⟨ax, cx, by rw [h]; rfl, Nat.zero_le _, .inl rfl⟩
          by_cases hck : c = k
          · subst hck
            go_wp2_with (at_builtin; go_loud (refine wpList_append_S (E := RatR) (H := noH) (base := wb) (ys := []) rfl _ _ 51 40 rfl (.agg #[.int .i64 0, .int .i64 0]) 16 Try.underlying51 infoRat rfl rfl rfl hv2 (hs0 _ _ _ (by omega)) (noH_le _) hb8 one_RatR ?y3s ?y4s ?y5s))
            case y3s => simp; omega
            case y4s => simp; omega
            case y5s =>
              intro v3 w9 hv3 hg3 hn3
              have hxw9 : Ext w w9 := Ext.grown hxw8 hg3 (fun k e => Nat.le_trans hwle (hv2.lt k (by simpa using e)).1)
              obtain ⟨av3, cv3, rfl, -⟩ := hv3.form
              have hrp := hv3.rep mono_RatR (noH_le _)
              replace hrp := Lib.hid hrp
              clear hv2 hg3 hn3 hv3
              go_wp2_with fail
              go_ret
              rw [hres.out]
              refine ⟨.slice av3 (l ++ [r]).length cv3, rfl, hxw9, ?_⟩
              simpa using hrp.out
          · have hck2 : 0 < c - k := by omega
            go_wp2_with (at_builtin; go_loud (refine wpList_append_S (E := RatR) (H := noH) (base := wb) (ys := []) rfl _ _ 51 40 rfl (.agg #[.int .i64 0, .int .i64 0]) 16 Try.underlying51 infoRat rfl rfl rfl hv2 (hs0 _ _ _ (by omega)) (noH_le _) hb8 one_RatR ?z3s ?z4s ?z5s))
            case z3s => simp; omega
            case z4s => simp; omega
            case z5s =>
              intro v3 w9 hv3 hg3 hn3
              have hxw9 : Ext w w9 := Ext.grown hxw8 hg3 (fun k e => Nat.le_trans hwle (hv2.lt k (by simpa using e)).1)
              obtain ⟨av3, cv3, rfl, -⟩ := hv3.form
              have hrp := hv3.rep mono_RatR (noH_le _)
              replace hrp := Lib.hid hrp
              clear hv2 hg3 hn3 hv3
              go_wp2_with fail
              go_ret
              rw [hres.out]
              refine ⟨.slice av3 (l ++ [r]).length cv3, rfl, hxw9, ?_⟩
              simpa using hrp.out
end Go.Proofs.Ytmbkefgmiehdiaa
