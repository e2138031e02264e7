/- Lemmas for NI, part 8: package formula: comparisons, down to Compare, in worlds that only grow (as slices.SortFunc wants it), and more. -/
import Derived.Deep.CutBlock
import Derived.OwnWalk
import Derived.Laws.EntriesVeiled
import Derived.Test.YtabajghokhfmhaaGreatNI01
import Derived.Test.YtabajghokhfmhaaGreatNI02
import Derived.Test.YtabajghokhfmhaaGreatNI03
import Derived.Test.YtabajghokhfmhaaGreatNI04
import Derived.Test.YtabajghokhfmhaaGreatNI05
import Derived.Test.YtabajghokhfmhaaGreatNI06
set_option linter.unusedSimpArgs false
set_option linter.unusedVariables false
namespace Go.Proofs.YtabajghokhfmhaaGreat
open Go.RowKit Go.Shelf Go.Sort
theorem Gw.drewNx {a b : World} (h : Gw a b) (n : Nat) : Gw a (b.drewN n) := h.then ⟨n, #[], by rw [grow_empty]⟩
theorem Gw.allocx {a b : World} (h : Gw a b) (o : Obj) : Gw a (b.alloc o) := h.then (Gw.new b o)
def RetG (w : World) (v : Value) (e : Ending) (w' : World) : Prop := e = .returned v ∧ Gw w w'
theorem RetG_at {P : Program} {f : FuncId} {args : Array Value} {w : World} {v : Value} {K : Ending → World → Prop} (h : Calls P f args w (RetG w v)) (hK : ∀ w', Gw w w' → K (.returned v) w') : Calls P f args w K :=
  h.mono (by rintro e w' ⟨rfl, h⟩; exact hK w' h)
theorem RetG_V {P : Program} {f : FuncId} {args : Array Value} {w : World} {v : Value} (h : Calls P f args w (RetG w v)) : Calls P f args w (RetV w v) :=
  h.mono (by rintro e w' ⟨rfl, h⟩; exact ⟨rfl, h.ext⟩)
theorem stab_NewSlG {W : World} (W0 : World) (c : Array Value) (T : TypeId) (n : Nat) : Gg.Stable W (NewSl W0 c T n) := fun v w w' _ ⟨g, h1, h2, h3⟩ e => ⟨g, h1, h2.keep e.ext, h3⟩
theorem isNaNTx_g (x : Int) (w : World) : Calls Tryz.prog 204 #[.int .i64 x] w (RetG w (.bool false)) := by
  have h : (x != x) = false := by simp
  go_enter Tryz.func204, Tryz.ntmps204
  go_wp2_with fail
  go_ret
  exact ⟨rfl, (by repeat (first | (with_reducible assumption) | (with_reducible exact Gw.rfl' _) | (with_reducible exact Gw.new _ _) | (with_reducible refine Gw.allocx ?_ _) | (with_reducible refine Gw.drew' ?_) | (with_reducible refine Gw.drewNx ?_ _) | (with_reducible refine Gw.then (b := ?_) ?_ ?_; rotate_left; rotate_left; (with_reducible assumption))))⟩
def cmpJ (a b : Int) : Int := if a < b then -1 else if b < a then 1 else 0
theorem cmpJ_g (a b : Int) (w : World) : Calls Tryz.prog 158 #[.int .i64 a, .int .i64 b] w (RetG w (.int .i64 (cmpJ a b))) := by
  go_enter Tryz.func158, Tryz.ntmps158
  go_wp2_with fail
  refine RetG_at (isNaNTx_g a _) ?_
  intro w1 hx1
  go_wp2_with fail
  refine RetG_at (isNaNTx_g b _) ?_
  intro w2 hx2
  have hx := hx1.then hx2
  by_cases h1 : a < b
  · have b1 : decide (a < b) = true := by simpa using h1
    have hv : Hid (cmpJ a b = -1) := by show _ = _; unfold cmpJ; rw [if_pos h1]
    go_wp2_with fail
    go_ret
    exact ⟨ret_int hv.out.symm, hx⟩
  · have b1 : decide (a < b) = false := by simpa using h1
    by_cases h2 : b < a
    · have b2 : decide (b < a) = true := by simpa using h2
      have hv : Hid (cmpJ a b = 1) := by show _ = _; unfold cmpJ; rw [if_neg h1, if_pos h2]
      go_wp2_with fail
      go_ret
      exact ⟨ret_int hv.out.symm, hx⟩
    · have b2 : decide (b < a) = false := by simpa using h2
      have hv : Hid (cmpJ a b = 0) := by show _ = _; unfold cmpJ; rw [if_neg h1, if_neg h2]
      go_wp2_with fail
      go_ret
      exact ⟨ret_int hv.out.symm, hx⟩
def orJ : List Int → Int
  | [] => 0
  | x :: r => if x ≠ 0 then x else orJ r
theorem orJ_drop {l : List Int} {k : Nat} (h : k < l.length) : orJ (l.drop k) = if l[k] ≠ 0 then l[k] else orJ (l.drop (k + 1)) := by
  rw [List.drop_eq_getElem_cons h, orJ]
set_option maxHeartbeats 1000000 in
theorem orJ_g (l : List Int) (v : Value) (w : World) (hr : IntsR (ph w) v l) : Calls Tryz.prog 208 #[v] w (RetG w (.int .i64 (orJ l))) := by
  obtain ⟨a, c, rfl, hlen, hr⟩ := hr.form
  go_enter Tryz.func208, Tryz.ntmps208
  go_wp2_with fail
  go_loopw [8] (fun i wr => ∃ k : Nat, k ≤ l.length ∧ i = .int .i64 k ∧ Hid (orJ l = orJ (l.drop k)) ∧ wr = w) (fun i _ => l.length - (intOf i).toNat)
  case atStart => exact ⟨0, by omega, rfl, Lib.hid rfl, rfl⟩
  case round =>
    obtain ⟨k, hk, rfl, ho, rfl⟩ := hrel
    by_cases hlt : k < l.length
    · obtain ⟨gb, go, rfl, gc, gi, gl⟩ := IntsR.at hr k hlt
      have hd := orJ_drop hlt
      generalize l[k] = x at *
      have hja : decide (k < l.length) = true := by simpa using hlt
      by_cases h : x = 0
      · have h2 : Hid (orJ l = orJ (l.drop (k + 1))) := by show _ = _; rw [ho.out, hd, if_neg (by simpa using h)]
        subst h
        clear hd ho
        go_wp2_with fail
        go_roundw
        case rel => exact ⟨k + 1, by omega, rfl, h2, trivial⟩
        case measure => simp [intOf]; omega
      · have h2 : Hid (orJ l = x) := by show _ = _; rw [ho.out, hd, if_pos h]
        have hb : (x != 0) = true := by rw [bne_iff_ne]; exact h
        clear hd ho h
        go_wp2_with fail
        go_ret
        exact ⟨ret_int h2.out.symm, Gw.rfl' _⟩
    · obtain rfl : k = l.length := by omega
      have h2 : Hid (orJ l = 0) := by show _ = _; rw [ho.out, List.drop_length]; rfl
      clear ho
      go_wp2_with fail
      go_ret
      exact ⟨ret_int h2.out.symm, Gw.rfl' _⟩
def truthJ (a b : Bool) : Int := if a = b then 0 else if a then 1 else -1
theorem truthJ_g (a b : Bool) (w : World) : Calls Tryz.prog 237 #[.bool a, .bool b] w (RetG w (.int .i64 (truthJ a b))) := by
  have n1 : (true == true) = true := rfl
  have n2 : (true == false) = false := rfl
  have n3 : (false == true) = false := rfl
  have n4 : (false == false) = true := rfl
  cases a <;> cases b
  all_goals
    go_enter Tryz.func237, Tryz.ntmps237
    go_wp2_with fail
    go_ret
    exact ⟨rfl, (by repeat (first | (with_reducible assumption) | (with_reducible exact Gw.rfl' _) | (with_reducible exact Gw.new _ _) | (with_reducible refine Gw.allocx ?_ _) | (with_reducible refine Gw.drew' ?_) | (with_reducible refine Gw.drewNx ?_ _) | (with_reducible refine Gw.then (b := ?_) ?_ ?_; rotate_left; rotate_left; (with_reducible assumption))))⟩
theorem cmpJ_I (a b : Int) : I64 (cmpJ a b) := by
  unfold cmpJ I64
  split
  · omega
  · split <;> omega
theorem ints2 {w : World} {g : Nat} {x y : Int} {T : TypeId} (ho : Own w g #[.int .i64 x, .int .i64 y] T) (hx : I64 x) (hy : I64 y) : IntsR (ph w) (.slice (some ⟨g, 0, none⟩) 2 2) [x, y] := by
  refine ⟨_, 2, rfl, Nat.le_refl _, by simp [maxLen], .inr ⟨g, 0, rfl, ⟨[.int .i64 x], rfl, fun j hj => ?_, rfl, hx⟩, ⟨[.int .i64 y], rfl, fun j hj => ?_, rfl, hy⟩, trivial⟩⟩
  · obtain rfl : j = 0 := by omega
    rw [← cell_ph]
    exact ho.facts.1 0
  · obtain rfl : j = 0 := by omega
    rw [← cell_ph]
    exact ho.facts.1 1
def endsJ (a b : Rat2) : Int := orJ [cmpJ a.num b.num, cmpJ a.den b.den]
set_option maxRecDepth 100000 in
set_option maxHeartbeats 4000000 in
theorem endsJ_g (a b : Rat2) (w : World) : Calls Tryz.prog 238 #[raA a, raA b] w (RetG w (.int .i64 (endsJ a b))) := by
  have o2 : Own ((w.alloc (.cells #[.int .i64 a.num, .int .i64 a.den] 72)).alloc (.cells #[.int .i64 b.num, .int .i64 b.den] 72)) w.heap.size #[.int .i64 a.num, .int .i64 a.den] 72 := oE
  have o3 : Own ((w.alloc (.cells #[.int .i64 a.num, .int .i64 a.den] 72)).alloc (.cells #[.int .i64 b.num, .int .i64 b.den] 72)) (w.heap.size + 1) #[.int .i64 b.num, .int .i64 b.den] 72 := oE
  have hx0 : Gw w ((w.alloc (.cells #[.int .i64 a.num, .int .i64 a.den] 72)).alloc (.cells #[.int .i64 b.num, .int .i64 b.den] 72)) := (by repeat (first | (with_reducible assumption) | (with_reducible exact Gw.rfl' _) | (with_reducible exact Gw.new _ _) | (with_reducible refine Gw.allocx ?_ _) | (with_reducible refine Gw.drew' ?_) | (with_reducible refine Gw.drewNx ?_ _) | (with_reducible refine Gw.then (b := ?_) ?_ ?_; rotate_left; rotate_left; (with_reducible assumption))))
  unfold raA
  go_enter Tryz.func238, Tryz.ntmps238
  go_upto_region 1 with (fail)
  generalize World.alloc _ _ = W at *
  generalize hg3 : w.heap.size + 1 = g3 at *
  generalize hg2 : w.heap.size = g2 at *
  have u0 : W.cell? ⟨g2, 0, none⟩ = some (.int .i64 a.num) := o2.facts.1 0
  have u1 : W.cell? ⟨g2, 1, none⟩ = some (.int .i64 a.den) := o2.facts.1 1
  have v0 : W.cell? ⟨g3, 0, none⟩ = some (.int .i64 b.num) := o3.facts.1 0
  have v1 : W.cell? ⟨g3, 1, none⟩ = some (.int .i64 b.den) := o3.facts.1 1
  have ul := o2.lt
  have vl := o3.lt
  have c1 := Lib.hid (fun W => cmpJ_g a.num b.num W)
  have c2 := Lib.hid (fun W => cmpJ_g a.den b.den W)
  have i1 := cmpJ_I a.num b.num
  have i2 := cmpJ_I a.den b.den
  have hv : Hid (endsJ a b = orJ [cmpJ a.num b.num, cmpJ a.den b.den]) := rfl
  generalize endsJ a b = res at *
  generalize cmpJ a.num b.num = p at *
  generalize cmpJ a.den b.den = q at *
  (refine Gg.wp_region_I 13 (by kernel_rfl) (by kernel_rfl) ?_; simp only [List.toList_toArray, List.take_succ_cons, List.take_zero, List.drop_succ_cons, List.drop_zero])
  iterate 4 (refine Gg.wiA rfl (by simp) rfl ?_; (try simp only [List.nil_append, List.cons_append]))
  (refine Gg.walkI_is (u := ?_) rfl (by simp) rfl ?_ ?_; rotate_left; (focus (intro A w' hS hA K hK; (simp only [List.map_cons, List.map_nil, Gg.knows, Gg.Is, Op.operands, Call.operands, List.lookup_cons, List.lookup_nil, Nat.reduceBEq, Bool.false_eq_true, if_false, if_true, Act.eval, Array.getD_eq_getD_getElem?, List.getElem?_toArray, List.getElem?_cons_succ, List.getElem?_cons_zero, Option.getD_some, and_true, true_and, List.append_toArray, List.nil_append, List.cons_append, List.toList_toArray, Array.toList_append, Option.toArray, List.append_nil] at hA); first | (go_simp; refine (c1.out _).mono ?_; rintro e w9 ⟨rfl, hx9⟩; exact hK _ hx9) | (obtain ⟨hSc, hSf, hSs⟩ := hS.ext.cells; go_simp; exact hK _ (by first | exact Gw.rfl' _ | exact Gw.new _ _ | assumption)))); (try simp only [List.nil_append, List.cons_append]))
  iterate 4 (refine Gg.wiA rfl (by simp) rfl ?_; (try simp only [List.nil_append, List.cons_append]))
  (refine Gg.walkI_is (u := ?_) rfl (by simp) rfl ?_ ?_; rotate_left; (focus (intro A w' hS hA K hK; (simp only [List.map_cons, List.map_nil, Gg.knows, Gg.Is, Op.operands, Call.operands, List.lookup_cons, List.lookup_nil, Nat.reduceBEq, Bool.false_eq_true, if_false, if_true, Act.eval, Array.getD_eq_getD_getElem?, List.getElem?_toArray, List.getElem?_cons_succ, List.getElem?_cons_zero, Option.getD_some, and_true, true_and, List.append_toArray, List.nil_append, List.cons_append, List.toList_toArray, Array.toList_append, Option.toArray, List.append_nil] at hA); first | (go_simp; refine (c2.out _).mono ?_; rintro e w9 ⟨rfl, hx9⟩; exact hK _ hx9) | (obtain ⟨hSc, hSf, hSs⟩ := hS.ext.cells; go_simp; exact hK _ (by first | exact Gw.rfl' _ | exact Gw.new _ _ | assumption)))); (try simp only [List.nil_append, List.cons_append]))
  (refine Gg.walkI_step (NewSl W #[.int .i64 p, .int .i64 q] 3 2) rfl (by simp) rfl (stab_NewSlG _ _ _ _) ?_ ?_; (focus (intro A w' hS hA K hK; (simp only [List.map_cons, List.map_nil, Gg.knows, Gg.Is, Op.operands, Call.operands, List.lookup_cons, List.lookup_nil, Nat.reduceBEq, Bool.false_eq_true, if_false, if_true, Act.eval, Array.getD_eq_getD_getElem?, List.getElem?_toArray, List.getElem?_cons_succ, List.getElem?_cons_zero, Option.getD_some, and_true, true_and, List.append_toArray, List.nil_append, List.cons_append, List.toList_toArray, Array.toList_append, Option.toArray, List.append_nil] at hA); (have hs' := hS.size; go_simp; exact hK _ _ (Gw.new _ _) ⟨_, rfl, Own.new _ _ _, by omega⟩))); (try simp only [List.nil_append, List.cons_append]))
  (refine Gg.walkI_is (u := ?_) rfl (by simp) rfl ?_ ?_; rotate_left; (focus (intro A w' hS hA K hK; (simp only [List.map_cons, List.map_nil, Gg.knows, Gg.Is, Op.operands, Call.operands, List.lookup_cons, List.lookup_nil, Nat.reduceBEq, Bool.false_eq_true, if_false, if_true, Act.eval, Array.getD_eq_getD_getElem?, List.getElem?_toArray, List.getElem?_cons_succ, List.getElem?_cons_zero, Option.getD_some, and_true, true_and, List.append_toArray, List.nil_append, List.cons_append, List.toList_toArray, Array.toList_append, Option.toArray, List.append_nil] at hA); first | (obtain ⟨g, hA1, hA2, -⟩ := hA; go_simp; refine (orJ_g [p, q] _ _ (ints2 hA2 i1 i2)).mono ?_; rintro e w9 ⟨rfl, hx9⟩; rw [← hv.out]; exact hK _ hx9) | (obtain ⟨hSc, hSf, hSs⟩ := hS.ext.cells; go_simp; exact hK _ (by first | exact Gw.rfl' _ | exact Gw.new _ _ | assumption)))); (try simp only [List.nil_append, List.cons_append]))
  (refine Gg.wiA rfl (by simp) rfl ?_; (try simp only [List.nil_append, List.cons_append]))
  (refine Gg.walkI_nil ?_; simp only [List.nil_append, List.cons_append, Gg.fins, Gg.Is, forall_eq, Act.put, List.setIfInBounds_toArray, List.set_cons_zero, List.set_cons_succ])
  rintro w5 hx5 v15 -
  go_wp2_with fail
  go_ret
  exact ⟨rfl, hx0.then hx5⟩
theorem truthJ_I (a b : Bool) : I64 (truthJ a b) := by
  unfold truthJ I64
  split
  · omega
  · split <;> omega
theorem orJ_I : ∀ {l : List Int}, (∀ x ∈ l, I64 x) → I64 (orJ l)
  | [], _ => by simp [orJ, I64]
  | x :: l, h => by
    rw [orJ]
    split
    · exact h x (by simp)
    · exact orJ_I fun y hy => h y (by simp [hy])
theorem endsJ_I (a b : Rat2) : I64 (endsJ a b) := orJ_I fun x hx => by
  simp only [List.mem_cons, List.not_mem_nil, or_false] at hx
  rcases hx with rfl | rfl <;> exact cmpJ_I _ _
theorem rowInts {w : World} {g : Nat} : ∀ (l : List Int) (o : Nat), (∀ j (h : j < l.length), w.cell? ⟨g, o + j, none⟩ = some (.int .i64 l[j]) ∧ I64 l[j]) → RowRep (ph w) IntR 1 g o l
  | [], _, _ => trivial
  | x :: l, o, h => by
    refine ⟨⟨[.int .i64 x], rfl, fun j hj => ?_, rfl, (h 0 (by simp)).2⟩, rowInts l (o + 1) fun j hj => ?_⟩
    · obtain rfl : j = 0 := by omega
      rw [← cell_ph]
      exact (h 0 (by simp)).1
    · have := h (j + 1) (by simpa using hj)
      rw [show o + 1 + j = o + (j + 1) by omega]; exact this
theorem ints6 {w : World} {g : Nat} {x1 x2 x3 x4 x5 x6 : Int} {T : TypeId} (ho : Own w g #[.int .i64 x1, .int .i64 x2, .int .i64 x3, .int .i64 x4, .int .i64 x5, .int .i64 x6] T) (hx : ∀ x ∈ [x1, x2, x3, x4, x5, x6], I64 x) : IntsR (ph w) (.slice (some ⟨g, 0, none⟩) 6 6) [x1, x2, x3, x4, x5, x6] := by
  refine ⟨_, 6, rfl, Nat.le_refl _, by simp [maxLen], .inr ⟨g, 0, rfl, rowInts _ 0 fun j hj => ⟨?_, hx _ (List.getElem_mem hj)⟩⟩⟩
  rw [ho.facts.1]
  rcases j with _ | _ | _ | _ | _ | _ | j <;> first | rfl | (simp at hj; omega)
def itvJ (a b : Itv) : Int := orJ [truthJ a.loI b.loI, truthJ a.loO b.loO, endsJ a.lo b.lo, truthJ a.hiI b.hiI, truthJ a.hiO b.hiO, endsJ a.hi b.hi]
set_option maxRecDepth 100000 in
set_option maxHeartbeats 4000000 in
theorem itvJ_g (a b : Itv) (w : World) : Calls Tryz.prog 210 #[itA a, itA b] w (RetG w (.int .i64 (itvJ a b))) := by
  have o2 : Own ((w.alloc (.cells #[.int .i64 a.lo.num, .int .i64 a.lo.den, .int .i64 a.hi.num, .int .i64 a.hi.den, .bool a.loO, .bool a.hiO, .bool a.loI, .bool a.hiI] 91)).alloc (.cells #[.int .i64 b.lo.num, .int .i64 b.lo.den, .int .i64 b.hi.num, .int .i64 b.hi.den, .bool b.loO, .bool b.hiO, .bool b.loI, .bool b.hiI] 91)) w.heap.size #[.int .i64 a.lo.num, .int .i64 a.lo.den, .int .i64 a.hi.num, .int .i64 a.hi.den, .bool a.loO, .bool a.hiO, .bool a.loI, .bool a.hiI] 91 := oE
  have o3 : Own ((w.alloc (.cells #[.int .i64 a.lo.num, .int .i64 a.lo.den, .int .i64 a.hi.num, .int .i64 a.hi.den, .bool a.loO, .bool a.hiO, .bool a.loI, .bool a.hiI] 91)).alloc (.cells #[.int .i64 b.lo.num, .int .i64 b.lo.den, .int .i64 b.hi.num, .int .i64 b.hi.den, .bool b.loO, .bool b.hiO, .bool b.loI, .bool b.hiI] 91)) (w.heap.size + 1) #[.int .i64 b.lo.num, .int .i64 b.lo.den, .int .i64 b.hi.num, .int .i64 b.hi.den, .bool b.loO, .bool b.hiO, .bool b.loI, .bool b.hiI] 91 := oE
  have hx0 : Gw w ((w.alloc (.cells #[.int .i64 a.lo.num, .int .i64 a.lo.den, .int .i64 a.hi.num, .int .i64 a.hi.den, .bool a.loO, .bool a.hiO, .bool a.loI, .bool a.hiI] 91)).alloc (.cells #[.int .i64 b.lo.num, .int .i64 b.lo.den, .int .i64 b.hi.num, .int .i64 b.hi.den, .bool b.loO, .bool b.hiO, .bool b.loI, .bool b.hiI] 91)) := (by repeat (first | (with_reducible assumption) | (with_reducible exact Gw.rfl' _) | (with_reducible exact Gw.new _ _) | (with_reducible refine Gw.allocx ?_ _) | (with_reducible refine Gw.drew' ?_) | (with_reducible refine Gw.drewNx ?_ _) | (with_reducible refine Gw.then (b := ?_) ?_ ?_; rotate_left; rotate_left; (with_reducible assumption))))
  unfold itA
  go_enter Tryz.func210, Tryz.ntmps210
  go_upto_region 1 with (fail)
  generalize World.alloc _ _ = W at *
  generalize hg3 : w.heap.size + 1 = g3 at *
  generalize hg2 : w.heap.size = g2 at *
  have u0 : W.cell? ⟨g2, 0, none⟩ = some (.int .i64 a.lo.num) := o2.facts.1 0
  have v0 : W.cell? ⟨g3, 0, none⟩ = some (.int .i64 b.lo.num) := o3.facts.1 0
  have u1 : W.cell? ⟨g2, 1, none⟩ = some (.int .i64 a.lo.den) := o2.facts.1 1
  have v1 : W.cell? ⟨g3, 1, none⟩ = some (.int .i64 b.lo.den) := o3.facts.1 1
  have u2 : W.cell? ⟨g2, 2, none⟩ = some (.int .i64 a.hi.num) := o2.facts.1 2
  have v2 : W.cell? ⟨g3, 2, none⟩ = some (.int .i64 b.hi.num) := o3.facts.1 2
  have u3 : W.cell? ⟨g2, 3, none⟩ = some (.int .i64 a.hi.den) := o2.facts.1 3
  have v3 : W.cell? ⟨g3, 3, none⟩ = some (.int .i64 b.hi.den) := o3.facts.1 3
  have u4 : W.cell? ⟨g2, 4, none⟩ = some (.bool a.loO) := o2.facts.1 4
  have v4 : W.cell? ⟨g3, 4, none⟩ = some (.bool b.loO) := o3.facts.1 4
  have u5 : W.cell? ⟨g2, 5, none⟩ = some (.bool a.hiO) := o2.facts.1 5
  have v5 : W.cell? ⟨g3, 5, none⟩ = some (.bool b.hiO) := o3.facts.1 5
  have u6 : W.cell? ⟨g2, 6, none⟩ = some (.bool a.loI) := o2.facts.1 6
  have v6 : W.cell? ⟨g3, 6, none⟩ = some (.bool b.loI) := o3.facts.1 6
  have u7 : W.cell? ⟨g2, 7, none⟩ = some (.bool a.hiI) := o2.facts.1 7
  have v7 : W.cell? ⟨g3, 7, none⟩ = some (.bool b.hiI) := o3.facts.1 7
  have ul := o2.lt
  have vl := o3.lt
  have c0 := Lib.hid (fun W => truthJ_g a.loI b.loI W)
  have c1 := Lib.hid (fun W => truthJ_g a.loO b.loO W)
  have c2 := Lib.hid (fun W => endsJ_g a.lo b.lo W)
  have c3 := Lib.hid (fun W => truthJ_g a.hiI b.hiI W)
  have c4 := Lib.hid (fun W => truthJ_g a.hiO b.hiO W)
  have c5 := Lib.hid (fun W => endsJ_g a.hi b.hi W)
  have i0 := truthJ_I a.loI b.loI
  have i1 := truthJ_I a.loO b.loO
  have i2 := endsJ_I a.lo b.lo
  have i3 := truthJ_I a.hiI b.hiI
  have i4 := truthJ_I a.hiO b.hiO
  have i5 := endsJ_I a.hi b.hi
  unfold raA at c2 c5
  have hv : Hid (itvJ a b = orJ [truthJ a.loI b.loI, truthJ a.loO b.loO, endsJ a.lo b.lo, truthJ a.hiI b.hiI, truthJ a.hiO b.hiO, endsJ a.hi b.hi]) := rfl
  generalize itvJ a b = res at *
  generalize truthJ a.loI b.loI = p at *
  generalize truthJ a.loO b.loO = q at *
  generalize endsJ a.lo b.lo = r at *
  generalize truthJ a.hiI b.hiI = s at *
  generalize truthJ a.hiO b.hiO = u at *
  generalize endsJ a.hi b.hi = v at *
  (refine Gg.wp_region_I 33 (by kernel_rfl) (by kernel_rfl) ?_; simp only [List.toList_toArray, List.take_succ_cons, List.take_zero, List.drop_succ_cons, List.drop_zero])
  iterate 4 (refine Gg.wiA rfl (by simp) rfl ?_; (try simp only [List.nil_append, List.cons_append]))
  (refine Gg.walkI_is (u := ?_) rfl (by simp) rfl ?_ ?_; rotate_left; (focus (intro A w' hS hA K hK; (simp only [List.map_cons, List.map_nil, Gg.knows, Gg.Is, Op.operands, Call.operands, List.lookup_cons, List.lookup_nil, Nat.reduceBEq, Bool.false_eq_true, if_false, if_true, Act.eval, Array.getD_eq_getD_getElem?, List.getElem?_toArray, List.getElem?_cons_succ, List.getElem?_cons_zero, Option.getD_some, and_true, true_and, List.append_toArray, List.nil_append, List.cons_append, List.toList_toArray, Array.toList_append, Option.toArray, List.append_nil] at hA); first | (go_simp; refine (c0.out _).mono ?_; rintro e w9 ⟨rfl, hx9⟩; exact hK _ hx9) | (obtain ⟨hSc, hSf, hSs⟩ := hS.ext.cells; go_simp; exact hK _ (by first | exact Gw.rfl' _ | exact Gw.new _ _ | assumption)))); (try simp only [List.nil_append, List.cons_append]))
  iterate 4 (refine Gg.wiA rfl (by simp) rfl ?_; (try simp only [List.nil_append, List.cons_append]))
  (refine Gg.walkI_is (u := ?_) rfl (by simp) rfl ?_ ?_; rotate_left; (focus (intro A w' hS hA K hK; (simp only [List.map_cons, List.map_nil, Gg.knows, Gg.Is, Op.operands, Call.operands, List.lookup_cons, List.lookup_nil, Nat.reduceBEq, Bool.false_eq_true, if_false, if_true, Act.eval, Array.getD_eq_getD_getElem?, List.getElem?_toArray, List.getElem?_cons_succ, List.getElem?_cons_zero, Option.getD_some, and_true, true_and, List.append_toArray, List.nil_append, List.cons_append, List.toList_toArray, Array.toList_append, Option.toArray, List.append_nil] at hA); first | (go_simp; refine (c1.out _).mono ?_; rintro e w9 ⟨rfl, hx9⟩; exact hK _ hx9) | (obtain ⟨hSc, hSf, hSs⟩ := hS.ext.cells; go_simp; exact hK _ (by first | exact Gw.rfl' _ | exact Gw.new _ _ | assumption)))); (try simp only [List.nil_append, List.cons_append]))
  iterate 4 (refine Gg.wiA rfl (by simp) rfl ?_; (try simp only [List.nil_append, List.cons_append]))
  (refine Gg.walkI_is (u := ?_) rfl (by simp) rfl ?_ ?_; rotate_left; (focus (intro A w' hS hA K hK; (simp only [List.map_cons, List.map_nil, Gg.knows, Gg.Is, Op.operands, Call.operands, List.lookup_cons, List.lookup_nil, Nat.reduceBEq, Bool.false_eq_true, if_false, if_true, Act.eval, Array.getD_eq_getD_getElem?, List.getElem?_toArray, List.getElem?_cons_succ, List.getElem?_cons_zero, Option.getD_some, and_true, true_and, List.append_toArray, List.nil_append, List.cons_append, List.toList_toArray, Array.toList_append, Option.toArray, List.append_nil] at hA); first | (go_simp; refine (c2.out _).mono ?_; rintro e w9 ⟨rfl, hx9⟩; exact hK _ hx9) | (obtain ⟨hSc, hSf, hSs⟩ := hS.ext.cells; go_simp; exact hK _ (by first | exact Gw.rfl' _ | exact Gw.new _ _ | assumption)))); (try simp only [List.nil_append, List.cons_append]))
  iterate 4 (refine Gg.wiA rfl (by simp) rfl ?_; (try simp only [List.nil_append, List.cons_append]))
  (refine Gg.walkI_is (u := ?_) rfl (by simp) rfl ?_ ?_; rotate_left; (focus (intro A w' hS hA K hK; (simp only [List.map_cons, List.map_nil, Gg.knows, Gg.Is, Op.operands, Call.operands, List.lookup_cons, List.lookup_nil, Nat.reduceBEq, Bool.false_eq_true, if_false, if_true, Act.eval, Array.getD_eq_getD_getElem?, List.getElem?_toArray, List.getElem?_cons_succ, List.getElem?_cons_zero, Option.getD_some, and_true, true_and, List.append_toArray, List.nil_append, List.cons_append, List.toList_toArray, Array.toList_append, Option.toArray, List.append_nil] at hA); first | (go_simp; refine (c3.out _).mono ?_; rintro e w9 ⟨rfl, hx9⟩; exact hK _ hx9) | (obtain ⟨hSc, hSf, hSs⟩ := hS.ext.cells; go_simp; exact hK _ (by first | exact Gw.rfl' _ | exact Gw.new _ _ | assumption)))); (try simp only [List.nil_append, List.cons_append]))
  iterate 4 (refine Gg.wiA rfl (by simp) rfl ?_; (try simp only [List.nil_append, List.cons_append]))
  (refine Gg.walkI_is (u := ?_) rfl (by simp) rfl ?_ ?_; rotate_left; (focus (intro A w' hS hA K hK; (simp only [List.map_cons, List.map_nil, Gg.knows, Gg.Is, Op.operands, Call.operands, List.lookup_cons, List.lookup_nil, Nat.reduceBEq, Bool.false_eq_true, if_false, if_true, Act.eval, Array.getD_eq_getD_getElem?, List.getElem?_toArray, List.getElem?_cons_succ, List.getElem?_cons_zero, Option.getD_some, and_true, true_and, List.append_toArray, List.nil_append, List.cons_append, List.toList_toArray, Array.toList_append, Option.toArray, List.append_nil] at hA); first | (go_simp; refine (c4.out _).mono ?_; rintro e w9 ⟨rfl, hx9⟩; exact hK _ hx9) | (obtain ⟨hSc, hSf, hSs⟩ := hS.ext.cells; go_simp; exact hK _ (by first | exact Gw.rfl' _ | exact Gw.new _ _ | assumption)))); (try simp only [List.nil_append, List.cons_append]))
  iterate 4 (refine Gg.wiA rfl (by simp) rfl ?_; (try simp only [List.nil_append, List.cons_append]))
  (refine Gg.walkI_is (u := ?_) rfl (by simp) rfl ?_ ?_; rotate_left; (focus (intro A w' hS hA K hK; (simp only [List.map_cons, List.map_nil, Gg.knows, Gg.Is, Op.operands, Call.operands, List.lookup_cons, List.lookup_nil, Nat.reduceBEq, Bool.false_eq_true, if_false, if_true, Act.eval, Array.getD_eq_getD_getElem?, List.getElem?_toArray, List.getElem?_cons_succ, List.getElem?_cons_zero, Option.getD_some, and_true, true_and, List.append_toArray, List.nil_append, List.cons_append, List.toList_toArray, Array.toList_append, Option.toArray, List.append_nil] at hA); first | (go_simp; refine (c5.out _).mono ?_; rintro e w9 ⟨rfl, hx9⟩; exact hK _ hx9) | (obtain ⟨hSc, hSf, hSs⟩ := hS.ext.cells; go_simp; exact hK _ (by first | exact Gw.rfl' _ | exact Gw.new _ _ | assumption)))); (try simp only [List.nil_append, List.cons_append]))
  (refine Gg.walkI_step (NewSl W #[.int .i64 p, .int .i64 q, .int .i64 r, .int .i64 s, .int .i64 u, .int .i64 v] 3 6) rfl (by simp) rfl (stab_NewSlG _ _ _ _) ?_ ?_; (focus (intro A w' hS hA K hK; (simp only [List.map_cons, List.map_nil, Gg.knows, Gg.Is, Op.operands, Call.operands, List.lookup_cons, List.lookup_nil, Nat.reduceBEq, Bool.false_eq_true, if_false, if_true, Act.eval, Array.getD_eq_getD_getElem?, List.getElem?_toArray, List.getElem?_cons_succ, List.getElem?_cons_zero, Option.getD_some, and_true, true_and, List.append_toArray, List.nil_append, List.cons_append, List.toList_toArray, Array.toList_append, Option.toArray, List.append_nil] at hA); (have hs' := hS.size; go_simp; exact hK _ _ (Gw.new _ _) ⟨_, rfl, Own.new _ _ _, by omega⟩))); (try simp only [List.nil_append, List.cons_append]))
  (refine Gg.walkI_is (u := ?_) rfl (by simp) rfl ?_ ?_; rotate_left; (focus (intro A w' hS hA K hK; (simp only [List.map_cons, List.map_nil, Gg.knows, Gg.Is, Op.operands, Call.operands, List.lookup_cons, List.lookup_nil, Nat.reduceBEq, Bool.false_eq_true, if_false, if_true, Act.eval, Array.getD_eq_getD_getElem?, List.getElem?_toArray, List.getElem?_cons_succ, List.getElem?_cons_zero, Option.getD_some, and_true, true_and, List.append_toArray, List.nil_append, List.cons_append, List.toList_toArray, Array.toList_append, Option.toArray, List.append_nil] at hA); first | (obtain ⟨g, hA1, hA2, -⟩ := hA; go_simp; refine (orJ_g [p, q, r, s, u, v] _ _ (ints6 hA2 (by intro x hx; simp only [List.mem_cons, List.not_mem_nil, or_false] at hx; rcases hx with rfl | rfl | rfl | rfl | rfl | rfl <;> assumption))).mono ?_; rintro e w9 ⟨rfl, hx9⟩; rw [← hv.out]; exact hK _ hx9) | (obtain ⟨hSc, hSf, hSs⟩ := hS.ext.cells; go_simp; exact hK _ (by first | exact Gw.rfl' _ | exact Gw.new _ _ | assumption)))); (try simp only [List.nil_append, List.cons_append]))
  (refine Gg.wiA rfl (by simp) rfl ?_; (try simp only [List.nil_append, List.cons_append]))
  (refine Gg.walkI_nil ?_; simp only [List.nil_append, List.cons_append, Gg.fins, Gg.Is, forall_eq, Act.put, List.setIfInBounds_toArray, List.set_cons_zero, List.set_cons_succ])
  rintro w5 hx5 v35 -
  go_wp2_with fail
  go_ret
  exact ⟨rfl, hx0.then hx5⟩
def lexJ {α : Type} (c : α → α → Int) : List α → List α → Int
  | [], [] => 0
  | [], _ :: _ => -1
  | _ :: _, [] => 1
  | x :: xs, y :: ys => if c x y ≠ 0 then c x y else lexJ c xs ys
theorem lexJ_drop {α : Type} {c : α → α → Int} {l m : List α} {k : Nat} (h1 : k < l.length) (h2 : k < m.length) : lexJ c (l.drop k) (m.drop k) = if c l[k] m[k] ≠ 0 then c l[k] m[k] else lexJ c (l.drop (k + 1)) (m.drop (k + 1)) := by
  rw [List.drop_eq_getElem_cons h1, List.drop_eq_getElem_cons h2, lexJ]
theorem lexJ_gt {α : Type} {c : α → α → Int} {l m : List α} {k : Nat} (h1 : k < l.length) (h2 : m.length ≤ k) : lexJ c (l.drop k) (m.drop k) = 1 := by
  rw [List.drop_eq_getElem_cons h1, List.drop_eq_nil_of_le h2, lexJ]
theorem lexJ_lt {α : Type} {c : α → α → Int} {l m : List α} (h : l.length < m.length) : lexJ c (l.drop l.length) (m.drop l.length) = -1 := by
  rw [List.drop_length, List.drop_eq_getElem_cons h, lexJ]
theorem lexJ_eq {α : Type} {c : α → α → Int} {l m : List α} (h : l.length = m.length) : lexJ c (l.drop l.length) (m.drop l.length) = 0 := by
  rw [List.drop_length, h, List.drop_length, lexJ]
set_option maxRecDepth 100000 in
set_option maxHeartbeats 4000000 in
theorem cmpFuncItv_g (l m : List Itv) (va vb : Value) (w : World) (ha : ItvsR (ph w) va l) (hb : ItvsR (ph w) vb m) : Calls Tryz.prog 236 #[va, vb, .func (.func 210) #[] #[]] w (RetG w (.int .i64 (lexJ itvJ l m))) := by
  obtain ⟨a, c, rfl, hal, ha⟩ := ha.form
  obtain ⟨b, d, rfl, hbl, hb⟩ := hb.form
  have hfn := fun args w => enterFn Tryz.func210 rfl rfl args w
  go_enter Tryz.func236, Tryz.ntmps236
  go_wp2_with fail
  go_loopw [13] (fun i wr => ∃ k : Nat, k ≤ l.length ∧ i = .int .i64 k ∧ Hid (k ≤ m.length ∧ lexJ itvJ l m = lexJ itvJ (l.drop k) (m.drop k)) ∧ Gw w wr) (fun i _ => l.length - (intOf i).toNat)
  case atStart => exact ⟨0, by omega, rfl, Lib.hid ⟨by omega, rfl⟩, Gw.rfl' _⟩
  case round =>
    obtain ⟨k, hk, rfl, ho, hx⟩ := hrel
    have hkm := ho.out.1
    by_cases hlt : k < l.length
    · obtain ⟨kb, ko, rfl, x0, x1, x2, x3, x4, x5, x6, x7, xl, xI⟩ := ItvsR.at (ha.mono mono_ItvR hx.ext.ple) k hlt
      have hd1 : decide (k < l.length) = true := decide_eq_true hlt
      by_cases hm : k < m.length
      · have hd2 : decide (m.length ≤ k) = false := by simp; omega
        obtain ⟨mb, mo, rfl, y0, y1, y2, y3, y4, y5, y6, y7, yl, yI⟩ := ItvsR.at (hb.mono mono_ItvR hx.ext.ple) k hm
        have hdr := Lib.hid (lexJ_drop (c := itvJ) hlt hm)
        have hc := Lib.hid (fun W => itvJ_g l[k] m[k] W)
        generalize l[k] = x at *
        generalize m[k] = y at *
        unfold itA at hc
        by_cases hz : itvJ x y = 0
        · have hv : Hid (lexJ itvJ l m = lexJ itvJ (l.drop (k + 1)) (m.drop (k + 1))) := by show _ = _; rw [ho.out.2, hdr.out, if_neg (by simpa using hz)]
          have n0 : ((0 : Int) != 0) = false := rfl
          rw [hz] at hc
          replace hc := Lib.hid hc
          clear hz hdr
          go_wp2_with fail
          refine RetG_at (hc.out.out _) ?_
          intro w5 hx5
          clear x0 x1 x2 x3 x4 x5 x6 x7 y0 y1 y2 y3 y4 y5 y6 y7 xl yl hc
          go_wp2_with fail
          go_roundw
          case rel => exact ⟨k + 1, by omega, by go_num, Lib.hid ⟨by omega, hv.out⟩, (hx.then (by repeat (first | (with_reducible assumption) | (with_reducible exact Gw.rfl' _) | (with_reducible exact Gw.new _ _) | (with_reducible refine Gw.allocx ?_ _) | (with_reducible refine Gw.drew' ?_) | (with_reducible refine Gw.drewNx ?_ _) | (with_reducible refine Gw.then (b := ?_) ?_ ?_; rotate_left; rotate_left; (with_reducible assumption))))).then hx5⟩
          case measure => simp [intOf]; omega
        · have hv : Hid (lexJ itvJ l m = itvJ x y) := by show _ = _; rw [ho.out.2, hdr.out, if_pos hz]
          have n0 : (itvJ x y != 0) = true := by simpa using hz
          generalize itvJ x y = z at *
          clear hz hdr
          go_wp2_with fail
          refine RetG_at (hc.out _) ?_
          intro w5 hx5
          clear x0 x1 x2 x3 x4 x5 x6 x7 y0 y1 y2 y3 y4 y5 y6 y7 xl yl hc
          go_wp2_with fail
          go_ret
          exact ⟨ret_int hv.out.symm, (hx.then (by repeat (first | (with_reducible assumption) | (with_reducible exact Gw.rfl' _) | (with_reducible exact Gw.new _ _) | (with_reducible refine Gw.allocx ?_ _) | (with_reducible refine Gw.drew' ?_) | (with_reducible refine Gw.drewNx ?_ _) | (with_reducible refine Gw.then (b := ?_) ?_ ?_; rotate_left; rotate_left; (with_reducible assumption))))).then hx5⟩
      · have hd2 : decide (m.length ≤ k) = true := by simp; omega
        have hv : Hid (lexJ itvJ l m = 1) := by show _ = _; rw [ho.out.2, lexJ_gt hlt (by omega)]
        go_wp2_with fail
        go_ret
        exact ⟨ret_int hv.out.symm, hx.then (by repeat (first | (with_reducible assumption) | (with_reducible exact Gw.rfl' _) | (with_reducible exact Gw.new _ _) | (with_reducible refine Gw.allocx ?_ _) | (with_reducible refine Gw.drew' ?_) | (with_reducible refine Gw.drewNx ?_ _) | (with_reducible refine Gw.then (b := ?_) ?_ ?_; rotate_left; rotate_left; (with_reducible assumption))))⟩
    · obtain rfl : k = l.length := by omega
      have hd1 : decide (l.length < l.length) = false := by simp
      by_cases hm : l.length < m.length
      · have hd2 : decide (l.length < m.length) = true := decide_eq_true hm
        have hv : Hid (lexJ itvJ l m = -1) := by show _ = _; rw [ho.out.2, lexJ_lt hm]
        go_wp2_with fail
        go_ret
        exact ⟨ret_int hv.out.symm, hx⟩
      · have hd2 : decide (l.length < m.length) = false := decide_eq_false hm
        have hv : Hid (lexJ itvJ l m = 0) := by show _ = _; rw [ho.out.2, lexJ_eq (by omega)]
        go_wp2_with fail
        go_ret
        exact ⟨ret_int hv.out.symm, hx⟩
theorem lexJ_I {α : Type} {c : α → α → Int} (hc : ∀ x y, I64 (c x y)) : ∀ l m : List α, I64 (lexJ c l m)
  | [], [] => by simp [lexJ, I64]
  | [], _ :: _ => by simp [lexJ, I64]
  | _ :: _, [] => by simp [lexJ, I64]
  | x :: xs, y :: ys => by
    rw [lexJ]
    split
    · exact hc x y
    · exact lexJ_I hc xs ys
theorem itvJ_I (a b : Itv) : I64 (itvJ a b) := orJ_I fun x hx => by
  simp only [List.mem_cons, List.not_mem_nil, or_false] at hx
  rcases hx with rfl | rfl | rfl | rfl | rfl | rfl <;> first | exact truthJ_I _ _ | exact endsJ_I _ _
def itvsJ (l m : List Itv) : Int := orJ [cmpJ l.length m.length, lexJ itvJ l m]
set_option maxHeartbeats 1000000 in
theorem listsItv_g (l m : List Itv) (va vb : Value) (w : World) (ha : ItvsR (ph w) va l) (hb : ItvsR (ph w) vb m) : Calls Tryz.prog 209 #[va, vb, .func (.func 210) #[] #[]] w (RetG w (.int .i64 (itvsJ l m))) := by
  have hc1 := Lib.hid (fun W => cmpJ_g (l.length : Int) (m.length : Int) W)
  have hc2 := Lib.hid (fun W (e : Gw w W) => cmpFuncItv_g l m va vb W (ha.mono mono_ItvR e.ext.ple) (hb.mono mono_ItvR e.ext.ple))
  have i1 := cmpJ_I (l.length : Int) (m.length : Int)
  have i2 := lexJ_I itvJ_I l m
  have hv : Hid (itvsJ l m = orJ [cmpJ l.length m.length, lexJ itvJ l m]) := rfl
  obtain ⟨a, c, rfl, hal, -⟩ := ha.form
  obtain ⟨b, d, rfl, hbl, -⟩ := hb.form
  generalize itvsJ l m = res at *
  generalize cmpJ (l.length : Int) (m.length : Int) = p at *
  generalize lexJ itvJ l m = q at *
  clear ha hb
  go_enter Tryz.func209, Tryz.ntmps209
  go_wp2_with fail
  refine RetG_at (hc1.out _) ?_
  intro w1 hx1
  go_wp2_with fail
  refine RetG_at (hc2.out _ hx1) ?_
  intro w2 hx2
  go_wp2_with fail
  refine RetG_at (orJ_g [p, q] _ _ (ints2 (Proofs.YtabajghokhfmhaaGreat.Own.new _ _ _) i1 i2)) ?_
  intro w3 hx3
  rw [← hv.out]
  go_wp2_with fail
  go_ret
  exact ⟨rfl, ((hx1.then hx2).then (Gw.new _ _)).then hx3⟩
set_option maxRecDepth 100000 in
set_option maxHeartbeats 4000000 in
theorem cmpFuncFm_g (cf : Fm → Fm → Int) (l m : List Fm) (va vb : Value) (w : World) (ha : FmsR (ph w) va l) (hb : FmsR (ph w) vb m)
    (hcf : ∀ x ∈ l, ∀ y cs ds W, Gw w W → FmR (ph W) cs x → FmR (ph W) ds y → Calls Tryz.prog 160 #[.agg cs.toArray, .agg ds.toArray] W (RetG W (.int .i64 (cf x y)))) :
    Calls Tryz.prog 239 #[va, vb, .func (.func 160) #[] #[]] w (RetG w (.int .i64 (lexJ cf l m))) := by
  obtain ⟨a, c, rfl, hal, ha⟩ := ha.form
  obtain ⟨b, d, rfl, hbl, hb⟩ := hb.form
  have HC := Lib.hid hcf; clear hcf
  have hfn := fun args w => enterFn Tryz.func160 rfl rfl args w
  go_enter Tryz.func239, Tryz.ntmps239
  go_wp2_with fail
  go_loopw [13] (fun i wr => ∃ k : Nat, k ≤ l.length ∧ i = .int .i64 k ∧ Hid (k ≤ m.length ∧ lexJ cf l m = lexJ cf (l.drop k) (m.drop k)) ∧ Gw w wr) (fun i _ => l.length - (intOf i).toNat)
  case atStart => exact ⟨0, by omega, rfl, Lib.hid ⟨by omega, rfl⟩, Gw.rfl' _⟩
  case round =>
    obtain ⟨k, hk, rfl, ho, hx⟩ := hrel
    have hkm := ho.out.1
    by_cases hlt : k < l.length
    · obtain ⟨kb, ko, e3, f3, e4, f4, rfl, x0, x1, x2, x3, hE, xl⟩ := FmsR.at (ha.mono mono_FmR hx.ext.ple) k hlt
      have hd1 : decide (k < l.length) = true := decide_eq_true hlt
      by_cases hm : k < m.length
      · have hd2 : decide (m.length ≤ k) = false := by simp; omega
        obtain ⟨mb, mo, g3, h3, g4, h4, rfl, y0, y1, y2, y3, hE2, yl⟩ := FmsR.at (hb.mono mono_FmR hx.ext.ple) k hm
        have hdr := Lib.hid (lexJ_drop (c := cf) hlt hm)
        have hc := fun W (e : Gw wr W) => HC.out l[k] (List.getElem_mem hlt) m[k] _ _ W (hx.then e) (mono_FmR _ _ _ _ e.ext.ple hE) (mono_FmR _ _ _ _ e.ext.ple hE2)
        unfold fmC at hc
        generalize l[k] = x at *
        generalize m[k] = y at *
        by_cases hz : cf x y = 0
        · have hv : Hid (lexJ cf l m = lexJ cf (l.drop (k + 1)) (m.drop (k + 1))) := by show _ = _; rw [ho.out.2, hdr.out, if_neg (by simpa using hz)]
          have n0 : ((0 : Int) != 0) = false := rfl
          rw [hz] at hc
          replace hc := Lib.hid hc
          clear hz hdr hE hE2
          go_wp2_with fail
          refine RetG_at (hc.out _ (by repeat (first | (with_reducible assumption) | (with_reducible exact Gw.rfl' _) | (with_reducible exact Gw.new _ _) | (with_reducible refine Gw.allocx ?_ _) | (with_reducible refine Gw.drew' ?_) | (with_reducible refine Gw.drewNx ?_ _) | (with_reducible refine Gw.then (b := ?_) ?_ ?_; rotate_left; rotate_left; (with_reducible assumption))))) ?_
          intro w5 hx5
          clear x0 x1 x2 x3 y0 y1 y2 y3 xl yl hc
          go_wp2_with fail
          go_roundw
          case rel => exact ⟨k + 1, by omega, by go_num, Lib.hid ⟨by omega, hv.out⟩, (hx.then (by repeat (first | (with_reducible assumption) | (with_reducible exact Gw.rfl' _) | (with_reducible exact Gw.new _ _) | (with_reducible refine Gw.allocx ?_ _) | (with_reducible refine Gw.drew' ?_) | (with_reducible refine Gw.drewNx ?_ _) | (with_reducible refine Gw.then (b := ?_) ?_ ?_; rotate_left; rotate_left; (with_reducible assumption))))).then hx5⟩
          case measure => simp [intOf]; omega
        · have hv : Hid (lexJ cf l m = cf x y) := by show _ = _; rw [ho.out.2, hdr.out, if_pos hz]
          have n0 : (cf x y != 0) = true := by simpa using hz
          generalize cf x y = z at *
          replace hc := Lib.hid hc
          clear hz hdr hE hE2
          go_wp2_with fail
          refine RetG_at (hc.out _ (by repeat (first | (with_reducible assumption) | (with_reducible exact Gw.rfl' _) | (with_reducible exact Gw.new _ _) | (with_reducible refine Gw.allocx ?_ _) | (with_reducible refine Gw.drew' ?_) | (with_reducible refine Gw.drewNx ?_ _) | (with_reducible refine Gw.then (b := ?_) ?_ ?_; rotate_left; rotate_left; (with_reducible assumption))))) ?_
          intro w5 hx5
          clear x0 x1 x2 x3 y0 y1 y2 y3 xl yl hc
          go_wp2_with fail
          go_ret
          exact ⟨ret_int hv.out.symm, (hx.then (by repeat (first | (with_reducible assumption) | (with_reducible exact Gw.rfl' _) | (with_reducible exact Gw.new _ _) | (with_reducible refine Gw.allocx ?_ _) | (with_reducible refine Gw.drew' ?_) | (with_reducible refine Gw.drewNx ?_ _) | (with_reducible refine Gw.then (b := ?_) ?_ ?_; rotate_left; rotate_left; (with_reducible assumption))))).then hx5⟩
      · have hd2 : decide (m.length ≤ k) = true := by simp; omega
        have hv : Hid (lexJ cf l m = 1) := by show _ = _; rw [ho.out.2, lexJ_gt hlt (by omega)]
        go_wp2_with fail
        go_ret
        exact ⟨ret_int hv.out.symm, hx.then (by repeat (first | (with_reducible assumption) | (with_reducible exact Gw.rfl' _) | (with_reducible exact Gw.new _ _) | (with_reducible refine Gw.allocx ?_ _) | (with_reducible refine Gw.drew' ?_) | (with_reducible refine Gw.drewNx ?_ _) | (with_reducible refine Gw.then (b := ?_) ?_ ?_; rotate_left; rotate_left; (with_reducible assumption))))⟩
    · obtain rfl : k = l.length := by omega
      have hd1 : decide (l.length < l.length) = false := by simp
      by_cases hm : l.length < m.length
      · have hd2 : decide (l.length < m.length) = true := decide_eq_true hm
        have hv : Hid (lexJ cf l m = -1) := by show _ = _; rw [ho.out.2, lexJ_lt hm]
        go_wp2_with fail
        go_ret
        exact ⟨ret_int hv.out.symm, hx⟩
      · have hd2 : decide (l.length < m.length) = false := decide_eq_false hm
        have hv : Hid (lexJ cf l m = 0) := by show _ = _; rw [ho.out.2, lexJ_eq (by omega)]
        go_wp2_with fail
        go_ret
        exact ⟨ret_int hv.out.symm, hx⟩
mutual
def fcmpJ : Fm → Fm → Int
  | .mk op n inn kids, b => if orJ [cmpJ op b.op, cmpJ n b.n, itvsJ inn b.inn] ≠ 0 then orJ [cmpJ op b.op, cmpJ n b.n, itvsJ inn b.inn] else orJ [cmpJ kids.length b.kids.length, fcmpsJ kids b.kids]
def fcmpsJ : List Fm → List Fm → Int
  | [], [] => 0
  | [], _ :: _ => -1
  | _ :: _, [] => 1
  | x :: xs, y :: ys => if fcmpJ x y ≠ 0 then fcmpJ x y else fcmpsJ xs ys
end
theorem fcmpsJ_eq : ∀ l m : List Fm, fcmpsJ l m = lexJ fcmpJ l m
  | [], [] => by rw [fcmpsJ, lexJ]
  | [], _ :: _ => by rw [fcmpsJ, lexJ]
  | _ :: _, [] => by rw [fcmpsJ, lexJ]
  | x :: xs, y :: ys => by rw [fcmpsJ, lexJ, fcmpsJ_eq xs ys]
theorem fcmpJ_eq (a b : Fm) : fcmpJ a b = if orJ [cmpJ a.op b.op, cmpJ a.n b.n, itvsJ a.inn b.inn] ≠ 0 then orJ [cmpJ a.op b.op, cmpJ a.n b.n, itvsJ a.inn b.inn] else orJ [cmpJ a.kids.length b.kids.length, lexJ fcmpJ a.kids b.kids] := by
  cases a; rw [fcmpJ, fcmpsJ_eq]; rfl
theorem itvsJ_I (l m : List Itv) : I64 (itvsJ l m) := orJ_I fun x hx => by
  simp only [List.mem_cons, List.not_mem_nil, or_false] at hx
  rcases hx with rfl | rfl
  · exact cmpJ_I _ _
  · exact lexJ_I itvJ_I _ _
theorem ints3 {w : World} {g : Nat} {x1 x2 x3 : Int} {T : TypeId} (ho : Own w g #[.int .i64 x1, .int .i64 x2, .int .i64 x3] T) (h1 : I64 x1) (h2 : I64 x2) (h3 : I64 x3) : IntsR (ph w) (.slice (some ⟨g, 0, none⟩) 3 3) [x1, x2, x3] := by
  refine ⟨_, 3, rfl, Nat.le_refl _, by simp [maxLen], .inr ⟨g, 0, rfl, rowInts _ 0 fun j hj => ?_⟩⟩
  rw [ho.facts.1]
  rcases j with _ | _ | _ | j <;> first | exact ⟨rfl, h1⟩ | exact ⟨rfl, h2⟩ | exact ⟨rfl, h3⟩ | (simp at hj; omega)
theorem fcmpJ_I (a b : Fm) : I64 (fcmpJ a b) := by
  induction a using Fm.ind generalizing b with
  | h a ih =>
    rw [fcmpJ_eq]
    have hl : ∀ (l m : List Fm), (∀ x ∈ l, ∀ y, I64 (fcmpJ x y)) → I64 (lexJ fcmpJ l m) := by
      intro l
      induction l with
      | nil => intro m _; cases m <;> simp [lexJ, I64]
      | cons x xs ihl =>
        intro m h
        cases m with
        | nil => simp [lexJ, I64]
        | cons y ys =>
          rw [lexJ]
          split
          · exact h x (by simp) y
          · exact ihl ys fun z hz => h z (by simp [hz])
    split
    · refine orJ_I fun x hx => ?_
      simp only [List.mem_cons, List.not_mem_nil, or_false] at hx
      rcases hx with rfl | rfl | rfl
      · exact cmpJ_I _ _
      · exact cmpJ_I _ _
      · exact itvsJ_I _ _
    · refine orJ_I fun x hx => ?_
      simp only [List.mem_cons, List.not_mem_nil, or_false] at hx
      rcases hx with rfl | rfl
      · exact cmpJ_I _ _
      · exact hl _ _ fun x hx y => ih x hx y
set_option maxHeartbeats 1000000 in
theorem listsFm_g (l m : List Fm) (va vb : Value) (w : World) (ha : FmsR (ph w) va l) (hb : FmsR (ph w) vb m)
    (hcf : ∀ x ∈ l, ∀ y cs ds W, Gw w W → FmR (ph W) cs x → FmR (ph W) ds y → Calls Tryz.prog 160 #[.agg cs.toArray, .agg ds.toArray] W (RetG W (.int .i64 (fcmpJ x y)))) :
    Calls Tryz.prog 211 #[va, vb, .func (.func 160) #[] #[]] w (RetG w (.int .i64 (orJ [cmpJ l.length m.length, lexJ fcmpJ l m]))) := by
  have hc1 := Lib.hid (fun W => cmpJ_g (l.length : Int) (m.length : Int) W)
  have hc2 := Lib.hid (fun W (e : Gw w W) => cmpFuncFm_g fcmpJ l m va vb W (ha.mono mono_FmR e.ext.ple) (hb.mono mono_FmR e.ext.ple) (fun x hx y cs ds W' e' h1 h2 => hcf x hx y cs ds W' (e.then e') h1 h2))
  have i1 := cmpJ_I (l.length : Int) (m.length : Int)
  have i2 := lexJ_I fcmpJ_I l m
  obtain ⟨a, c, rfl, hal, -⟩ := ha.form
  obtain ⟨b, d, rfl, hbl, -⟩ := hb.form
  have hv : ∃ res, Hid (orJ [cmpJ l.length m.length, lexJ fcmpJ l m] = res) := ⟨_, rfl⟩
  obtain ⟨res, hv⟩ := hv
  rw [hv.out]
  generalize cmpJ (l.length : Int) (m.length : Int) = p at *
  generalize lexJ fcmpJ l m = q at *
  clear ha hb hcf
  go_enter Tryz.func211, Tryz.ntmps211
  go_wp2_with fail
  refine RetG_at (hc1.out _) ?_
  intro w1 hx1
  go_wp2_with fail
  refine RetG_at (hc2.out _ hx1) ?_
  intro w2 hx2
  go_wp2_with fail
  refine RetG_at (orJ_g [p, q] _ _ (ints2 (Proofs.YtabajghokhfmhaaGreat.Own.new _ _ _) i1 i2)) ?_
  intro w3 hx3
  rw [hv.out]
  go_wp2_with fail
  go_ret
  exact ⟨rfl, ((hx1.then hx2).then (Gw.new _ _)).then hx3⟩
set_option maxRecDepth 100000 in
set_option maxHeartbeats 4000000 in
theorem fcmpJ_g (f : Fm) : ∀ (g : Fm) (cs ds : List Value) (w : World), FmR (ph w) cs f → FmR (ph w) ds g → Calls Tryz.prog 160 #[.agg cs.toArray, .agg ds.toArray] w (RetG w (.int .i64 (fcmpJ f g))) := by
  induction f using Fm.ind with
  | h f ih =>
    intro g cs ds w hr hq
    obtain ⟨a3, c3, a4, c4, rfl, -, -, -, -, hfi, hfk⟩ := hr.form
    obtain ⟨b3, d3, b4, d4, rfl, -, -, -, -, hgi, hgk⟩ := hq.form
    unfold fmC at *
    have HI := Lib.hid ih; clear ih hr hq
    have o2 : Own ((w.alloc (.cells #[.int .i64 f.op, .int .i64 f.n, .slice a3 f.inn.length c3, .slice a4 f.kids.length c4] 30)).alloc (.cells #[.int .i64 g.op, .int .i64 g.n, .slice b3 g.inn.length d3, .slice b4 g.kids.length d4] 30)) w.heap.size #[.int .i64 f.op, .int .i64 f.n, .slice a3 f.inn.length c3, .slice a4 f.kids.length c4] 30 := oE
    have o3 : Own ((w.alloc (.cells #[.int .i64 f.op, .int .i64 f.n, .slice a3 f.inn.length c3, .slice a4 f.kids.length c4] 30)).alloc (.cells #[.int .i64 g.op, .int .i64 g.n, .slice b3 g.inn.length d3, .slice b4 g.kids.length d4] 30)) (w.heap.size + 1) #[.int .i64 g.op, .int .i64 g.n, .slice b3 g.inn.length d3, .slice b4 g.kids.length d4] 30 := oE
    have hx0 : Gw w ((w.alloc (.cells #[.int .i64 f.op, .int .i64 f.n, .slice a3 f.inn.length c3, .slice a4 f.kids.length c4] 30)).alloc (.cells #[.int .i64 g.op, .int .i64 g.n, .slice b3 g.inn.length d3, .slice b4 g.kids.length d4] 30)) := (by repeat (first | (with_reducible assumption) | (with_reducible exact Gw.rfl' _) | (with_reducible exact Gw.new _ _) | (with_reducible refine Gw.allocx ?_ _) | (with_reducible refine Gw.drew' ?_) | (with_reducible refine Gw.drewNx ?_ _) | (with_reducible refine Gw.then (b := ?_) ?_ ?_; rotate_left; rotate_left; (with_reducible assumption))))
    go_enter Tryz.func160, Tryz.ntmps160
    go_upto_region 1 with (fail)
    generalize World.alloc _ _ = W at *
    generalize hg3 : w.heap.size + 1 = g3 at *
    generalize hg2 : w.heap.size = g2 at *
    have u0 : W.cell? ⟨g2, 0, none⟩ = some (.int .i64 f.op) := o2.facts.1 0
    have u1 : W.cell? ⟨g2, 1, none⟩ = some (.int .i64 f.n) := o2.facts.1 1
    have u2 : W.cell? ⟨g2, 2, none⟩ = some (.slice a3 f.inn.length c3) := o2.facts.1 2
    have u3 : W.cell? ⟨g2, 3, none⟩ = some (.slice a4 f.kids.length c4) := o2.facts.1 3
    have v0 : W.cell? ⟨g3, 0, none⟩ = some (.int .i64 g.op) := o3.facts.1 0
    have v1 : W.cell? ⟨g3, 1, none⟩ = some (.int .i64 g.n) := o3.facts.1 1
    have v2 : W.cell? ⟨g3, 2, none⟩ = some (.slice b3 g.inn.length d3) := o3.facts.1 2
    have v3 : W.cell? ⟨g3, 3, none⟩ = some (.slice b4 g.kids.length d4) := o3.facts.1 3
    have ul := o2.lt
    have vl := o3.lt
    have k1 := Lib.hid (fun W => cmpJ_g f.op g.op W)
    have k2 := Lib.hid (fun W => cmpJ_g f.n g.n W)
    have k3 := Lib.hid (fun W' (e : Gw W W') => listsItv_g f.inn g.inn _ _ W' (hfi.mono mono_ItvR (hx0.then e).ext.ple) (hgi.mono mono_ItvR (hx0.then e).ext.ple))
    have k4 := Lib.hid (fun W' (e : Gw W W') => listsFm_g f.kids g.kids _ _ W' (hfk.mono mono_FmR (hx0.then e).ext.ple) (hgk.mono mono_FmR (hx0.then e).ext.ple) (fun x hx y cs ds W' _ h1 h2 => HI.out x hx y cs ds W' h1 h2))
    have i1 := cmpJ_I f.op g.op
    have i2 := cmpJ_I f.n g.n
    have i3 := itvsJ_I f.inn g.inn
    have hv := Lib.hid (fcmpJ_eq f g)
    generalize fcmpJ f g = res at *
    generalize orJ [cmpJ f.kids.length g.kids.length, lexJ fcmpJ f.kids g.kids] = last at *
    obtain ⟨z, hz⟩ : ∃ z, orJ [cmpJ f.op g.op, cmpJ f.n g.n, itvsJ f.inn g.inn] = z := ⟨_, rfl⟩
    have hv' : Hid (res = if z ≠ 0 then z else last) := by show _ = _; rw [← hz]; exact hv.out
    generalize cmpJ f.op g.op = p at *
    generalize cmpJ f.n g.n = q at *
    generalize itvsJ f.inn g.inn = r at *
    replace hz := Lib.hid hz
    clear hv o2 o3
    (refine Gg.wp_region_I 18 (by kernel_rfl) (by kernel_rfl) ?_; simp only [List.toList_toArray, List.take_succ_cons, List.take_zero, List.drop_succ_cons, List.drop_zero])
    iterate 4 (refine Gg.wiA rfl (by simp) rfl ?_; (try simp only [List.nil_append, List.cons_append]))
    (refine Gg.walkI_is (u := ?_) rfl (by simp) rfl ?_ ?_; rotate_left; (focus (intro A w' hS hA K hK; (simp only [List.map_cons, List.map_nil, Gg.knows, Gg.Is, Op.operands, Call.operands, List.lookup_cons, List.lookup_nil, Nat.reduceBEq, Bool.false_eq_true, if_false, if_true, Act.eval, Array.getD_eq_getD_getElem?, List.getElem?_toArray, List.getElem?_cons_succ, List.getElem?_cons_zero, Option.getD_some, and_true, true_and, List.append_toArray, List.nil_append, List.cons_append, List.toList_toArray, Array.toList_append, Option.toArray, List.append_nil] at hA); first | (go_simp; refine (k1.out _).mono ?_; rintro e w9 ⟨rfl, hx9⟩; exact hK _ hx9) | (obtain ⟨hSc, hSf, hSs⟩ := hS.ext.cells; go_simp; exact hK _ (by first | exact Gw.rfl' _ | exact Gw.new _ _ | assumption)))); (try simp only [List.nil_append, List.cons_append]))
    iterate 4 (refine Gg.wiA rfl (by simp) rfl ?_; (try simp only [List.nil_append, List.cons_append]))
    (refine Gg.walkI_is (u := ?_) rfl (by simp) rfl ?_ ?_; rotate_left; (focus (intro A w' hS hA K hK; (simp only [List.map_cons, List.map_nil, Gg.knows, Gg.Is, Op.operands, Call.operands, List.lookup_cons, List.lookup_nil, Nat.reduceBEq, Bool.false_eq_true, if_false, if_true, Act.eval, Array.getD_eq_getD_getElem?, List.getElem?_toArray, List.getElem?_cons_succ, List.getElem?_cons_zero, Option.getD_some, and_true, true_and, List.append_toArray, List.nil_append, List.cons_append, List.toList_toArray, Array.toList_append, Option.toArray, List.append_nil] at hA); first | (go_simp; refine (k2.out _).mono ?_; rintro e w9 ⟨rfl, hx9⟩; exact hK _ hx9) | (obtain ⟨hSc, hSf, hSs⟩ := hS.ext.cells; go_simp; exact hK _ (by first | exact Gw.rfl' _ | exact Gw.new _ _ | assumption)))); (try simp only [List.nil_append, List.cons_append]))
    iterate 4 (refine Gg.wiA rfl (by simp) rfl ?_; (try simp only [List.nil_append, List.cons_append]))
    (refine Gg.walkI_is (u := ?_) rfl (by simp) rfl ?_ ?_; rotate_left; (focus (intro A w' hS hA K hK; (simp only [List.map_cons, List.map_nil, Gg.knows, Gg.Is, Op.operands, Call.operands, List.lookup_cons, List.lookup_nil, Nat.reduceBEq, Bool.false_eq_true, if_false, if_true, Act.eval, Array.getD_eq_getD_getElem?, List.getElem?_toArray, List.getElem?_cons_succ, List.getElem?_cons_zero, Option.getD_some, and_true, true_and, List.append_toArray, List.nil_append, List.cons_append, List.toList_toArray, Array.toList_append, Option.toArray, List.append_nil] at hA); first | (go_simp; refine (k3.out _ hS).mono ?_; rintro e w9 ⟨rfl, hx9⟩; exact hK _ hx9) | (obtain ⟨hSc, hSf, hSs⟩ := hS.ext.cells; go_simp; exact hK _ (by first | exact Gw.rfl' _ | exact Gw.new _ _ | assumption)))); (try simp only [List.nil_append, List.cons_append]))
    (refine Gg.walkI_step (NewSl W #[.int .i64 p, .int .i64 q, .int .i64 r] 3 3) rfl (by simp) rfl (stab_NewSlG _ _ _ _) ?_ ?_; (focus (intro A w' hS hA K hK; (simp only [List.map_cons, List.map_nil, Gg.knows, Gg.Is, Op.operands, Call.operands, List.lookup_cons, List.lookup_nil, Nat.reduceBEq, Bool.false_eq_true, if_false, if_true, Act.eval, Array.getD_eq_getD_getElem?, List.getElem?_toArray, List.getElem?_cons_succ, List.getElem?_cons_zero, Option.getD_some, and_true, true_and, List.append_toArray, List.nil_append, List.cons_append, List.toList_toArray, Array.toList_append, Option.toArray, List.append_nil] at hA); (have hs' := hS.size; go_simp; exact hK _ _ (Gw.new _ _) ⟨_, rfl, Own.new _ _ _, by omega⟩))); (try simp only [List.nil_append, List.cons_append]))
    (refine Gg.walkI_is (u := ?_) rfl (by simp) rfl ?_ ?_; rotate_left; (focus (intro A w' hS hA K hK; (simp only [List.map_cons, List.map_nil, Gg.knows, Gg.Is, Op.operands, Call.operands, List.lookup_cons, List.lookup_nil, Nat.reduceBEq, Bool.false_eq_true, if_false, if_true, Act.eval, Array.getD_eq_getD_getElem?, List.getElem?_toArray, List.getElem?_cons_succ, List.getElem?_cons_zero, Option.getD_some, and_true, true_and, List.append_toArray, List.nil_append, List.cons_append, List.toList_toArray, Array.toList_append, Option.toArray, List.append_nil] at hA); first | (obtain ⟨g, hA1, hA2, -⟩ := hA; go_simp; refine (orJ_g [p, q, r] _ _ (ints3 hA2 i1 i2 i3)).mono ?_; rintro e w9 ⟨rfl, hx9⟩; rw [hz.out]; exact hK _ hx9) | (obtain ⟨hSc, hSf, hSs⟩ := hS.ext.cells; go_simp; exact hK _ (by first | exact Gw.rfl' _ | exact Gw.new _ _ | assumption)))); (try simp only [List.nil_append, List.cons_append]))
    (refine Gg.wiA rfl (by simp) rfl ?_; (try simp only [List.nil_append, List.cons_append]))
    (refine Gg.walkI_nil ?_; simp only [List.nil_append, List.cons_append, Gg.fins, Gg.Is, forall_eq, Act.put, List.setIfInBounds_toArray, List.set_cons_zero, List.set_cons_succ])
    rintro w5 hx5 v21 -
    by_cases h0 : z = 0
    · have e0 : Hid (res = last) := by show _ = _; rw [hv'.out, if_neg (by simpa using h0)]
      have n0 : (z != 0) = false := by simpa using h0
      replace u3 := hx5.ext.cell1 u3
      replace v3 := hx5.ext.cell1 v3
      replace ul := cell_lt u3
      replace vl := cell_lt v3
      clear h0 u0 u1 u2 v0 v1 v2 k1 k2 k3
      go_wp2_with fail
      refine RetG_at (k4.out _ hx5) ?_
      intro w6 hx6
      rw [← e0.out]
      go_wp2_with fail
      go_ret
      exact ⟨rfl, (hx0.then hx5).then hx6⟩
    · have e0 : Hid (res = z) := by show _ = _; rw [hv'.out, if_pos h0]
      have n0 : (z != 0) = true := by simpa using h0
      clear h0
      go_wp2_with fail
      go_ret
      exact ⟨ret_int e0.out.symm, hx0.then hx5⟩
theorem fcmpJ_c (f g : Fm) (cs ds : List Value) (w : World) (h1 : FmR (ph w) cs f) (h2 : FmR (ph w) ds g) : Calls Tryz.prog 160 #[.agg cs.toArray, .agg ds.toArray] w (RetV w (.int .i64 (fcmpJ f g))) := RetG_V (fcmpJ_g f g cs ds w h1 h2)
end Go.Proofs.YtabajghokhfmhaaGreat
namespace Go.Proofs.YtabajghokhfmhaaGreat
open Go.RowKit Go.Shelf Go.Lib Go.Sort
set_option linter.unusedSectionVars false
structure NmT (H : PH) where
  f : Nm
  a : Option Addr
  c : Nat
  r : NumR H [.int .i64 f.attr, .slice a f.inn.length c, .bool f.abs] f
def encNm {H : PH} (x : NmT H) : List Value := [.int .i64 x.f.attr, .slice x.a x.f.inn.length x.c, .bool x.f.abs]
instance instNmT (H : PH) : Inhabited (NmT H) := ⟨⟨⟨0, [], false⟩, none, 0, ⟨_, _, rfl, by simp [I64], SliceRep.nil _ _ _⟩⟩⟩
def cmpNT {H : PH} (x y : NmT H) : Int := cmpJ x.f.attr y.f.attr
theorem swoNm (H : PH) : SWO (ltOf (cmpNT (H := H))) where
  irrefl x := by unfold ltOf cmpNT cmpJ; simp
  trans x y z h1 h2 := by
    unfold ltOf cmpNT cmpJ at *
    have h1 := of_decide_eq_true h1
    have h2 := of_decide_eq_true h2
    refine decide_eq_true ?_
    repeat' split at h1
    all_goals repeat' split at h2
    all_goals repeat' split
    all_goals omega
  ntrans x y z h1 h2 := by
    unfold ltOf cmpNT cmpJ at *
    have h1 := of_decide_eq_false h1
    have h2 := of_decide_eq_false h2
    refine decide_eq_false ?_
    repeat' split at h1
    all_goals repeat' split at h2
    all_goals repeat' split
    all_goals omega
def NTR {H : PH} (_ : PH) (cs : List Value) (x : NmT H) : Prop := cs = encNm x
theorem cells_NT {H : PH} : ∀ {xs : List Nm} {c : List Value}, Cells H NumR 3 c xs → ∃ ts : List (NmT H), ts.map NmT.f = xs ∧ Cells H (NTR (H := H)) 3 c ts
  | [], c, h => ⟨[], rfl, h⟩
  | x :: xs, c, h => by
    obtain ⟨cs, rest, rfl, h1, h2, h3⟩ := h
    obtain ⟨ts, e, h4⟩ := cells_NT h3
    obtain ⟨a, q, rfl, h5⟩ := id h2
    exact ⟨(⟨x, a, q, h2⟩ : NmT H) :: ts, by rw [List.map_cons, e], _, rest, rfl, h1, rfl, h4⟩
theorem cells_NF {H : PH} : ∀ {ts : List (NmT H)} {c : List Value}, Cells H (NTR (H := H)) 3 c ts → Cells H NumR 3 c (ts.map NmT.f)
  | [], c, h => h
  | x :: ts, c, h => by
    obtain ⟨cs, rest, rfl, h1, rfl, h3⟩ := h
    exact ⟨_, rest, rfl, h1, x.r, cells_NF h3⟩
theorem one_encNm {H : PH} (x : NmT H) : ∀ v ∈ encNm x, v.oneCell' = true := by
  intro u hu
  simp only [encNm, List.mem_cons, List.not_mem_nil, or_false] at hu
  rcases hu with rfl | rfl | rfl <;> rfl
set_option maxRecDepth 100000 in
theorem byAttr_g (x y : Nm) (a b : Option Addr) (c d : Nat) (w : World) : Calls Tryz.prog 176 #[.agg #[.int .i64 x.attr, .slice a x.inn.length c, .bool x.abs], .agg #[.int .i64 y.attr, .slice b y.inn.length d, .bool y.abs]] w (RetG w (.int .i64 (cmpJ x.attr y.attr))) := by
  go_enter Tryz.func176, Tryz.ntmps176
  go_wp2_with fail
  refine RetG_at (cmpJ_g x.attr y.attr _) ?_
  intro w1 hx1
  go_wp2_with fail
  go_ret
  exact ⟨rfl, (by repeat (first | (with_reducible assumption) | (with_reducible exact Gw.rfl' _) | (with_reducible exact Gw.new _ _) | (with_reducible refine Gw.allocx ?_ _) | (with_reducible refine Gw.drew' ?_) | (with_reducible refine Gw.drewNx ?_ _) | (with_reducible refine Gw.then (b := ?_) ?_ ?_; rotate_left; rotate_left; (with_reducible assumption))))⟩
def SortNP (H : PH) (w : World) (v : Value) (xs : List Nm) (e : Ending) (w' : World) : Prop :=
  e = .returned (.tuple #[]) ∧ ∃ xs', xs'.Perm xs ∧ xs'.Pairwise (fun x y : Nm => x.attr ≤ y.attr) ∧ OwnC H w' NumR 3 106 v xs' ∧ w.grownBy w' v.ownBlock
set_option maxHeartbeats 1000000 in
theorem sortNm_c (H : PH) (v : Value) (xs : List Nm) (w : World) (hl : PLe H (ph w)) (hb : ∀ k, v.ownBlock = some k → H k = none) (hO : OwnC H w NumR 3 106 v xs) (hn : xs.length ≤ 1000000) :
    Calls Tryz.prog 199 #[v, .func (.func 176) #[] #[]] w (SortNP H w v xs) := by
  rcases hO with ⟨rfl, rfl⟩ | ⟨g, cap, cur, rfl, hg, h1, h2, h3, h4⟩
  · have hS := AnyF.slices_SortFunc_none (P := Tryz.prog) (ρ := sSortNm_ren) { sSortNm with } none 0 (.func (.func 176) #[] #[]) w
    change Calls Tryz.prog 199 _ _ _ at hS
    refine hS.mono ?_
    rintro e w' ⟨rfl, rfl⟩
    exact ⟨rfl, [], List.Perm.refl _, List.Pairwise.nil, .inl ⟨rfl, rfl⟩, ⟨rfl, rfl, rfl, Nat.le_refl _, fun _ _ _ => rfl⟩⟩
  · have hgn : H g = none := hb g rfl
    obtain ⟨ts, rfl, h4⟩ := cells_NT h4
    simp only [List.length_map] at *
    have hlt : g < w.heap.size := (Array.getElem?_eq_some_iff.1 hg).1
    have hmul : ts.length * 3 ≤ cap * 3 := Nat.mul_le_mul_right _ h1
    obtain ⟨r1, r2⟩ := cells_flat encNm 3 (fun _ _ h => h) h4
    have hH : HoldsK encNm 3 w g 0 ts.toArray := by
      intro j hj
      rw [size_flatK] at hj
      have hj' : j < ts.length * 3 := by simpa using hj
      rw [Nat.zero_add]
      refine ⟨?_, by simp [World.frozen?, hg]⟩
      rw [show w.cell? ⟨g, j, none⟩ = cur[j]? by simp [World.cell?, hg]]
      have e1 : cur[j]? = (cur.toList.take (ts.length * 3))[j]? := by rw [List.getElem?_take, if_pos hj']; simp
      rw [e1, r1, flatK_eq encNm 3 (fun _ => rfl), id]
      have hl : j < (ts.flatMap encNm).length := by rw [gflat_len encNm 3 (fun _ => rfl)]; exact hj'
      simp
      rw [List.getElem?_eq_getElem hl]; rfl
    have eg : ∀ args w, (callFunc 176 args).run Tryz.prog w = .ok (.enter 176 args) w := enters_of Tryz.func176 (by kernel_rfl) rfl
    have hcon := AnyQ.slices_SortFunc sSortNm 3 Tryz.isAgg106 Tryz.sizeOf106 encNm (fun _ => rfl) (fun x v hv => one_encNm x v (by simpa using hv)) cmpNT (swoNm H) 176 #[] g 0 cap ts.toArray w eg
      (fun m os dk hs x y => byAttr_g x.f y.f x.a y.a x.c y.c _) hH hlt (by simp; omega)
    change Calls Tryz.prog 199 _ _ _ at hcon
    rw [show ts.toArray.size = ts.length by simp] at hcon
    refine hcon.mono ?_
    rintro e w' ⟨rfl, d', n, os, ⟨hp1, -, hp2⟩, hs, rfl⟩
    have hp : d'.toList.Perm ts := by
      have : d'.size = ts.length := by simpa using hp1
      have e2 : (ts.toArray.extract 0 ts.length).toList = ts := by simp
      have e3 : (d'.extract 0 ts.length).toList = d'.toList := by rw [← this]; simp
      rw [e2, e3] at hp2
      exact hp2
    have hd : d'.size = ts.length := by simpa using hp.length_eq
    obtain ⟨o1, o2⟩ := sorted_own (os := os) (n := n) (E := NTR (H := H)) (H := H) encNm 3 (fun _ => rfl) (fun _ _ h => h) hg h1 h2 h3 h4 hp
    refine ⟨rfl, d'.toList.map NmT.f, hp.map _, ?_, ?_, o2⟩
    · rw [List.pairwise_map, List.pairwise_iff_getElem]
      intro i j hi hj hij
      have hj' : j < d'.size := by simpa using hj
      have := hs i j (Nat.zero_le _) hij (by omega)
      rw [getElem!_pos d' j hj', getElem!_pos d' i (by omega)] at this
      have this := of_decide_eq_false this
      unfold cmpNT at this
      simp only [Array.getElem_toList]
      unfold cmpJ at this
      split at this
      · omega
      · omega
    · rcases o1 with ⟨e, -⟩ | ⟨g', cap', cur', e, k1, k2, k3, k4, k5⟩
      · cases e
      · simp only [Value.slice.injEq, Option.some.injEq, Addr.mk.injEq, true_and, and_true] at e
        obtain ⟨rfl, e2, rfl⟩ := e
        refine .inr ⟨g, cap, cur', ?_, k1, by rw [List.length_map]; exact k2, k3, k4, ?_⟩
        · rw [List.length_map, hp.length_eq]
        · rw [List.length_map]; exact cells_NF k5
end Go.Proofs.YtabajghokhfmhaaGreat
namespace Go.Proofs.YtabajghokhfmhaaGreat
open Go.RowKit Go.Shelf
def orr (a b : Int) : Int := if a ≠ 0 then a else b
theorem orr_assoc (a b c : Int) : orr (orr a b) c = orr a (orr b c) := by
  unfold orr
  by_cases h : a = 0
  · subst h; simp
  · simp [h]
theorem orr_0 (a : Int) : orr a 0 = a := by
  unfold orr; by_cases h : a = 0 <;> simp [h]
theorem orr_z (a : Int) : orr 0 a = a := by unfold orr; simp
theorem orr_nz {a : Int} (h : a ≠ 0) (b : Int) : orr a b = a := by unfold orr; simp [h]
theorem orr_neg (a b : Int) : orr (-a) (-b) = - orr a b := by
  unfold orr; by_cases h : a = 0
  · subst h; simp
  · have : ¬ -a = 0 := by omega
    simp [h, this]
theorem orJ_cons (x : Int) (l : List Int) : orJ (x :: l) = orr x (orJ l) := rfl
theorem orJ_nil : orJ [] = 0 := rfl
theorem lexJ_cons {α : Type} (c : α → α → Int) (x y : α) (l m : List α) : lexJ c (x :: l) (y :: m) = orr (c x y) (lexJ c l m) := rfl
theorem truthJ_one (a b : Bool) : truthJ a b = cmpJ (oneI a) (oneI b) := by cases a <;> cases b <;> rfl
theorem lex_itv (x y : Itv) (r s : List Int) : lexJ cmpJ (ordI x ++ r) (ordI y ++ s) = orr (itvJ x y) (lexJ cmpJ r s) := by
  simp only [ordI, List.cons_append, List.nil_append, lexJ_cons, itvJ, orJ_cons, orJ_nil, endsJ, orr_0, orr_assoc, truthJ_one]
theorem lex_itvs : ∀ (l m : List Itv) (r s : List Int), l.length = m.length → lexJ cmpJ (l.flatMap ordI ++ r) (m.flatMap ordI ++ s) = orr (lexJ itvJ l m) (lexJ cmpJ r s)
  | [], [], r, s, _ => by show _ = orr 0 _; rw [orr_z]; rfl
  | [], _ :: _, _, _, h => by simp at h
  | _ :: _, [], _, _, h => by simp at h
  | x :: l, y :: m, r, s, h => by
    rw [List.flatMap_cons, List.flatMap_cons, List.append_assoc, List.append_assoc, lex_itv, lex_itvs l m r s (by simpa using h), lexJ_cons, orr_assoc]
theorem cmpJ_0 {a b : Int} : cmpJ a b = 0 ↔ a = b := by
  unfold cmpJ; split
  · constructor <;> intro h <;> omega
  · split <;> constructor <;> intro h <;> omega
theorem cmpJ_neg (a b : Int) : cmpJ b a = - cmpJ a b := by unfold cmpJ; split <;> split <;> omega
mutual
def keyF : Fm → List Int
  | .mk op n inn kids => ordF (.mk op n inn kids) ++ keyFs kids
def keyFs : List Fm → List Int
  | [] => []
  | x :: xs => keyF x ++ keyFs xs
end
theorem keyF_eq (f : Fm) : keyF f = ordF f ++ keyFs f.kids := by cases f; rfl
theorem lex_ord (a b : Fm) (r s : List Int) : lexJ cmpJ (ordF a ++ r) (ordF b ++ s) = orr (cmpJ a.op b.op) (orr (cmpJ a.n b.n) (orr (itvsJ a.inn b.inn) (orr (cmpJ a.kids.length b.kids.length) (lexJ cmpJ r s)))) := by
  unfold ordF itvsJ
  simp only [List.append_assoc, List.cons_append, List.nil_append, lexJ_cons, orJ_cons, orJ_nil, orr_0, orr_assoc]
  by_cases h : a.inn.length = b.inn.length
  · rw [lex_itvs _ _ _ _ h, lexJ_cons]
  · have hn : cmpJ a.inn.length b.inn.length ≠ 0 := fun e => h (by have := cmpJ_0.1 e; omega)
    rw [orr_nz hn, orr_nz hn]
theorem lex_key (a : Fm) : ∀ (b : Fm) (r s : List Int), lexJ cmpJ (keyF a ++ r) (keyF b ++ s) = orr (fcmpJ a b) (lexJ cmpJ r s) := by
  induction a using Fm.ind with
  | h a ih =>
    intro b r s
    have hs : ∀ (l m : List Fm) (r s : List Int), (∀ x ∈ l, ∀ (y : Fm) (r s : List Int), lexJ cmpJ (keyF x ++ r) (keyF y ++ s) = orr (fcmpJ x y) (lexJ cmpJ r s)) → l.length = m.length →
        lexJ cmpJ (keyFs l ++ r) (keyFs m ++ s) = orr (lexJ fcmpJ l m) (lexJ cmpJ r s) := by
      intro l
      induction l with
      | nil =>
        intro m r s _ h
        cases m with
        | nil => show _ = orr 0 _; rw [orr_z]; rfl
        | cons y m => simp at h
      | cons x l ihl =>
        intro m r s hx h
        cases m with
        | nil => simp at h
        | cons y m =>
          rw [keyFs, keyFs, List.append_assoc, List.append_assoc, hx x (by simp), ihl m r s (fun z hz => hx z (by simp [hz])) (by simpa using h), lexJ_cons, orr_assoc]
    rw [keyF_eq a, keyF_eq b, List.append_assoc, List.append_assoc, lex_ord, fcmpJ_eq]
    show _ = orr (orr _ _) _
    simp only [orJ_cons, orJ_nil, orr_0, orr_assoc]
    by_cases h : a.kids.length = b.kids.length
    · rw [hs a.kids b.kids r s ih h]
    · have hn : cmpJ a.kids.length b.kids.length ≠ 0 := fun e => h (by have := cmpJ_0.1 e; omega)
      rw [orr_nz hn, orr_nz hn]
theorem fcmpJ_key (a b : Fm) : fcmpJ a b = lexJ cmpJ (keyF a) (keyF b) := by
  have h := lex_key a b [] []
  simp only [List.append_nil] at h
  rw [h]; show _ = orr _ 0; rw [orr_0]
theorem lexC_neg : ∀ l m : List Int, lexJ cmpJ m l = - lexJ cmpJ l m
  | [], [] => rfl
  | [], _ :: _ => rfl
  | _ :: _, [] => rfl
  | x :: l, y :: m => by rw [lexJ_cons, lexJ_cons, lexC_neg l m, cmpJ_neg x y, orr_neg]
theorem lexC_trans : ∀ l m n : List Int, lexJ cmpJ l m ≤ 0 → lexJ cmpJ m n ≤ 0 → lexJ cmpJ l n ≤ 0
  | [], _, [], _, _ => by simp [lexJ]
  | [], _, _ :: _, _, _ => by simp [lexJ]
  | _ :: _, [], _, h, _ => by simp [lexJ] at h
  | _ :: _, _ :: _, [], _, h => by simp [lexJ] at h
  | x :: l, y :: m, z :: n, h1, h2 => by
    have ih := lexC_trans l m n
    rw [lexJ_cons] at *
    generalize lexJ cmpJ l m = z1 at *
    generalize lexJ cmpJ m n = z2 at *
    generalize lexJ cmpJ l n = z3 at *
    unfold orr cmpJ at *
    by_cases h3 : x < y <;> by_cases h4 : y < x <;> by_cases h5 : y < z <;> by_cases h6 : z < y <;> by_cases h7 : x < z <;> by_cases h8 : z < x <;> simp [h3, h4, h5, h6, h7, h8] at h1 h2 ⊢ <;> first | omega | (exact ih h1 h2)
theorem cmpZ_cons (x y : Int) (l m : List Int) : cmpZ (x :: l) (y :: m) = orr (cmpJ x y) (cmpZ l m) := by
  rw [cmpZ]; unfold orr cmpJ; split
  · simp
  · split <;> simp
theorem cmpZ_lex : ∀ {l m : List Int}, l.length = m.length → cmpZ l m = lexJ cmpJ l m
  | [], [], _ => rfl
  | [], _ :: _, h => by simp at h
  | _ :: _, [], h => by simp at h
  | x :: l, y :: m, h => by rw [cmpZ_cons, lexJ_cons, cmpZ_lex (by simpa using h)]
theorem cmpFs_lex {c : Fm → Fm → Int} : ∀ {l m : List Fm}, (∀ x ∈ l, ∀ y, cmpF x y = c x y) → l.length = m.length → cmpFs l m = lexJ c l m
  | [], [], _, _ => rfl
  | [], _ :: _, _, h => by simp at h
  | _ :: _, [], _, h => by simp at h
  | x :: l, y :: m, hx, h => by rw [cmpFs, lexJ_cons, cmpFs_lex (fun z hz => hx z (by simp [hz])) (by simpa using h), hx x (by simp)]; rfl
theorem cmpZ_ord (a b : Fm) : cmpZ (ordF a) (ordF b) = orr (cmpJ a.op b.op) (orr (cmpJ a.n b.n) (orr (itvsJ a.inn b.inn) (cmpJ a.kids.length b.kids.length))) := by
  by_cases h : a.inn.length = b.inn.length
  · have h2 := lex_ord a b [] []
    simp only [List.append_nil] at h2
    rw [cmpZ_lex (by rw [ordF_len, ordF_len, h]), h2]
    show orr _ (orr _ (orr _ (orr _ 0))) = _
    rw [orr_0]
  · have hn : cmpJ a.inn.length b.inn.length ≠ 0 := fun e => h (by have := cmpJ_0.1 e; omega)
    unfold ordF itvsJ
    simp only [List.append_assoc, List.cons_append, List.nil_append, cmpZ_cons, orJ_cons, orJ_nil, orr_0, orr_assoc]
    rw [orr_nz hn, orr_nz hn]
theorem cmpF_J (a : Fm) : ∀ b, cmpF a b = fcmpJ a b := by
  induction a using Fm.ind with
  | h a ih =>
    intro b
    rw [cmpF_eq, fcmpJ_eq]
    show orr _ _ = orr _ _
    rw [cmpZ_ord]
    simp only [orJ_cons, orJ_nil, orr_0, orr_assoc]
    by_cases h : a.kids.length = b.kids.length
    · rw [cmpFs_lex ih h]
    · have hn : cmpJ a.kids.length b.kids.length ≠ 0 := fun e => h (by have := cmpJ_0.1 e; omega)
      rw [orr_nz hn, orr_nz hn]
theorem fcmpJ_0 {a b : Fm} : fcmpJ a b = 0 ↔ a = b := by rw [← cmpF_J]; exact cmpF_0 a b
theorem fcmpJ_neg (a b : Fm) : fcmpJ b a = - fcmpJ a b := by rw [fcmpJ_key, fcmpJ_key, lexC_neg]
theorem fcmpJ_le {a b c : Fm} (h1 : fcmpJ a b ≤ 0) (h2 : fcmpJ b c ≤ 0) : fcmpJ a c ≤ 0 := by
  rw [fcmpJ_key] at *; exact lexC_trans _ _ _ h1 h2
theorem fcmpJ_lt {a b c : Fm} (h1 : fcmpJ a b < 0) (h2 : fcmpJ b c ≤ 0) : fcmpJ a c < 0 := by
  have h3 := fcmpJ_le (by omega : fcmpJ a b ≤ 0) h2
  by_cases h : fcmpJ a c = 0
  · have := fcmpJ_0.1 h
    subst this
    have := fcmpJ_neg a b
    omega
  · omega
instance decFm : DecidableEq Fm := fun a b => decidable_of_iff (fcmpJ a b = 0) fcmpJ_0
set_option maxHeartbeats 1000000 in
theorem cloneItv_c {H : PH} (xs : List Itv) (v : Value) (w : World) (hl : PLe H (ph w)) (hr : ItvsR H v xs) (hlen : xs.length ≤ 1000000) : Calls Tryz.prog 69 #[v] w (fun e w' => ∃ v', e = .returned v' ∧ Ext w w' ∧ ItvsR (up H w w') v' xs) := by
  obtain ⟨a, c, rfl, -, hA⟩ := hr.form
  have hq := fun w => Lib.run_eql_slice_nil (P := Tryz.prog) w 27 91 a xs.length c 0 0 Tryz.underlying27
  cases a with
  | none =>
    have hx : xs = [] := by
      cases xs with
      | nil => rfl
      | cons x r =>
        obtain ⟨b, o, cs, h, -⟩ := hA.get 0 (by simp)
        cases h
    subst hx
    simp only [List.length_nil, Option.isNone_none] at hq ⊢
    go_enter Tryz.func69, Tryz.ntmps69
    go_wp2_with fail
    go_ret
    exact ⟨_, rfl, xE, SliceRep.nil _ _ _⟩
  | some ad =>
    have hM0 := ((Mem.start w H hl).new #[] 91).asOwn (xs := ([] : List Itv)) (E := ItvR) (sz := 8) 0 rfl mono_ItvR (n := 0) (by simp) (by decide) rfl rfl
    simp only [List.nil_append, List.set_cons_zero] at hM0
    have hS := Src.ofRep (w := w.alloc (.cells #[] 91)) hA (hl.trans (Ext.new _ _).ple)
    clear hA
    simp only [Option.isNone_some] at hq
    go_enter Tryz.func69, Tryz.ntmps69
    go_wp2_with (first | (at_builtin; refine wpList_append_M 0 rfl _ _ 27 rfl Tryz.underlying27 infoItv rfl rfl rfl hM0 rfl hS one_ItvR (by simp; omega) (by simp; omega) ?c5))
    case c5 =>
      intro v' w' hM
      try simp only [List.nil_append, List.set_cons_zero] at hM
      have hrep := hM.repUp 0 rfl
      obtain ⟨na, nc, rfl, -⟩ := hM.form 0 rfl
      go_wp2_with fail
      go_ret
      exact ⟨_, rfl, hM.ex, hrep⟩
theorem up_laterH {H : PH} {w1 w' w6 : World} (hl : PLe H (ph w1)) (h : Ext w1 w') : PLe (up H w' w6) (up H w1 w6) := by
  intro k o hk
  unfold up at *
  have := h.size
  by_cases h1 : k < w'.heap.size
  · rw [if_pos h1] at hk
    have := ph_lt (hl k o hk)
    rw [if_pos this]; exact hk
  · rw [if_neg h1] at hk
    rw [if_neg (by omega)]; exact hk
end Go.Proofs.YtabajghokhfmhaaGreat
