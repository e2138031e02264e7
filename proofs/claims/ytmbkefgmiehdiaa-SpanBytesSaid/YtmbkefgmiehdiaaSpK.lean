/- slices.CompactFunc at ends. -/
import Derived.Test.YtmbkefgmiehdiaaSpI
namespace Go.Proofs.Ytmbkefgmiehdiaa
open Go.RowKit Go.Shelf
set_option linter.unusedSimpArgs false
set_option linter.unusedVariables false
theorem enC_len (e : En) : (enC e).length = 4 := rfl
theorem zeroEn (w : World) : (zeroValue 73).run Try.prog w = .ok (.agg #[.int .i64 0, .int .i64 0, .int .i64 0, .bool false]) w := by
  obtain ⟨i, hi, hz0, hz1, hz2⟩ := info_parts infoEn
  simp [zeroValue, typeInfo, hi, hz0]
def En.k (e : En) : En := e
abbrev ownN (v : Value) (xs : List En) : Chunk := own mono_EnR 4 73 v xs
def OwnPN (w0 : World) (LB : List Chunk) (ys : List En) (e : Ending) (w' : World) : Prop := ∃ v', e = .returned v' ∧ Mem w0 noH (ownN v' ys :: LB) noH w'
theorem endsM_row {w0 W : World} {LB : List Chunk} {oa : Option Addr} {N oc k : Nat} {xs : List En} {x : En} (hM : Mem w0 noH (ownN (.slice oa N oc) xs :: LB) noH W) (hk : xs[k]? = some x) :
    ∃ g, oa = some ⟨g, 0, none⟩ ∧ g < W.heap.size ∧ (∀ j u, (enC x)[j]? = some u → W.cell? ⟨g, k * 4 + j, none⟩ = some u) ∧ x.I := by
  obtain ⟨hkl, hkx⟩ := List.getElem?_eq_some_iff.1 hk
  obtain ⟨g, cap, cs, hv, hcs, hc, ⟨hc1, hI⟩, hg⟩ := hM.get 0 rfl k hkl
  rw [hkx] at hc1 hI
  subst hc1
  cases hv
  refine ⟨g, rfl, hg, fun j u hu => ?_, hI⟩
  obtain ⟨hj, he⟩ := List.getElem?_eq_some_iff.1 hu
  rw [hc j (by rw [enC_len] at hj; exact hj), ← he]
  simp [List.getD_eq_getElem?_getD, hj]
/-- of acts of one day that stand side by side the first; d: the day ahead -/
def ddP : Option En → List En → List En
  | _, [] => []
  | d, x :: r => if d = some x.k then ddP (some x.k) r else x :: ddP (some x.k) r
def lastD (d : Option En) (l : List En) : Option En := match l.getLast? with | some x => some x.k | none => d
theorem lastD_cons (d : Option En) (x : En) (l : List En) : lastD d (x :: l) = lastD (some x.k) l := by
  unfold lastD
  cases l with
  | nil => rfl
  | cons y r => rw [List.getLast?_cons_cons]; cases h : (y :: r).getLast? with
    | none => simp at h
    | some z => rfl
theorem ddP_snoc (x : En) : ∀ (l : List En) (d : Option En), ddP d (l ++ [x]) = ddP d l ++ if lastD d l = some x.k then [] else [x]
  | [], d => by
    show ddP d [x] = ddP d [] ++ _
    have e : lastD d [] = d := rfl
    rw [e]
    by_cases h : d = some x.k
    · rw [if_pos h]; show (if d = some x.k then ddP (some x.k) [] else x :: ddP (some x.k) []) = _; rw [if_pos h]; rfl
    · rw [if_neg h]; show (if d = some x.k then ddP (some x.k) [] else x :: ddP (some x.k) []) = _; rw [if_neg h]; rfl
  | y :: r, d => by
    rw [List.cons_append, ddP, ddP, lastD_cons, ddP_snoc x r]
    split
    · rfl
    · rfl
abbrev dd (l : List En) : List En := ddP none l
theorem dd_take {xs : List En} {j : Nat} (hj : j < xs.length) (h0 : 0 < j) : dd (xs.take (j + 1)) = dd (xs.take j) ++ if (xs[j - 1]'(by omega)).k = xs[j].k then [] else [xs[j]] := by
  show ddP none _ = ddP none _ ++ _
  rw [List.take_add_one, List.getElem?_eq_getElem hj, Option.toList_some, ddP_snoc]
  congr 1
  have : lastD none (xs.take j) = some (xs[j - 1]'(by omega)).k := by
    unfold lastD
    rw [List.getLast?_eq_getElem?, List.length_take, Nat.min_eq_left (by omega), List.getElem?_take_of_lt (by omega), List.getElem?_eq_getElem (by omega)]
  rw [this]
  simp only [Option.some.injEq]
/-- where the compaction is -/
def CmpAt (xs ys : List En) (i j : Nat) : Prop := ys.length = xs.length ∧ i < j ∧ j ≤ xs.length ∧ ys.take i = dd (xs.take j) ∧ ys.drop (j - 1) = xs.drop (j - 1)
theorem CmpAt.at {xs ys : List En} {i j : Nat} (h : CmpAt xs ys i j) (hj : j < xs.length) : ys[j]? = some (xs[j]) ∧ ys[j - 1]? = some (xs[j - 1]'(by omega)) := by
  obtain ⟨h1, h2, -, -, h6⟩ := h
  have e0 := congrArg (fun l => l[0]?) h6
  have e1 := congrArg (fun l => l[1]?) h6
  simp only [List.getElem?_drop] at e0 e1
  rw [show j - 1 + 1 = j by omega] at e1
  rw [Nat.add_zero] at e0
  exact ⟨e1.trans (List.getElem?_eq_getElem hj), e0.trans (List.getElem?_eq_getElem (by omega))⟩
theorem CmpAt.skip {xs ys : List En} {i j : Nat} (h : CmpAt xs ys i j) (hj : j < xs.length) (hp : (xs[j - 1]'(by omega)).k = xs[j].k) : CmpAt xs ys i (j + 1) := by
  obtain ⟨h1, h2, h3, h4, h6⟩ := h
  refine ⟨h1, by omega, by omega, ?_, ?_⟩
  · rw [dd_take hj (by omega), if_pos hp, List.append_nil]; exact h4
  · have := congrArg (List.drop 1) h6
    rw [List.drop_drop, List.drop_drop] at this
    rw [show j + 1 - 1 = j - 1 + 1 by omega]; exact this
theorem CmpAt.keep {xs ys : List En} {i j : Nat} (h : CmpAt xs ys i j) (hj : j < xs.length) (hp : (xs[j - 1]'(by omega)).k ≠ xs[j].k) : CmpAt xs (ys.set i xs[j]) (i + 1) (j + 1) := by
  obtain ⟨h1, h2, h3, h4, h6⟩ := h
  refine ⟨by simpa using h1, by omega, by omega, ?_, ?_⟩
  · rw [dd_take hj (by omega), if_neg hp, ← h4, List.take_add_one, List.take_set_of_le (Nat.le_refl _), List.getElem?_set_self (by omega)]; rfl
  · have := congrArg (List.drop 1) h6
    rw [List.drop_drop, List.drop_drop, show j - 1 + 1 = j by omega] at this
    rw [show j + 1 - 1 = j by omega, List.drop_set_of_lt (by omega)]; exact this
theorem CmpAt.start {xs : List En} {i : Nat} (h0 : 0 < i) (hi : i < xs.length) (hd : dd (xs.take i) = xs.take i) (hp : (xs[i - 1]'(by omega)).k = xs[i].k) : CmpAt xs xs i (i + 1) :=
  ⟨rfl, by omega, by omega, by rw [dd_take hi h0, if_pos hp, List.append_nil, hd], rfl⟩
theorem dd_go {xs : List En} {i : Nat} (h0 : 0 < i) (hi : i < xs.length) (hd : dd (xs.take i) = xs.take i) (hp : (xs[i - 1]'(by omega)).k ≠ xs[i].k) : dd (xs.take (i + 1)) = xs.take (i + 1) := by
  rw [dd_take hi h0, if_neg hp, hd, List.take_add_one, List.getElem?_eq_getElem hi]; rfl
theorem CmpAt.done {xs ys : List En} {i : Nat} (h : CmpAt xs ys i xs.length) : ys.take i = dd xs := by
  rw [h.2.2.2.1, List.take_length]
theorem cmb2_c (x y : En) (w : World) : Calls Try.prog 89 #[.agg (enC x).toArray, .agg (enC y).toArray] w (RetV w (.bool (x.k == y.k))) := by
  obtain ⟨f, ⟨n, d⟩, t⟩ := x
  obtain ⟨f', ⟨n', d'⟩, t'⟩ := y
  have hs : Hid (((⟨f, ⟨n, d⟩, t⟩ : En).k == (⟨f', ⟨n', d'⟩, t'⟩ : En).k) = (f == f' && (n == n' && d == d') && t == t')) := by
    show _ = _
    rw [Bool.eq_iff_iff]
    simp [En.k, and_assoc]
  generalize ((⟨f, ⟨n, d⟩, t⟩ : En).k == (⟨f', ⟨n', d'⟩, t'⟩ : En).k) = q at hs ⊢
  unfold enC
  dsimp only [List.toArray]
  go_enter Try.func89, Try.ntmps89
  go_wp2_with fail
  all_goals (go_ret; exact ⟨ret_bool (by rw [hs.out]; simp [*]), (by repeat (first | (with_reducible assumption) | (with_reducible exact Ext.rfl' _) | (with_reducible exact Ext.new _ _) | (with_reducible refine Ext.alloc' ?_ _) | (with_reducible refine Ext.drew' ?_) | (with_reducible refine Ext.drewN' ?_ _) | (with_reducible refine Ext.set' ?_ ?_ _; rotate_left; (focus (first | omega | (simp; done) | (simp; omega)))) | (with_reducible refine Ext.then (b := ?_) ?_ ?_; rotate_left; rotate_left; (with_reducible assumption))))⟩)
set_option maxRecDepth 100000 in
set_option maxHeartbeats 4000000 in
theorem compactEn_c (v : Value) (xs : List En) (w0 w : World) (LB : List Chunk) (hM : Mem w0 noH (ownN v xs :: LB) noH w) (hlen : xs.length ≤ 1000000) :
    Calls Try.prog 88 #[v, .func (.func 89) #[] #[]] w (OwnPN w0 LB (dd xs)) := by
  obtain ⟨a, c, rfl, -⟩ := hM.form 0 rfl
  by_cases h2 : xs.length < 2
  · have hd : Hid (dd xs = xs) := by
      show _ = _
      match xs, h2 with
      | [], _ => rfl
      | [x], _ => rfl
    have h2' : (xs.length : Int) < 2 := by omega
    go_enter Try.func88, Try.ntmps88
    go_wp2_with fail
    go_ret
    exact ⟨_, rfl, by rw [hd.out]; exact hM⟩
  · obtain ⟨N, hN⟩ : ∃ N, xs.length = N := ⟨_, rfl⟩
    have hN2 : 2 ≤ N := by omega
    have hN6 : N ≤ 1000000 := by omega
    have hst : Hid (dd (xs.take 1) = xs.take 1) := by
      show _ = _
      match xs with
      | [] => rfl
      | x :: r => rfl
    have hall : Hid (xs.take N = xs) := by show _ = _; rw [← hN, List.take_length]
    rw [hN] at hM
    simp only [hN]
    replace hN := Lib.hid hN
    clear h2 hlen
    go_enter Try.func88, Try.ntmps88
    go_wp2_with fail
    go_loopw [5] (fun vi wr => ∃ m : Nat, m + 1 ≤ N ∧ vi = .int .i64 ((m : Int) + 1) ∧ Hid (dd (xs.take (m + 1)) = xs.take (m + 1)) ∧ Ext w wr) (fun vi _ => N - (intOf vi).toNat)
    case atStart => exact ⟨0, by omega, rfl, hst, Ext.rfl' _⟩
    case round =>
      clear hst
      obtain ⟨m, hm, rfl, hd, hxr⟩ := hrel
      have hMr := hM.ext hxr
      by_cases hlt : m + 1 < N
      · have hlx : m + 1 < xs.length := by rw [hN.out]; exact hlt
        obtain ⟨g, rfl, hg, gc1, hI1⟩ := endsM_row hMr (List.getElem?_eq_getElem hlx)
        obtain ⟨g', e, -, gc0, hI0⟩ := endsM_row hMr (List.getElem?_eq_getElem (show m < xs.length by omega))
        cases e
        have hja : decide (m + 1 < N) = true := by simpa using hlt
        have hgo := fun (h : (xs[m]'(by omega)).k ≠ xs[m + 1].k) => dd_go (xs := xs) (i := m + 1) (Nat.succ_pos m) hlx hd.out h
        have hcs := fun (h : (xs[m]'(by omega)).k = xs[m + 1].k) => CmpAt.start (xs := xs) (i := m + 1) (Nat.succ_pos m) hlx hd.out h
        have hr3 := fun w => cmb2_c xs[m + 1] xs[m] w
        generalize xs[m + 1] = x1 at *
        generalize xs[m] = x0 at *
        obtain ⟨qz, hqz⟩ : ∃ q, (x1.k == x0.k) = q := ⟨_, rfl⟩
        simp only [hqz] at hr3
        replace hqz := Lib.hid hqz
        replace gc1 := Lib.hid gc1
        replace gc0 := Lib.hid gc0
        replace hgo := Lib.hid hgo
        replace hcs := Lib.hid hcs
        replace hr3 := Lib.hid hr3
        have hlti : ((m + 1 : Nat) : Int) < N := by omega
        have hmN : m < N := by omega
        clear hlx hI0




        have hwm : IntKind.i64.wrap ((m : Int) + 1 - 1) = (m : Int) := by rw [IntKind.wrap_i64]; omega
        have hwm3 : IntKind.i64.wrap (m : Int) = (m : Int) := by rw [IntKind.wrap_i64]; omega
        have hwm2 : IntKind.i64.wrap (((m + 1 : Nat) : Int) - 1) = (m : Int) := by rw [IntKind.wrap_i64]; omega
        go_upto_region 6 with (fail)
        (refine wp_region_I 11 (by kernel_rfl) (by kernel_rfl) ?_; simp only [List.toList_toArray, List.take_succ_cons, List.take_zero, List.drop_succ_cons, List.drop_zero])
        (refine walkI_is (u := ?_) rfl (by simp) rfl ?_ ?_; rotate_left; (focus (intro A w' hS hA K hK; (simp only [List.map_cons, List.map_nil, knows, Is, Op.operands, Call.operands, List.lookup_cons, List.lookup_nil, Nat.reduceBEq, Bool.false_eq_true, if_false, if_true, Act.eval, Array.getD_eq_getD_getElem?, List.getElem?_toArray, List.getElem?_cons_succ, List.getElem?_cons_zero, Option.getD_some, and_true, true_and, List.append_toArray, List.nil_append, List.cons_append, List.toList_toArray, Array.toList_append, Option.toArray, List.append_nil] at hA); first | fail | (obtain ⟨hSc, hSf, hSs⟩ := hS.cells; go_simp; exact hK _ (by first | exact Ext.rfl' _ | exact Ext.new _ _ | assumption)))); (try simp only [List.nil_append, List.cons_append]))
        (refine walkI_is (u := ?_) rfl (by simp) rfl ?_ ?_; rotate_left; (focus (intro A w' hS hA K hK; (simp only [List.map_cons, List.map_nil, knows, Is, Op.operands, Call.operands, List.lookup_cons, List.lookup_nil, Nat.reduceBEq, Bool.false_eq_true, if_false, if_true, Act.eval, Array.getD_eq_getD_getElem?, List.getElem?_toArray, List.getElem?_cons_succ, List.getElem?_cons_zero, Option.getD_some, and_true, true_and, List.append_toArray, List.nil_append, List.cons_append, List.toList_toArray, Array.toList_append, Option.toArray, List.append_nil] at hA); first | fail | (obtain ⟨hSc, hSf, hSs⟩ := hS.cells; go_simp; exact hK _ (by first | exact Ext.rfl' _ | exact Ext.new _ _ | assumption)))); (try simp only [List.nil_append, List.cons_append]))
        (refine walkI_is (u := ?_) rfl (by simp) rfl ?_ ?_; rotate_left; (focus (intro A w' hS hA K hK; (simp only [List.map_cons, List.map_nil, knows, Is, Op.operands, Call.operands, List.lookup_cons, List.lookup_nil, Nat.reduceBEq, Bool.false_eq_true, if_false, if_true, Act.eval, Array.getD_eq_getD_getElem?, List.getElem?_toArray, List.getElem?_cons_succ, List.getElem?_cons_zero, Option.getD_some, and_true, true_and, List.append_toArray, List.nil_append, List.cons_append, List.toList_toArray, Array.toList_append, Option.toArray, List.append_nil] at hA); first | fail | (obtain ⟨hSc, hSf, hSs⟩ := hS.cells; go_simp; exact hK _ (by first | exact Ext.rfl' _ | exact Ext.new _ _ | assumption)))); (try simp only [List.nil_append, List.cons_append]))
        (refine walkI_is (u := ?_) rfl (by simp) rfl ?_ ?_; rotate_left; (focus (intro A w' hS hA K hK; (simp only [List.map_cons, List.map_nil, knows, Is, Op.operands, Call.operands, List.lookup_cons, List.lookup_nil, Nat.reduceBEq, Bool.false_eq_true, if_false, if_true, Act.eval, Array.getD_eq_getD_getElem?, List.getElem?_toArray, List.getElem?_cons_succ, List.getElem?_cons_zero, Option.getD_some, and_true, true_and, List.append_toArray, List.nil_append, List.cons_append, List.toList_toArray, Array.toList_append, Option.toArray, List.append_nil] at hA); first | fail | (obtain ⟨hSc, hSf, hSs⟩ := hS.cells; go_simp; exact hK _ (by first | exact Ext.rfl' _ | exact Ext.new _ _ | assumption)))); (try simp only [List.nil_append, List.cons_append]))
        (refine walkI_is (u := ?_) rfl (by simp) rfl ?_ ?_; rotate_left; (focus (intro A w' hS hA K hK; (simp only [List.map_cons, List.map_nil, knows, Is, Op.operands, Call.operands, List.lookup_cons, List.lookup_nil, Nat.reduceBEq, Bool.false_eq_true, if_false, if_true, Act.eval, Array.getD_eq_getD_getElem?, List.getElem?_toArray, List.getElem?_cons_succ, List.getElem?_cons_zero, Option.getD_some, and_true, true_and, List.append_toArray, List.nil_append, List.cons_append, List.toList_toArray, Array.toList_append, Option.toArray, List.append_nil] at hA); first | (refine oper_load_mid 73 (.tmp 21) rfl g ((m + 1) * 4) (by simpa [Act.eval] using hA) (enC x1) _ (fun j u h => hS.cell1 (gc1.out j u h)) Try.underlying73 rfl (by kernel_rfl) ?_; exact hK _ (Ext.rfl' _)) | (obtain ⟨hSc, hSf, hSs⟩ := hS.cells; go_simp; exact hK _ (by first | exact Ext.rfl' _ | exact Ext.new _ _ | assumption)))); (try simp only [List.nil_append, List.cons_append]))
        (refine walkI_is (u := ?_) rfl (by simp) rfl ?_ ?_; rotate_left; (focus (intro A w' hS hA K hK; (simp only [List.map_cons, List.map_nil, knows, Is, Op.operands, Call.operands, List.lookup_cons, List.lookup_nil, Nat.reduceBEq, Bool.false_eq_true, if_false, if_true, Act.eval, Array.getD_eq_getD_getElem?, List.getElem?_toArray, List.getElem?_cons_succ, List.getElem?_cons_zero, Option.getD_some, and_true, true_and, List.append_toArray, List.nil_append, List.cons_append, List.toList_toArray, Array.toList_append, Option.toArray, List.append_nil] at hA); first | fail | (obtain ⟨hSc, hSf, hSs⟩ := hS.cells; go_simp; exact hK _ (by first | exact Ext.rfl' _ | exact Ext.new _ _ | assumption)))); (try simp only [List.nil_append, List.cons_append]))
        (refine walkI_is (u := ?_) rfl (by simp) rfl ?_ ?_; rotate_left; (focus (intro A w' hS hA K hK; (simp only [List.map_cons, List.map_nil, knows, Is, Op.operands, Call.operands, List.lookup_cons, List.lookup_nil, Nat.reduceBEq, Bool.false_eq_true, if_false, if_true, Act.eval, Array.getD_eq_getD_getElem?, List.getElem?_toArray, List.getElem?_cons_succ, List.getElem?_cons_zero, Option.getD_some, and_true, true_and, List.append_toArray, List.nil_append, List.cons_append, List.toList_toArray, Array.toList_append, Option.toArray, List.append_nil] at hA); first | fail | (obtain ⟨hSc, hSf, hSs⟩ := hS.cells; go_simp; exact hK _ (by first | exact Ext.rfl' _ | exact Ext.new _ _ | assumption)))); (try simp only [List.nil_append, List.cons_append]))
        (refine walkI_is (u := ?_) rfl (by simp) rfl ?_ ?_; rotate_left; (focus (intro A w' hS hA K hK; (simp only [List.map_cons, List.map_nil, knows, Is, Op.operands, Call.operands, List.lookup_cons, List.lookup_nil, Nat.reduceBEq, Bool.false_eq_true, if_false, if_true, Act.eval, Array.getD_eq_getD_getElem?, List.getElem?_toArray, List.getElem?_cons_succ, List.getElem?_cons_zero, Option.getD_some, and_true, true_and, List.append_toArray, List.nil_append, List.cons_append, List.toList_toArray, Array.toList_append, Option.toArray, List.append_nil] at hA); first | fail | (obtain ⟨hSc, hSf, hSs⟩ := hS.cells; go_simp; exact hK _ (by first | exact Ext.rfl' _ | exact Ext.new _ _ | assumption)))); (try simp only [List.nil_append, List.cons_append]))
        (refine walkI_is (u := ?_) rfl (by simp) rfl ?_ ?_; rotate_left; (focus (intro A w' hS hA K hK; (simp only [List.map_cons, List.map_nil, knows, Is, Op.operands, Call.operands, List.lookup_cons, List.lookup_nil, Nat.reduceBEq, Bool.false_eq_true, if_false, if_true, Act.eval, Array.getD_eq_getD_getElem?, List.getElem?_toArray, List.getElem?_cons_succ, List.getElem?_cons_zero, Option.getD_some, and_true, true_and, List.append_toArray, List.nil_append, List.cons_append, List.toList_toArray, Array.toList_append, Option.toArray, List.append_nil] at hA); first | fail | (obtain ⟨hSc, hSf, hSs⟩ := hS.cells; go_simp; exact hK _ (by first | exact Ext.rfl' _ | exact Ext.new _ _ | assumption)))); (try simp only [List.nil_append, List.cons_append]))
        (refine walkI_is (u := ?_) rfl (by simp) rfl ?_ ?_; rotate_left; (focus (intro A w' hS hA K hK; (simp only [List.map_cons, List.map_nil, knows, Is, Op.operands, Call.operands, List.lookup_cons, List.lookup_nil, Nat.reduceBEq, Bool.false_eq_true, if_false, if_true, Act.eval, Array.getD_eq_getD_getElem?, List.getElem?_toArray, List.getElem?_cons_succ, List.getElem?_cons_zero, Option.getD_some, and_true, true_and, List.append_toArray, List.nil_append, List.cons_append, List.toList_toArray, Array.toList_append, Option.toArray, List.append_nil] at hA); first | (refine oper_load_mid 73 (.tmp 26) rfl g (m * 4) (by simpa [Act.eval] using hA) (enC x0) _ (fun j u h => hS.cell1 (gc0.out j u h)) Try.underlying73 rfl (by kernel_rfl) ?_; exact hK _ (Ext.rfl' _)) | (obtain ⟨hSc, hSf, hSs⟩ := hS.cells; go_simp; exact hK _ (by first | exact Ext.rfl' _ | exact Ext.new _ _ | assumption)))); (try simp only [List.nil_append, List.cons_append]))
        (refine walkI_is (u := ?_) rfl (by simp) rfl ?_ ?_; rotate_left; (focus (intro A w' hS hA K hK; (simp only [List.map_cons, List.map_nil, knows, Is, Op.operands, Call.operands, List.lookup_cons, List.lookup_nil, Nat.reduceBEq, Bool.false_eq_true, if_false, if_true, Act.eval, Array.getD_eq_getD_getElem?, List.getElem?_toArray, List.getElem?_cons_succ, List.getElem?_cons_zero, Option.getD_some, and_true, true_and, List.append_toArray, List.nil_append, List.cons_append, List.toList_toArray, Array.toList_append, Option.toArray, List.append_nil] at hA); first | (go_simp; refine RetV_at (hr3.out w') ?_; intro w6 hx6; exact hK _ hx6) | (obtain ⟨hSc, hSf, hSs⟩ := hS.cells; go_simp; exact hK _ (by first | exact Ext.rfl' _ | exact Ext.new _ _ | assumption)))); (try simp only [List.nil_append, List.cons_append]))
        (refine walkI_nil ?_; simp only [List.nil_append, List.cons_append, fins, Is, forall_eq, Act.put, List.setIfInBounds_toArray, List.set_cons_zero, List.set_cons_succ])
        intro w3 hx3
        cases qz with
        | true =>
          have hday : x0.k = x1.k := by have := hqz.out; rw [beq_iff_eq] at this; exact this.symm
          have hC := Lib.hid (hcs.out hday)
          have hM3 := hMr.ext hx3
          have hxl : Hid (m + 1 + 1 ≤ xs.length) := Lib.hid (by rw [hN.out]; omega)
          have hcap0 : N ≤ c := by
            obtain ⟨cur, -, -, h3, -⟩ := hM3.cur 0 rfl
            rw [hN.out] at h3; exact h3
          clear hday hcs hgo hd hall hMr gc0 gc1 hr3
          go_wp2_with fail
          have hlt' := Lib.hid hlt
          replace hlti := Lib.hid hlti
          replace hja := Lib.hid hja
          clear hlt
          generalize decide ((N : Int) < 2) = z10
          generalize decide ((m : Int) + 1 < (N : Int)) = z15
          generalize hv12 : Value.int IntKind.i64 ((m : Int) + 1) = v12
          replace hv12 := Lib.hid hv12
          go_loopw [5, 7] (fun vi vk wr2 => ∃ (i k : Nat) (ys : List En), vi = .int .i64 (i : Int) ∧ vk = .int .i64 ((k : Int) + 1) ∧ m + 1 + (k + 1) ≤ N ∧ i < m + 1 + (k + 1) ∧ Hid (CmpAt xs ys i (m + 1 + (k + 1))) ∧ Mem w0 noH (ownN (.slice (some ⟨g, 0, none⟩) N c) ys :: LB) noH wr2) (fun _ vk _ => N - (intOf vk).toNat)
          case atStart => exact ⟨m + 1, 0, xs, by rw [← hv12.out]; go_num, by go_num, by omega, by omega, hC, hM3⟩
          case round =>
            clear hM3 hC
            obtain ⟨i, k, ys, rfl, rfl, hkN, hik, hD, hM⟩ := hrel
            have hyl : Hid (ys.length = N) := by show _ = _; rw [hD.out.1]; exact hN.out
            by_cases hlt2 : k + 1 < N - (m + 1)
            · have hjx : m + 1 + (k + 1) < xs.length := by rw [hN.out]; omega
              obtain ⟨hy1, hy0⟩ := hD.out.at hjx
              obtain ⟨g1, e, hg1, gc1, hI2⟩ := endsM_row hM hy1
              cases e
              obtain ⟨g1, e, -, gc0, -⟩ := endsM_row hM hy0
              cases e
              have hsk := fun (h : (xs[m + 1 + (k + 1) - 1]'(by omega)).k = xs[m + 1 + (k + 1)].k) => hD.out.skip hjx h
              have hkp := fun (h : (xs[m + 1 + (k + 1) - 1]'(by omega)).k ≠ xs[m + 1 + (k + 1)].k) => hD.out.keep hjx h
              have hr3 : ∀ w, Calls Try.prog 89 #[.agg (enC xs[m + 1 + (k + 1)]).toArray, .agg (enC (xs[m + 1 + (k + 1) - 1]'(by omega))).toArray] w (RetV w (.bool (xs[m + 1 + (k + 1)].k == (xs[m + 1 + (k + 1) - 1]'(by omega)).k))) := fun w => cmb2_c _ _ w
              generalize xs[m + 1 + (k + 1)] = z1 at *
              generalize (xs[m + 1 + (k + 1) - 1]'(by omega)) = z0 at *
              obtain ⟨q, hq⟩ : ∃ q, (z1.k == z0.k) = q := ⟨_, rfl⟩
              simp only [hq] at hr3
              replace hq := Lib.hid hq
              have gd1 : Hid (∀ j u, (enC z1)[j]? = some u → wr.cell? ⟨g, (m + 1) * 4 + (k + 1) * 4 + j, none⟩ = some u) := Lib.hid fun j u h => by
                have := gc1 j u h
                rwa [show (m + 1 + (k + 1)) * 4 + j = (m + 1) * 4 + (k + 1) * 4 + j by omega] at this
              have gd0 : Hid (∀ j u, (enC z0)[j]? = some u → wr.cell? ⟨g, (m + 1) * 4 + k * 4 + j, none⟩ = some u) := Lib.hid fun j u h => by
                have := gc0 j u h
                rwa [show (m + 1 + (k + 1) - 1) * 4 + j = (m + 1) * 4 + k * 4 + j by omega] at this
              replace hr3 := Lib.hid hr3
              replace hsk := Lib.hid hsk
              replace hkp := Lib.hid hkp
              replace hy1 := Lib.hid hy1
              have hja2 : decide (k + 1 < N - (m + 1)) = true := by simpa using hlt2
              have hwk : IntKind.i64.wrap (k : Int) = (k : Int) := by rw [IntKind.wrap_i64]; omega
              have hiN : i < N := by omega
              have hkN2 : k < N - (m + 1) := by omega
              clear gc1 gc0 hy0 hjx
              go_upto_region 11 with (fail)
              (refine wp_region_I 12 (by kernel_rfl) (by kernel_rfl) ?_; simp only [List.toList_toArray, List.take_succ_cons, List.take_zero, List.drop_succ_cons, List.drop_zero])
              (refine walkI_is (u := ?_) rfl (by simp) rfl ?_ ?_; rotate_left; (focus (intro A w' hS hA K hK; (simp only [List.map_cons, List.map_nil, knows, Is, Op.operands, Call.operands, List.lookup_cons, List.lookup_nil, Nat.reduceBEq, Bool.false_eq_true, if_false, if_true, Act.eval, Array.getD_eq_getD_getElem?, List.getElem?_toArray, List.getElem?_cons_succ, List.getElem?_cons_zero, Option.getD_some, and_true, true_and, List.append_toArray, List.nil_append, List.cons_append, List.toList_toArray, Array.toList_append, Option.toArray, List.append_nil] at hA); first | fail | (obtain ⟨hSc, hSf, hSs⟩ := hS.cells; go_simp; exact hK _ (by first | exact Ext.rfl' _ | exact Ext.new _ _ | assumption)))); (try simp only [List.nil_append, List.cons_append]))
              (refine walkI_is (u := ?_) rfl (by simp) rfl ?_ ?_; rotate_left; (focus (intro A w' hS hA K hK; (simp only [List.map_cons, List.map_nil, knows, Is, Op.operands, Call.operands, List.lookup_cons, List.lookup_nil, Nat.reduceBEq, Bool.false_eq_true, if_false, if_true, Act.eval, Array.getD_eq_getD_getElem?, List.getElem?_toArray, List.getElem?_cons_succ, List.getElem?_cons_zero, Option.getD_some, and_true, true_and, List.append_toArray, List.nil_append, List.cons_append, List.toList_toArray, Array.toList_append, Option.toArray, List.append_nil] at hA); first | fail | (obtain ⟨hSc, hSf, hSs⟩ := hS.cells; go_simp; exact hK _ (by first | exact Ext.rfl' _ | exact Ext.new _ _ | assumption)))); (try simp only [List.nil_append, List.cons_append]))
              (refine walkI_is (u := ?_) rfl (by simp) rfl ?_ ?_; rotate_left; (focus (intro A w' hS hA K hK; (simp only [List.map_cons, List.map_nil, knows, Is, Op.operands, Call.operands, List.lookup_cons, List.lookup_nil, Nat.reduceBEq, Bool.false_eq_true, if_false, if_true, Act.eval, Array.getD_eq_getD_getElem?, List.getElem?_toArray, List.getElem?_cons_succ, List.getElem?_cons_zero, Option.getD_some, and_true, true_and, List.append_toArray, List.nil_append, List.cons_append, List.toList_toArray, Array.toList_append, Option.toArray, List.append_nil] at hA); first | fail | (obtain ⟨hSc, hSf, hSs⟩ := hS.cells; go_simp; exact hK _ (by first | exact Ext.rfl' _ | exact Ext.new _ _ | assumption)))); (try simp only [List.nil_append, List.cons_append]))
              (refine walkI_is (u := ?_) rfl (by simp) rfl ?_ ?_; rotate_left; (focus (intro A w' hS hA K hK; (simp only [List.map_cons, List.map_nil, knows, Is, Op.operands, Call.operands, List.lookup_cons, List.lookup_nil, Nat.reduceBEq, Bool.false_eq_true, if_false, if_true, Act.eval, Array.getD_eq_getD_getElem?, List.getElem?_toArray, List.getElem?_cons_succ, List.getElem?_cons_zero, Option.getD_some, and_true, true_and, List.append_toArray, List.nil_append, List.cons_append, List.toList_toArray, Array.toList_append, Option.toArray, List.append_nil] at hA); first | fail | (obtain ⟨hSc, hSf, hSs⟩ := hS.cells; go_simp; exact hK _ (by first | exact Ext.rfl' _ | exact Ext.new _ _ | assumption)))); (try simp only [List.nil_append, List.cons_append]))
              (refine walkI_is (u := ?_) rfl (by simp) rfl ?_ ?_; rotate_left; (focus (intro A w' hS hA K hK; (simp only [List.map_cons, List.map_nil, knows, Is, Op.operands, Call.operands, List.lookup_cons, List.lookup_nil, Nat.reduceBEq, Bool.false_eq_true, if_false, if_true, Act.eval, Array.getD_eq_getD_getElem?, List.getElem?_toArray, List.getElem?_cons_succ, List.getElem?_cons_zero, Option.getD_some, and_true, true_and, List.append_toArray, List.nil_append, List.cons_append, List.toList_toArray, Array.toList_append, Option.toArray, List.append_nil] at hA); first | (refine oper_load_mid 73 (.tmp 41) rfl g ((m + 1) * 4 + (k + 1) * 4) (by simpa [Act.eval] using hA) (enC z1) _ (fun j u h => hS.cell1 (gd1.out j u h)) Try.underlying73 rfl (by kernel_rfl) ?_; exact hK _ (Ext.rfl' _)) | (obtain ⟨hSc, hSf, hSs⟩ := hS.cells; go_simp; exact hK _ (by first | exact Ext.rfl' _ | exact Ext.new _ _ | assumption)))); (try simp only [List.nil_append, List.cons_append]))
              (refine walkI_is (u := ?_) rfl (by simp) rfl ?_ ?_; rotate_left; (focus (intro A w' hS hA K hK; (simp only [List.map_cons, List.map_nil, knows, Is, Op.operands, Call.operands, List.lookup_cons, List.lookup_nil, Nat.reduceBEq, Bool.false_eq_true, if_false, if_true, Act.eval, Array.getD_eq_getD_getElem?, List.getElem?_toArray, List.getElem?_cons_succ, List.getElem?_cons_zero, Option.getD_some, and_true, true_and, List.append_toArray, List.nil_append, List.cons_append, List.toList_toArray, Array.toList_append, Option.toArray, List.append_nil] at hA); first | fail | (obtain ⟨hSc, hSf, hSs⟩ := hS.cells; go_simp; exact hK _ (by first | exact Ext.rfl' _ | exact Ext.new _ _ | assumption)))); (try simp only [List.nil_append, List.cons_append]))
              (refine walkI_is (u := ?_) rfl (by simp) rfl ?_ ?_; rotate_left; (focus (intro A w' hS hA K hK; (simp only [List.map_cons, List.map_nil, knows, Is, Op.operands, Call.operands, List.lookup_cons, List.lookup_nil, Nat.reduceBEq, Bool.false_eq_true, if_false, if_true, Act.eval, Array.getD_eq_getD_getElem?, List.getElem?_toArray, List.getElem?_cons_succ, List.getElem?_cons_zero, Option.getD_some, and_true, true_and, List.append_toArray, List.nil_append, List.cons_append, List.toList_toArray, Array.toList_append, Option.toArray, List.append_nil] at hA); first | fail | (obtain ⟨hSc, hSf, hSs⟩ := hS.cells; go_simp; exact hK _ (by first | exact Ext.rfl' _ | exact Ext.new _ _ | assumption)))); (try simp only [List.nil_append, List.cons_append]))
              (refine walkI_is (u := ?_) rfl (by simp) rfl ?_ ?_; rotate_left; (focus (intro A w' hS hA K hK; (simp only [List.map_cons, List.map_nil, knows, Is, Op.operands, Call.operands, List.lookup_cons, List.lookup_nil, Nat.reduceBEq, Bool.false_eq_true, if_false, if_true, Act.eval, Array.getD_eq_getD_getElem?, List.getElem?_toArray, List.getElem?_cons_succ, List.getElem?_cons_zero, Option.getD_some, and_true, true_and, List.append_toArray, List.nil_append, List.cons_append, List.toList_toArray, Array.toList_append, Option.toArray, List.append_nil] at hA); first | fail | (obtain ⟨hSc, hSf, hSs⟩ := hS.cells; go_simp; exact hK _ (by first | exact Ext.rfl' _ | exact Ext.new _ _ | assumption)))); (try simp only [List.nil_append, List.cons_append]))
              (refine walkI_is (u := ?_) rfl (by simp) rfl ?_ ?_; rotate_left; (focus (intro A w' hS hA K hK; (simp only [List.map_cons, List.map_nil, knows, Is, Op.operands, Call.operands, List.lookup_cons, List.lookup_nil, Nat.reduceBEq, Bool.false_eq_true, if_false, if_true, Act.eval, Array.getD_eq_getD_getElem?, List.getElem?_toArray, List.getElem?_cons_succ, List.getElem?_cons_zero, Option.getD_some, and_true, true_and, List.append_toArray, List.nil_append, List.cons_append, List.toList_toArray, Array.toList_append, Option.toArray, List.append_nil] at hA); first | fail | (obtain ⟨hSc, hSf, hSs⟩ := hS.cells; go_simp; exact hK _ (by first | exact Ext.rfl' _ | exact Ext.new _ _ | assumption)))); (try simp only [List.nil_append, List.cons_append]))
              (refine walkI_is (u := ?_) rfl (by simp) rfl ?_ ?_; rotate_left; (focus (intro A w' hS hA K hK; (simp only [List.map_cons, List.map_nil, knows, Is, Op.operands, Call.operands, List.lookup_cons, List.lookup_nil, Nat.reduceBEq, Bool.false_eq_true, if_false, if_true, Act.eval, Array.getD_eq_getD_getElem?, List.getElem?_toArray, List.getElem?_cons_succ, List.getElem?_cons_zero, Option.getD_some, and_true, true_and, List.append_toArray, List.nil_append, List.cons_append, List.toList_toArray, Array.toList_append, Option.toArray, List.append_nil] at hA); first | (refine oper_load_mid 73 (.tmp 46) rfl g ((m + 1) * 4 + k * 4) (by simpa [Act.eval] using hA) (enC z0) _ (fun j u h => hS.cell1 (gd0.out j u h)) Try.underlying73 rfl (by kernel_rfl) ?_; exact hK _ (Ext.rfl' _)) | (obtain ⟨hSc, hSf, hSs⟩ := hS.cells; go_simp; exact hK _ (by first | exact Ext.rfl' _ | exact Ext.new _ _ | assumption)))); (try simp only [List.nil_append, List.cons_append]))
              (refine walkI_is (u := ?_) rfl (by simp) rfl ?_ ?_; rotate_left; (focus (intro A w' hS hA K hK; (simp only [List.map_cons, List.map_nil, knows, Is, Op.operands, Call.operands, List.lookup_cons, List.lookup_nil, Nat.reduceBEq, Bool.false_eq_true, if_false, if_true, Act.eval, Array.getD_eq_getD_getElem?, List.getElem?_toArray, List.getElem?_cons_succ, List.getElem?_cons_zero, Option.getD_some, and_true, true_and, List.append_toArray, List.nil_append, List.cons_append, List.toList_toArray, Array.toList_append, Option.toArray, List.append_nil] at hA); first | (go_simp; refine RetV_at (hr3.out w') ?_; intro w6 hx6; exact hK _ hx6) | (obtain ⟨hSc, hSf, hSs⟩ := hS.cells; go_simp; exact hK _ (by first | exact Ext.rfl' _ | exact Ext.new _ _ | assumption)))); (try simp only [List.nil_append, List.cons_append]))
              (refine walkI_is (u := ?_) rfl (by simp) rfl ?_ ?_; rotate_left; (focus (intro A w' hS hA K hK; (simp only [List.map_cons, List.map_nil, knows, Is, Op.operands, Call.operands, List.lookup_cons, List.lookup_nil, Nat.reduceBEq, Bool.false_eq_true, if_false, if_true, Act.eval, Array.getD_eq_getD_getElem?, List.getElem?_toArray, List.getElem?_cons_succ, List.getElem?_cons_zero, Option.getD_some, and_true, true_and, List.append_toArray, List.nil_append, List.cons_append, List.toList_toArray, Array.toList_append, Option.toArray, List.append_nil] at hA); first | fail | (obtain ⟨hSc, hSf, hSs⟩ := hS.cells; go_simp; exact hK _ (by first | exact Ext.rfl' _ | exact Ext.new _ _ | assumption)))); (try simp only [List.nil_append, List.cons_append]))
              (refine walkI_nil ?_; simp only [List.nil_append, List.cons_append, fins, Is, forall_eq, Act.put, List.setIfInBounds_toArray, List.set_cons_zero, List.set_cons_succ])
              intro w7 hx7
              have hM7 := hM.ext hx7
              cases q with
              | true =>
                have hday2 : z0.k = z1.k := by have := hq.out; rw [beq_iff_eq] at this; exact this.symm
                have hD2 := Lib.hid (hsk.out hday2)
                clear hday2 hsk hkp
                go_wp2_with fail
                go_roundw
                case rel => exact ⟨i, k + 1, ys, by go_num, by go_num, by omega, by omega, hD2, hM7⟩
                case measure => simp [intOf]; omega
              | false =>
                have hday2 : ¬ z0.k = z1.k := by have := hq.out; rw [beq_eq_false_iff_ne] at this; exact fun e => this e.symm
                have hD2 := Lib.hid (hkp.out hday2)
                have gd7 : Hid (∀ j u, (enC z1)[j]? = some u → w7.cell? ⟨g, (m + 1) * 4 + (k + 1) * 4 + j, none⟩ = some u) := Lib.hid fun j u h => hx7.cell1 (gd1.out j u h)
                have hiy : Hid (i < ys.length) := Lib.hid (by rw [hyl.out]; omega)
                have hia : decide (i < N) = true := by simpa using hiN
                clear hday2 hsk hkp gd1 gd0
                go_upto_region 12 with (fail)
                go_upto_region 13 with (first | (refine wpList_load_mid rfl 73 _ rfl _ _ rfl (enC _) _ gd7.out Try.underlying73 rfl (by kernel_rfl) ?_) | (refine wpList_store_M (xs := ys) (n := N) (cap := c) (g := g) rfl 73 _ _ rfl i rfl (cs := enC z1) rfl (x' := z1) hM7 0 rfl hiy.out ⟨rfl, hI2⟩ rfl (fun u hu => one_EnR (h := noH) _ _ ⟨rfl, hI2⟩ u hu) (by kernel_rfl) ?c5))
                case c5 =>
                  intro w5 hM5
                  try simp only [List.set_cons_zero] at hM5
                  have hkN4 : Hid (m + 1 + (k + 1 + 1) ≤ N) := Lib.hid (by omega)
                  have hik4 : Hid (i + 1 < m + 1 + (k + 1 + 1)) := Lib.hid (by omega)
                  replace hN2 := Lib.hid hN2
                  replace hkN := Lib.hid hkN
                  replace hmN := Lib.hid hmN
                  replace hm := Lib.hid hm
                  go_wp2_with fail
                  go_roundw
                  case rel => exact ⟨i + 1, k + 1, ys.set i z1, by go_num, by go_num, hkN4.out, hik4.out, hD2, hM5⟩
                  case measure => simp [intOf]; omega
            · have hja2 : decide (k + 1 < N - (m + 1)) = false := by simpa using hlt2
              have hkN3 : m + 1 + (k + 1) = N := by omega
              have hdn : Hid (ys.take i = dd xs) := by
                have h := hD.out
                rw [hkN3, ← hN.out] at h
                exact Lib.hid h.done
              have hil : Hid (i ≤ ys.length) := Lib.hid (by rw [hyl.out]; omega)
              have hiN : i < N := by omega
              have hcap : N ≤ c := by
                obtain ⟨cur, -, -, h3, -⟩ := hM.cur 0 rfl
                rw [hyl.out] at h3; exact h3
              clear hD hkN3
              go_upto_region 14 with (fail)
              go_upto_region 15 with (refine wpList_clear_M (xs := ys) (n := N) (cap := c) (g := g) rfl (.tmp 61) 108 rfl i rfl Try.underlying108 zeroEn rfl (by kernel_rfl) hM 0 rfl hil.out ?d5)
              case d5 =>
                intro w5 hM5
                try simp only [List.set_cons_zero] at hM5
                rw [hdn.out] at hM5
                go_wp2_with fail
                go_ret
                exact ⟨_, rfl, hM5⟩
        | false =>
          have hday : ¬ x0.k = x1.k := by have := hqz.out; rw [beq_eq_false_iff_ne] at this; exact fun e => this e.symm
          have hD := Lib.hid (hgo.out hday)
          clear hday hcs hgo
          go_wp2_with fail
          go_roundw
          case rel => exact ⟨m + 1, by omega, by go_num, hD, hxr.then hx3⟩
          case measure => simp [intOf]; omega
      · have hja : decide (m + 1 < N) = false := by simpa using hlt
        have hdd : Hid (dd xs = xs) := by
          show _ = _
          have h := hd.out
          rw [show m + 1 = N by omega, hall.out] at h
          exact h
        have hlti : ¬ ((m + 1 : Nat) : Int) < N := by omega
        go_wp2_with fail
        go_ret
        exact ⟨_, rfl, by rw [hdd.out]; exact hMr⟩
end Go.Proofs.Ytmbkefgmiehdiaa
