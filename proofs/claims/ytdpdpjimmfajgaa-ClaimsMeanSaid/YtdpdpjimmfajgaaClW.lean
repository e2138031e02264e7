/- the law ClaimsMean: the walk. -/
import Derived.Deep.CutBlock
import Derived.OrdersHeld
import Derived.Test.YtdpdpjimmfajgaaClGA
import Derived.Test.YtdpdpjimmfajgaaClOA
import Derived.Test.YtdpdpjimmfajgaaGenV
namespace Go.Proofs.Ytdpdpjimmfajgaa
open Go.RowKit Go.Shelf
set_option linter.unusedSimpArgs false
set_option linter.unusedVariables false
theorem wpOp_intro {P : Program} {ops : Array Oper} {Q : Exit → Act → World → Prop} {i : Nat} {o : Oper} {a : Act} {w : World} (ho : ops[i]? = some o) (hg : o.guard = none) {K : Act → World → Prop} (h : ∀ K' : Act → World → Prop, (∀ a w, K a w → K' a w) → o.wp P a w K' Q) : wpOp P ops Q i K a w := by
  unfold wpOp
  simp only [ho]
  rw [if_pos (by simp [Region.wanted, hg])]
  exact .inl (h K fun _ _ h => h)
/-- a slice of lists of claims -/
def CllR (h : PH) (cs : List Value) (xs : List Cl) : Prop := ∃ v, cs = [v] ∧ ClsR h v xs
theorem mono_CllR : Mono CllR := by
  rintro h h' cs x hl ⟨v, rfl, h1⟩
  exact ⟨v, rfl, h1.mono mono_ClR hl⟩
theorem CllR.at {H : PH} {w : World} {a : Option Addr} {n cap : Nat} {xss : List (List Cl)} (hr : SliceRep CllR 1 H (.slice a n cap) xss) (hl : PLe H (ph w)) (k : Nat) (hk : k < xss.length) :
    ∃ b o a4 c4, a = some ⟨b, o, none⟩ ∧ w.cell? ⟨b, o + k, none⟩ = some (.slice a4 xss[k].length c4) ∧ ClsR H (.slice a4 xss[k].length c4) xss[k] ∧ b < w.heap.size := by
  obtain ⟨b, o, cs, h1, h2, h3, v, rfl, h4⟩ := hr.get k hk
  obtain ⟨a4, c4, rfl, -, h4⟩ := h4.form
  have := cellAt_mono hl (h3 0 (by omega))
  rw [← cell_ph] at this
  exact ⟨b, o, a4, c4, h1, by simpa using this, h4, cell_lt (by simpa using this)⟩
theorem some_bulk {i : Nat} {c : Cl} (h : SomeCl i c) (hi : i ≤ 5) : c.body.bulk ≤ 10000 ∧ c.refs.length ≤ 100 := by
  obtain ⟨h1, h2, h3, h4, h5, h6⟩ := h
  have h7 := whole_bulk _ h1
  unfold SzP at h2
  omega
/-- the results are not great -/
theorem mean_bulk {l : List Cl} (hb : ∀ c ∈ l, c.body.bulk ≤ 30000) (i : Int) : (meaningE l i).1.bulk ≤ 400000 := by
  unfold meaningE
  split
  · simp [noF, Fm.bulk, fbulks]
  · rename_i h
    obtain ⟨hv, h0, h1⟩ := checkC_0 (by simpa using h)
    split
    · rename_i f hf
      have := valid_bulk (meanC_valid hv i.toNat (by omega) hf)
      dsimp only; omega
    · simp [noF, Fm.bulk, fbulks]
theorem alts_bulk {l : List Cl} (i : Int) : sumN Fm.bulk (altsE l i).1 ≤ 390000 := by
  unfold altsE
  split
  · simp [sumN]
  · rename_i h
    obtain ⟨hv, h0, h1⟩ := checkC_0 (by simpa using h)
    split
    · rename_i f hf
      have h2 := altC_len hv i.toNat (by omega) hf
      have h3 := altC_valid hv i.toNat (by omega) hf
      have := sumN_const (f := Fm.bulk) (c := 3168) (l := f) fun x hx => valid_bulk (h3 x hx)
      dsimp only
      have : f.length * 3168 ≤ 64 * 3168 := Nat.mul_le_mul_right _ h2
      omega
    · simp [sumN]
set_option maxRecDepth 100000 in
set_option maxHeartbeats 8000000 in
theorem claimsMean_c (vl : Value) (l : List Int) (at' how by' index : Int) (w : World) (hr : IntsR (ph w) vl l) (ia : I64 at') (ihw : I64 how) (ib : I64 by') (ix : I64 index) :
    Calls Try.prog 3 #[vl, .int .i64 at', .int .i64 how, .int .i64 by', .int .i64 index] w (RetV w (.bool true)) := by
  have hr0 := hr
  obtain ⟨xa, xc, rfl, -, hr⟩ := hr.form
  go_enter Try.func3, Try.ntmps3
  go_wp2_with fail
  refine (some11_c l _ 5 w hr0 (by omega) (by omega)).mono ?_
  rintro e w1 ⟨v1, L1, rfl, hL1, hl5, hall, hx1⟩
  have hbl1 : ∀ c ∈ L1, c.body.bulk ≤ 10000 ∧ c.refs.length ≤ 100 := fun c hc => by
    obtain ⟨j, hj, e⟩ := List.getElem_of_mem hc
    exact some_bulk (hall j c (by rw [List.getElem?_eq_getElem hj, e])) (by omega)
  go_wp2_with fail
  refine (spoilt11_c (H0 := ph w1) v1 L1 at' how by' w1 (fun _ _ h => h) hL1 ia ihw ib (by omega) hbl1).mono ?_
  rintro e w2 ⟨v2, L2, rfl, hL2, hbl2, hx2⟩
  have hL2' : ClsR (ph w2) v2 L2 := hL2.mono mono_ClR (fun k o hk => by
    unfold up at hk
    split at hk
    · exact hx2.ple k o hk
    · exact hk)
  replace hL1 := hL1.mono mono_ClR hx2.ple
  replace hx1 := hx1.then hx2
  obtain ⟨p1, q1, rfl, -, hL1⟩ := hL1.form
  obtain ⟨p2, q2, rfl, -, hL2'⟩ := hL2'.form
  have hm := ((Mem.start w2 (ph w2) (fun _ _ h => h)).new' #[.slice p1 L1.length q1, .slice p2 L2.length q2] 23 (n := w2.heap.size) rfl).asOwn 0 rfl mono_CllR (sz := 1) (xs := [L1, L2]) (n := 2) (by simp) (by simp [maxLen]) rfl ⟨[_], [_], rfl, rfl, ⟨_, rfl, hL1⟩, [_], [], rfl, rfl, ⟨_, rfl, hL2'⟩, rfl⟩
  have hLL := hm.rep 0 rfl
  have hbl : ∀ A ∈ [L1, L2], ∀ c ∈ A, c.body.bulk ≤ 30000 := by
    intro A hA c hc
    simp only [List.mem_cons, List.not_mem_nil, or_false] at hA
    rcases hA with rfl | rfl
    · have := (hbl1 c hc).1; omega
    · exact hbl2 c hc
  have hx0 := hx1.then hm.ex
  have hl2 : [L1, L2].length = 2 := rfl
  clear hm hL1 hL2 hL2' hall hx1 hx2 hbl1 hbl2 hr hr0
  go_upto_region 3 with (fail)
  generalize w2.alloc _ = w3 at *
  generalize [L1, L2] = LL at *
  generalize w2.heap.size = B2 at *
  replace hl2 := Lib.hid hl2
  go_wp2_with fail
  go_loopw [13] (fun vi wr => ∃ k : Nat, k ≤ 2 ∧ vi = .int .i64 k ∧ Ext w3 wr) (fun vi _ => 2 - (intOf vi).toNat)
  case atStart => exact ⟨0, by omega, rfl, Ext.rfl' _⟩
  case round =>
    obtain ⟨k, hk, rfl, hx⟩ := hrel
    by_cases hlt : k < 2
    · have b2 : decide ((k : Int) < 2) = true := by simp; omega
      have b2' : (k : Int) < 2 := by omega
      have hkl : k < LL.length := by rw [hl2.out]; exact hlt
      obtain ⟨b, o, a4, c4, e0, g0, hLA, gl⟩ := CllR.at (hLL.mono mono_CllR hx.ple) (fun _ _ h => h) k hkl
      cases e0
      rw [Nat.zero_add] at g0
      have hbA := hbl _ (List.getElem_mem hkl)
      generalize LL[k] = LA at *
      have hLn : LA.length ≤ 9223372036854775807 := by obtain ⟨_, _, _, h, -⟩ := hLA.form; exact h
      have hwl : IntKind.i64.wrap ((LA.length : Int) - 1) = (LA.length : Int) - 1 := wrap_id (by omega) (by omega)
      have hbA9 : ∀ c ∈ LA, c.body.bulk ≤ 900000 := fun c hc => by have := hbA c hc; omega
      go_wp2_with fail
      (refine wp_region_I 14 (by kernel_rfl) (by kernel_rfl) ?_; simp only [List.toList_toArray, List.take_succ_cons, List.take_zero, List.drop_succ_cons, List.drop_zero])
      (refine walkI_is (u := ?_) rfl (by simp) rfl ?_ ?_; rotate_left; (focus (intro A w' hS hA K hK; (simp only [List.map_cons, List.map_nil, knows, Is, Op.operands, Call.operands, List.lookup_cons, List.lookup_nil, Nat.reduceBEq, Bool.false_eq_true, if_false, if_true, Act.eval, Array.getD_eq_getD_getElem?, List.getElem?_toArray, List.getElem?_cons_succ, List.getElem?_cons_zero, Option.getD_some, and_true, true_and, List.append_toArray, List.nil_append, List.cons_append, List.toList_toArray, Array.toList_append, Option.toArray, List.append_nil] at hA); first | fail | (obtain ⟨hSc, hSf, hSs⟩ := hS.cells; go_simp; exact hK _ (by first | exact Ext.rfl' _ | exact Ext.new _ _ | assumption)))); (try simp only [List.nil_append, List.cons_append]))
      (refine walkI_is (u := ?_) rfl (by simp) rfl ?_ ?_; rotate_left; (focus (intro A w' hS hA K hK; (simp only [List.map_cons, List.map_nil, knows, Is, Op.operands, Call.operands, List.lookup_cons, List.lookup_nil, Nat.reduceBEq, Bool.false_eq_true, if_false, if_true, Act.eval, Array.getD_eq_getD_getElem?, List.getElem?_toArray, List.getElem?_cons_succ, List.getElem?_cons_zero, Option.getD_some, and_true, true_and, List.append_toArray, List.nil_append, List.cons_append, List.toList_toArray, Array.toList_append, Option.toArray, List.append_nil] at hA); first | fail | (obtain ⟨hSc, hSf, hSs⟩ := hS.cells; go_simp; exact hK _ (by first | exact Ext.rfl' _ | exact Ext.new _ _ | assumption)))); (try simp only [List.nil_append, List.cons_append]))
      (refine walkI_is (u := ?_) rfl (by simp) rfl ?_ ?_; rotate_left; (focus (intro A w' hS hA K hK; (simp only [List.map_cons, List.map_nil, knows, Is, Op.operands, Call.operands, List.lookup_cons, List.lookup_nil, Nat.reduceBEq, Bool.false_eq_true, if_false, if_true, Act.eval, Array.getD_eq_getD_getElem?, List.getElem?_toArray, List.getElem?_cons_succ, List.getElem?_cons_zero, Option.getD_some, and_true, true_and, List.append_toArray, List.nil_append, List.cons_append, List.toList_toArray, Array.toList_append, Option.toArray, List.append_nil] at hA); first | fail | (obtain ⟨hSc, hSf, hSs⟩ := hS.cells; go_simp; exact hK _ (by first | exact Ext.rfl' _ | exact Ext.new _ _ | assumption)))); (try simp only [List.nil_append, List.cons_append]))
      (refine walkI_is (u := ?_) rfl (by simp) rfl ?_ ?_; rotate_left; (focus (intro A w' hS hA K hK; (simp only [List.map_cons, List.map_nil, knows, Is, Op.operands, Call.operands, List.lookup_cons, List.lookup_nil, Nat.reduceBEq, Bool.false_eq_true, if_false, if_true, Act.eval, Array.getD_eq_getD_getElem?, List.getElem?_toArray, List.getElem?_cons_succ, List.getElem?_cons_zero, Option.getD_some, and_true, true_and, List.append_toArray, List.nil_append, List.cons_append, List.toList_toArray, Array.toList_append, Option.toArray, List.append_nil] at hA); first | fail | (obtain ⟨hSc, hSf, hSs⟩ := hS.cells; go_simp; exact hK _ (by first | exact Ext.rfl' _ | exact Ext.new _ _ | assumption)))); (try simp only [List.nil_append, List.cons_append]))
      (refine walkI_is (u := ?_) rfl (by simp) rfl ?_ ?_; rotate_left; (focus (intro A w' hS hA K hK; (simp only [List.map_cons, List.map_nil, knows, Is, Op.operands, Call.operands, List.lookup_cons, List.lookup_nil, Nat.reduceBEq, Bool.false_eq_true, if_false, if_true, Act.eval, Array.getD_eq_getD_getElem?, List.getElem?_toArray, List.getElem?_cons_succ, List.getElem?_cons_zero, Option.getD_some, and_true, true_and, List.append_toArray, List.nil_append, List.cons_append, List.toList_toArray, Array.toList_append, Option.toArray, List.append_nil] at hA); first | fail | (obtain ⟨hSc, hSf, hSs⟩ := hS.cells; go_simp; exact hK _ (by first | exact Ext.rfl' _ | exact Ext.new _ _ | assumption)))); (try simp only [List.nil_append, List.cons_append]))
      (refine walkI_is (u := ?_) rfl (by simp) rfl ?_ ?_; rotate_left; (focus (intro A w' hS hA K hK; (simp only [List.map_cons, List.map_nil, knows, Is, Op.operands, Call.operands, List.lookup_cons, List.lookup_nil, Nat.reduceBEq, Bool.false_eq_true, if_false, if_true, Act.eval, Array.getD_eq_getD_getElem?, List.getElem?_toArray, List.getElem?_cons_succ, List.getElem?_cons_zero, Option.getD_some, and_true, true_and, List.append_toArray, List.nil_append, List.cons_append, List.toList_toArray, Array.toList_append, Option.toArray, List.append_nil] at hA); first | fail | (obtain ⟨hSc, hSf, hSs⟩ := hS.cells; go_simp; exact hK _ (by first | exact Ext.rfl' _ | exact Ext.new _ _ | assumption)))); (try simp only [List.nil_append, List.cons_append]))
      (refine walkI_is (u := ?_) rfl (by simp) rfl ?_ ?_; rotate_left; (focus (intro A w' hS hA K hK; (simp only [List.map_cons, List.map_nil, knows, Is, Op.operands, Call.operands, List.lookup_cons, List.lookup_nil, Nat.reduceBEq, Bool.false_eq_true, if_false, if_true, Act.eval, Array.getD_eq_getD_getElem?, List.getElem?_toArray, List.getElem?_cons_succ, List.getElem?_cons_zero, Option.getD_some, and_true, true_and, List.append_toArray, List.nil_append, List.cons_append, List.toList_toArray, Array.toList_append, Option.toArray, List.append_nil] at hA); first | fail | (obtain ⟨hSc, hSf, hSs⟩ := hS.cells; go_simp; exact hK _ (by first | exact Ext.rfl' _ | exact Ext.new _ _ | assumption)))); (try simp only [List.nil_append, List.cons_append]))
      (refine walkI_is (u := ?_) rfl (by simp) rfl ?_ ?_; rotate_left; (focus (intro A w' hS hA K hK; (simp only [List.map_cons, List.map_nil, knows, Is, Op.operands, Call.operands, List.lookup_cons, List.lookup_nil, Nat.reduceBEq, Bool.false_eq_true, if_false, if_true, Act.eval, Array.getD_eq_getD_getElem?, List.getElem?_toArray, List.getElem?_cons_succ, List.getElem?_cons_zero, Option.getD_some, and_true, true_and, List.append_toArray, List.nil_append, List.cons_append, List.toList_toArray, Array.toList_append, Option.toArray, List.append_nil] at hA); first | fail | (obtain ⟨hSc, hSf, hSs⟩ := hS.cells; go_simp; exact hK _ (by first | exact Ext.rfl' _ | exact Ext.new _ _ | assumption)))); (try simp only [List.nil_append, List.cons_append]))
      (refine walkI_is (u := ?_) rfl (by simp) rfl ?_ ?_; rotate_left; (focus (intro A w' hS hA K hK; (simp only [List.map_cons, List.map_nil, knows, Is, Op.operands, Call.operands, List.lookup_cons, List.lookup_nil, Nat.reduceBEq, Bool.false_eq_true, if_false, if_true, Act.eval, Array.getD_eq_getD_getElem?, List.getElem?_toArray, List.getElem?_cons_succ, List.getElem?_cons_zero, Option.getD_some, and_true, true_and, List.append_toArray, List.nil_append, List.cons_append, List.toList_toArray, Array.toList_append, Option.toArray, List.append_nil] at hA); first | fail | (obtain ⟨hSc, hSf, hSs⟩ := hS.cells; go_simp; exact hK _ (by first | exact Ext.rfl' _ | exact Ext.new _ _ | assumption)))); (try simp only [List.nil_append, List.cons_append]))
      (refine walkI_is (u := ?_) rfl (by simp) rfl ?_ ?_; rotate_left; (focus (intro A w' hS hA K hK; (simp only [List.map_cons, List.map_nil, knows, Is, Op.operands, Call.operands, List.lookup_cons, List.lookup_nil, Nat.reduceBEq, Bool.false_eq_true, if_false, if_true, Act.eval, Array.getD_eq_getD_getElem?, List.getElem?_toArray, List.getElem?_cons_succ, List.getElem?_cons_zero, Option.getD_some, and_true, true_and, List.append_toArray, List.nil_append, List.cons_append, List.toList_toArray, Array.toList_append, Option.toArray, List.append_nil] at hA); first | fail | (obtain ⟨hSc, hSf, hSs⟩ := hS.cells; go_simp; exact hK _ (by first | exact Ext.rfl' _ | exact Ext.new _ _ | assumption)))); (try simp only [List.nil_append, List.cons_append]))
      (refine walkI_is (u := ?_) rfl (by simp) rfl ?_ ?_; rotate_left; (focus (intro A w' hS hA K hK; (simp only [List.map_cons, List.map_nil, knows, Is, Op.operands, Call.operands, List.lookup_cons, List.lookup_nil, Nat.reduceBEq, Bool.false_eq_true, if_false, if_true, Act.eval, Array.getD_eq_getD_getElem?, List.getElem?_toArray, List.getElem?_cons_succ, List.getElem?_cons_zero, Option.getD_some, and_true, true_and, List.append_toArray, List.nil_append, List.cons_append, List.toList_toArray, Array.toList_append, Option.toArray, List.append_nil] at hA); first | fail | (obtain ⟨hSc, hSf, hSs⟩ := hS.cells; go_simp; exact hK _ (by first | exact Ext.rfl' _ | exact Ext.new _ _ | assumption)))); (try simp only [List.nil_append, List.cons_append]))
      (refine walkI_is (u := ?_) rfl (by simp) rfl ?_ ?_; rotate_left; (focus (intro A w' hS hA K hK; (simp only [List.map_cons, List.map_nil, knows, Is, Op.operands, Call.operands, List.lookup_cons, List.lookup_nil, Nat.reduceBEq, Bool.false_eq_true, if_false, if_true, Act.eval, Array.getD_eq_getD_getElem?, List.getElem?_toArray, List.getElem?_cons_succ, List.getElem?_cons_zero, Option.getD_some, and_true, true_and, List.append_toArray, List.nil_append, List.cons_append, List.toList_toArray, Array.toList_append, Option.toArray, List.append_nil] at hA); first | fail | (obtain ⟨hSc, hSf, hSs⟩ := hS.cells; go_simp; exact hK _ (by first | exact Ext.rfl' _ | exact Ext.new _ _ | assumption)))); (try simp only [List.nil_append, List.cons_append]))
      (refine walkI_step (NewSl wr #[.int .i64 index, .int .i64 (-1), .int .i64 0, .int .i64 1, .int .i64 2, .int .i64 3, .int .i64 4, .int .i64 ((LA.length : Int) - 1), .int .i64 LA.length] 3 9) rfl (by simp) rfl (stab_NewSl _ _ _ _) ?_ ?_; (focus (intro A w' hS hA K hK; (simp only [List.map_cons, List.map_nil, knows, Is, Op.operands, Call.operands, List.lookup_cons, List.lookup_nil, Nat.reduceBEq, Bool.false_eq_true, if_false, if_true, Act.eval, Array.getD_eq_getD_getElem?, List.getElem?_toArray, List.getElem?_cons_succ, List.getElem?_cons_zero, Option.getD_some, and_true, true_and, List.append_toArray, List.nil_append, List.cons_append, List.toList_toArray, Array.toList_append, Option.toArray, List.append_nil] at hA); (have hs' := hS.size; go_simp; exact hK _ _ (Ext.new _ _) ⟨_, rfl, Own.new _ _ _, by omega⟩))); (try simp only [List.nil_append, List.cons_append]))
      (refine walkI_step (NewSl wr #[.int .i64 index, .int .i64 (-1), .int .i64 0, .int .i64 1, .int .i64 2, .int .i64 3, .int .i64 4, .int .i64 ((LA.length : Int) - 1), .int .i64 LA.length] 3 9) rfl (by simp) rfl (stab_NewSl _ _ _ _) ?_ ?_; (focus (intro A w' hS hA K hK; (simp only [List.map_cons, List.map_nil, knows, Is, Op.operands, Call.operands, List.lookup_cons, List.lookup_nil, Nat.reduceBEq, Bool.false_eq_true, if_false, if_true, Act.eval, Array.getD_eq_getD_getElem?, List.getElem?_toArray, List.getElem?_cons_succ, List.getElem?_cons_zero, Option.getD_some, and_true, true_and, List.append_toArray, List.nil_append, List.cons_append, List.toList_toArray, Array.toList_append, Option.toArray, List.append_nil] at hA); (go_simp; exact hK _ _ (Ext.rfl' _) hA))); (try simp only [List.nil_append, List.cons_append]))
      (refine walkI_nil ?_; simp only [List.nil_append, List.cons_append, fins, Is, forall_eq, Act.put, List.setIfInBounds_toArray, List.set_cons_zero, List.set_cons_succ])
      rintro w4 hx4 v51 - v14 ⟨B14, rfl, ho14, -⟩
      replace hx := hx.then hx4
      replace g0 := hx4.cell1 g0
      replace hLA := hLA.mono mono_ClR hx4.ple
      clear hx4 hLL
      go_wp2_with fail
      go_loopw [15] (fun vi wr => ∃ j : Nat, j ≤ 9 ∧ vi = .int .i64 j ∧ Ext w4 wr) (fun vi _ => 9 - (intOf vi).toNat)
      case atStart => exact ⟨0, by omega, rfl, Ext.rfl' _⟩
      case round =>
        obtain ⟨j, hj, rfl, hy⟩ := hrel
        by_cases hltj : j < 9
        · have b9 : decide ((j : Int) < 9) = true := by simp; omega
          have b9' : (j : Int) < 9 := by omega
          replace g0 := hy.cell1 g0
          replace gl := cell_lt g0
          replace hLA := hLA.mono mono_ClR hy.ple
          replace ho14 := ho14.keep hy
          obtain ⟨p, hp, hcp⟩ : ∃ p : Int, I64 p ∧ wr.cell? ⟨B14, j, none⟩ = some (.int .i64 p) := by
            rw [ho14.facts.1 j]
            rcases j with _ | _ | _ | _ | _ | _ | _ | _ | _ | j
            all_goals first | omega | exact ⟨_, ix, rfl⟩ | (refine ⟨_, ?_, rfl⟩; unfold I64; omega)
          have hlp := cell_lt hcp
          have hmb := mean_bulk hbA p
          have hab := alts_bulk (l := LA) p
          have hcM := Lib.hid (fun W (e : Ext wr W) => meaning_h (H0 := ph wr) _ LA p W e.ple hLA hbA9)
          have hcR := Lib.hid (fun W (e : Ext wr W) => rMeaning_h (H0 := ph wr) _ LA p W e.ple hLA hbA9)
          have hcA := Lib.hid (fun W (e : Ext wr W) => alts_c _ LA p W (hLA.mono mono_ClR e.ple) hbA9)
          have hcB := Lib.hid (fun W (e : Ext wr W) => rAlts_c _ LA p W (hLA.mono mono_ClR e.ple) hbA9)
          generalize meaningE LA p = F at *
          generalize altsE LA p = G at *
          clear hLA hbA hbA9
          go_upto_region 10 with (fail)
          go_cut [16, 17] (fun va vb wx => ∃ (B : Nat) (b3 : Option Addr) (d3 : Nat) (b4 : Option Addr) (d4 : Nat), va = .pointer (some ⟨B, 0, none⟩) ∧ vb = .int .i64 F.2 ∧ Own wx B #[.int .i64 F.1.op, .int .i64 F.1.n, .slice b3 F.1.inn.length d3, .slice b4 F.1.kids.length d4] 30 ∧ FmR (ph wx) (fmC F.1 b3 d3 b4 d4) F.1 ∧ Ext wr wx)
          case first =>
            refine wp_region_held (S := fun w' => Ext wr w') (by kernel_rfl) ?_
            have hS0 : Ext wr { wr with drawn := World.drawn wr + 1 } := (Ext.rfl' wr).drew'
            (refine wpAnyH_take (i := 0) (v := ?_) rfl (by kernel_rfl) (by kernel_rfl) (by kernel_rfl) (fun _ _ _ h => h) (Or.inl ⟨by rfl, ?_⟩) (hS0) ?_; rotate_left; (focus (intro w hw; obtain ⟨hwc, hwf, hws⟩ := Ext.cells hw; go_simp; try (with_reducible rfl))); (try simp only [Act.put, List.setIfInBounds_toArray, List.set_cons_zero, List.set_cons_succ]))
            (refine wpAnyH_take (i := 1) (v := ?_) rfl (by kernel_rfl) (by kernel_rfl) (by kernel_rfl) (fun _ _ _ h => h) (Or.inl ⟨by rfl, ?_⟩) (hS0) ?_; rotate_left; (focus (intro w hw; obtain ⟨hwc, hwf, hws⟩ := Ext.cells hw; go_simp; try (with_reducible rfl))); (try simp only [Act.put, List.setIfInBounds_toArray, List.set_cons_zero, List.set_cons_succ]))
            (refine wpAnyH_take (i := 2) (v := ?_) rfl (by kernel_rfl) (by kernel_rfl) (by kernel_rfl) (fun _ _ _ h => h) (Or.inl ⟨by rfl, ?_⟩) (hS0) ?_; rotate_left; (focus (intro w hw; obtain ⟨hwc, hwf, hws⟩ := Ext.cells hw; go_simp; try (with_reducible rfl))); (try simp only [Act.put, List.setIfInBounds_toArray, List.set_cons_zero, List.set_cons_succ]))
            (refine wpAnyH_take (i := 3) (v := ?_) rfl (by kernel_rfl) (by kernel_rfl) (by kernel_rfl) (fun _ _ _ h => h) (Or.inl ⟨by rfl, ?_⟩) (hS0) ?_; rotate_left; (focus (intro w hw; obtain ⟨hwc, hwf, hws⟩ := Ext.cells hw; go_simp; try (with_reducible rfl))); (try simp only [Act.put, List.setIfInBounds_toArray, List.set_cons_zero, List.set_cons_succ]))
            (refine wpAnyH_take (i := 4) (v := ?_) rfl (by kernel_rfl) (by kernel_rfl) (by kernel_rfl) (fun _ _ _ h => h) (Or.inl ⟨by rfl, ?_⟩) (hS0) ?_; rotate_left; (focus (intro w hw; obtain ⟨hwc, hwf, hws⟩ := Ext.cells hw; go_simp; try (with_reducible rfl))); (try simp only [Act.put, List.setIfInBounds_toArray, List.set_cons_zero, List.set_cons_succ]))
            (refine wpAnyH_take (i := 5) (v := ?_) rfl (by kernel_rfl) (by kernel_rfl) (by kernel_rfl) (fun _ _ _ h => h) (Or.inl ⟨by rfl, ?_⟩) (hS0) ?_; rotate_left; (focus (intro w hw; obtain ⟨hwc, hwf, hws⟩ := Ext.cells hw; go_simp; try (with_reducible rfl))); (try simp only [Act.put, List.setIfInBounds_toArray, List.set_cons_zero, List.set_cons_succ]))
            (refine wpAnyH_take (i := 6) (v := ?_) rfl (by kernel_rfl) (by kernel_rfl) (by kernel_rfl) (fun _ _ _ h => h) (Or.inl ⟨by rfl, ?_⟩) (hS0) ?_; rotate_left; (focus (intro w hw; obtain ⟨hwc, hwf, hws⟩ := Ext.cells hw; go_simp; try (with_reducible rfl))); (try simp only [Act.put, List.setIfInBounds_toArray, List.set_cons_zero, List.set_cons_succ]))
            (refine wpAnyH_take (i := 7) (v := ?_) rfl (by kernel_rfl) (by kernel_rfl) (by kernel_rfl) (fun _ _ _ h => h) (Or.inl ⟨by rfl, ?_⟩) (hS0) ?_; rotate_left; (focus (intro w hw; obtain ⟨hwc, hwf, hws⟩ := Ext.cells hw; go_simp; try (with_reducible rfl))); (try simp only [Act.put, List.setIfInBounds_toArray, List.set_cons_zero, List.set_cons_succ]))
            have hpd : PLe (ph wr) (ph { wr with drawn := World.drawn wr + 1 }) := (fun _ _ h => h)
            generalize ({ wr with drawn := World.drawn wr + 1 } : World) = Wd at *
            refine wpAnyH_all (rs := [8, 12]) (by kernel_rfl) (by simp) (fun i hi => ?_)
            rcases List.mem_cons.1 hi with rfl | hi
            · refine wpOp_intro rfl rfl (fun K hK => ?_)
              go_simp
              refine ((hcM).out _ ((Ext.rfl' wr).then hS0)).mono ?_
              rintro e w5 ⟨b3, d3, b4, d4, rfl, hx5, hF⟩
              have hS5 := hS0.then hx5
              have hl5 := up_ple hpd hx5
              generalize up (ph wr) Wd w5 = Hf at *
              refine hK _ _ ⟨hS5, ?_⟩
              clear hK K hx5
              (refine wpAnyH_take (i := 9) (v := ?_) rfl (by kernel_rfl) (by kernel_rfl) (by kernel_rfl) (fun _ _ _ h => h) (Or.inl ⟨by rfl, ?_⟩) (hS5) ?_; rotate_left; (focus (intro w hw; obtain ⟨hwc, hwf, hws⟩ := Ext.cells hw; go_simp; try (with_reducible rfl))); (try simp only [Act.put, List.setIfInBounds_toArray, List.set_cons_zero, List.set_cons_succ]))
              (refine wpAnyH_take (i := 10) (v := ?_) rfl (by kernel_rfl) (by kernel_rfl) (by kernel_rfl) (fun _ _ _ h => h) (Or.inl ⟨by rfl, ?_⟩) (hS5) ?_; rotate_left; (focus (intro w hw; obtain ⟨hwc, hwf, hws⟩ := Ext.cells hw; go_simp; try (with_reducible rfl))); (try simp only [Act.put, List.setIfInBounds_toArray, List.set_cons_zero, List.set_cons_succ]))
              (refine wpAnyH_take (i := 11) (v := ?_) rfl (by kernel_rfl) (by kernel_rfl) (by kernel_rfl) (fun _ _ _ h => h) (Or.inl ⟨by rfl, ?_⟩) (hS5) ?_; rotate_left; (focus (intro w hw; obtain ⟨hwc, hwf, hws⟩ := Ext.cells hw; go_simp; try (with_reducible rfl))); (try simp only [Act.put, List.setIfInBounds_toArray, List.set_cons_zero, List.set_cons_succ]))
              (refine wpAnyH_all (rs := [12]) (by kernel_rfl) (by simp) (fun i hi => ?_); obtain rfl := List.mem_singleton.1 hi; clear hi; refine wpOp_intro rfl rfl (fun K hK => ?_))
              go_simp
              have hS7 := hS5.alloc' (.cells #[.int .i64 0, .int .i64 0, .slice none 0 0, .slice none 0 0] 30)
              refine hK _ _ ⟨hS7, ?_⟩
              clear hK K
              have oz := Own.new w5 #[.int .i64 0, .int .i64 0, .slice none 0 0, .slice none 0 0] 30
              have hBz := hS5.size
              have hl7 := hl5.trans (Ext.new w5 (.cells #[.int .i64 0, .int .i64 0, .slice none 0 0, .slice none 0 0] 30)).ple
              have hHz := fresh_none hl5 (Nat.le_refl _)
              generalize w5.alloc _ = W7 at *
              generalize w5.heap.size = Bz at *
              have ul := oz.lt
              obtain ⟨uc, uf⟩ := oz.facts
              have u0 : _ = some (Value.int .i64 0) := uc 0
              have u1 : _ = some (Value.int .i64 0) := uc 1
              have u2 : _ = some (Value.slice none 0 0) := uc 2
              have u3 : _ = some (Value.slice none 0 0) := uc 3
              clear uc
              (refine wpAnyH_all (rs := [13]) (by kernel_rfl) (by simp) (fun i hi => ?_); obtain rfl := List.mem_singleton.1 hi; clear hi; refine wpOp_intro rfl rfl (fun K hK => ?_))
              go_simp
              have o9 := (((oz.set 0 (.int .i64 F.1.op)).set 1 (.int .i64 F.1.n)).set 2 (.slice b3 F.1.inn.length d3)).set 3 (.slice b4 F.1.kids.length d4)
              simp only [List.setIfInBounds_toArray, List.set_cons_succ, List.set_cons_zero] at o9
              have hS9 : Ext wr _ := (((hS7.set' (p := ⟨Bz, 0, none⟩) hBz (.int .i64 F.1.op)).set' (p := ⟨Bz, 1, none⟩) hBz (.int .i64 F.1.n)).set' (p := ⟨Bz, 2, none⟩) hBz (.slice b3 F.1.inn.length d3)).set' (p := ⟨Bz, 3, none⟩) hBz (.slice b4 F.1.kids.length d4)
              have hF9 := mono_FmR _ _ _ _ ((((hl7.setC hHz 0 (.int .i64 F.1.op)).setC hHz 1 (.int .i64 F.1.n)).setC hHz 2 (.slice b3 F.1.inn.length d3)).setC hHz 3 (.slice b4 F.1.kids.length d4)) hF
              refine hK _ _ ⟨hS9, ?_⟩
              clear hK K u0 u1 u2 u3 uf ul oz hl7
              generalize World.setCell _ _ _ = W9 at *
              (refine wpAnyH_take (i := 14) (v := ?_) rfl (by kernel_rfl) (by kernel_rfl) (by kernel_rfl) (fun _ _ _ h => h) (Or.inl ⟨by rfl, ?_⟩) (hS9) ?_; rotate_left; (focus (intro w hw; obtain ⟨hwc, hwf, hws⟩ := Ext.cells hw; go_simp; try (with_reducible rfl))); (try simp only [Act.put, List.setIfInBounds_toArray, List.set_cons_zero, List.set_cons_succ]))
              refine wpAnyH_done (by kernel_rfl) ?_ _
              try simp only [List.getElem?_toArray, List.getElem_toArray, List.getElem?_cons_succ, List.getElem?_cons_zero, List.getElem_cons_succ, List.getElem_cons_zero, Act.put, List.setIfInBounds_toArray, List.set_cons_zero, List.set_cons_succ]
              go_wp2_with fail
              go_meet
              case rel => exact ⟨Bz, b3, d3, b4, d4, rfl, rfl, o9, hF9, hS9⟩
            · obtain rfl := List.mem_singleton.1 hi
              refine wpOp_intro rfl rfl (fun K hK => ?_)
              go_simp
              have hS5 := hS0.alloc' (.cells #[.int .i64 0, .int .i64 0, .slice none 0 0, .slice none 0 0] 30)
              refine hK _ _ ⟨hS5, ?_⟩
              clear hK K
              have oz := Own.new Wd #[.int .i64 0, .int .i64 0, .slice none 0 0, .slice none 0 0] 30
              have hBz := hS0.size
              have hp5 := hpd.trans (Ext.new Wd (.cells #[.int .i64 0, .int .i64 0, .slice none 0 0, .slice none 0 0] 30)).ple
              have hHz := fresh_none hpd (Nat.le_refl Wd.heap.size)
              generalize Wd.alloc _ = W5 at *
              generalize Wd.heap.size = Bz at *
              (refine wpAnyH_all (rs := [8]) (by kernel_rfl) (by simp) (fun i hi => ?_); obtain rfl := List.mem_singleton.1 hi; clear hi; refine wpOp_intro rfl rfl (fun K hK => ?_))
              go_simp
              refine ((hcM).out _ ((Ext.rfl' wr).then hS5)).mono ?_
              rintro e W7 ⟨b3, d3, b4, d4, rfl, hx7, hF⟩
              have hS7 := hS5.then hx7
              have hl7 := up_ple hp5 hx7
              replace hHz := up_none (w' := W7) hHz oz.lt
              replace oz := oz.keep hx7
              generalize up (ph wr) W5 W7 = Hf at *
              refine hK _ _ ⟨hS7, ?_⟩
              clear hK K hx7
              (refine wpAnyH_take (i := 9) (v := ?_) rfl (by kernel_rfl) (by kernel_rfl) (by kernel_rfl) (fun _ _ _ h => h) (Or.inl ⟨by rfl, ?_⟩) (hS7) ?_; rotate_left; (focus (intro w hw; obtain ⟨hwc, hwf, hws⟩ := Ext.cells hw; go_simp; try (with_reducible rfl))); (try simp only [Act.put, List.setIfInBounds_toArray, List.set_cons_zero, List.set_cons_succ]))
              (refine wpAnyH_take (i := 10) (v := ?_) rfl (by kernel_rfl) (by kernel_rfl) (by kernel_rfl) (fun _ _ _ h => h) (Or.inl ⟨by rfl, ?_⟩) (hS7) ?_; rotate_left; (focus (intro w hw; obtain ⟨hwc, hwf, hws⟩ := Ext.cells hw; go_simp; try (with_reducible rfl))); (try simp only [Act.put, List.setIfInBounds_toArray, List.set_cons_zero, List.set_cons_succ]))
              (refine wpAnyH_take (i := 11) (v := ?_) rfl (by kernel_rfl) (by kernel_rfl) (by kernel_rfl) (fun _ _ _ h => h) (Or.inl ⟨by rfl, ?_⟩) (hS7) ?_; rotate_left; (focus (intro w hw; obtain ⟨hwc, hwf, hws⟩ := Ext.cells hw; go_simp; try (with_reducible rfl))); (try simp only [Act.put, List.setIfInBounds_toArray, List.set_cons_zero, List.set_cons_succ]))
              have ul := oz.lt
              obtain ⟨uc, uf⟩ := oz.facts
              have u0 : _ = some (Value.int .i64 0) := uc 0
              have u1 : _ = some (Value.int .i64 0) := uc 1
              have u2 : _ = some (Value.slice none 0 0) := uc 2
              have u3 : _ = some (Value.slice none 0 0) := uc 3
              clear uc
              (refine wpAnyH_all (rs := [13]) (by kernel_rfl) (by simp) (fun i hi => ?_); obtain rfl := List.mem_singleton.1 hi; clear hi; refine wpOp_intro rfl rfl (fun K hK => ?_))
              go_simp
              have o9 := (((oz.set 0 (.int .i64 F.1.op)).set 1 (.int .i64 F.1.n)).set 2 (.slice b3 F.1.inn.length d3)).set 3 (.slice b4 F.1.kids.length d4)
              simp only [List.setIfInBounds_toArray, List.set_cons_succ, List.set_cons_zero] at o9
              have hS9 : Ext wr _ := (((hS7.set' (p := ⟨Bz, 0, none⟩) hBz (.int .i64 F.1.op)).set' (p := ⟨Bz, 1, none⟩) hBz (.int .i64 F.1.n)).set' (p := ⟨Bz, 2, none⟩) hBz (.slice b3 F.1.inn.length d3)).set' (p := ⟨Bz, 3, none⟩) hBz (.slice b4 F.1.kids.length d4)
              have hF9 := mono_FmR _ _ _ _ ((((hl7.setC hHz 0 (.int .i64 F.1.op)).setC hHz 1 (.int .i64 F.1.n)).setC hHz 2 (.slice b3 F.1.inn.length d3)).setC hHz 3 (.slice b4 F.1.kids.length d4)) hF
              refine hK _ _ ⟨hS9, ?_⟩
              clear hK K u0 u1 u2 u3 uf ul oz hl7
              generalize World.setCell _ _ _ = W9 at *
              (refine wpAnyH_take (i := 14) (v := ?_) rfl (by kernel_rfl) (by kernel_rfl) (by kernel_rfl) (fun _ _ _ h => h) (Or.inl ⟨by rfl, ?_⟩) (hS9) ?_; rotate_left; (focus (intro w hw; obtain ⟨hwc, hwf, hws⟩ := Ext.cells hw; go_simp; try (with_reducible rfl))); (try simp only [Act.put, List.setIfInBounds_toArray, List.set_cons_zero, List.set_cons_succ]))
              refine wpAnyH_done (by kernel_rfl) ?_ _
              try simp only [List.getElem?_toArray, List.getElem_toArray, List.getElem?_cons_succ, List.getElem?_cons_zero, List.getElem_cons_succ, List.getElem_cons_zero, Act.put, List.setIfInBounds_toArray, List.set_cons_zero, List.set_cons_succ]
              go_wp2_with fail
              go_meet
              case rel => exact ⟨Bz, b3, d3, b4, d4, rfl, rfl, o9, hF9, hS9⟩
          case rest =>
          obtain ⟨Ba, b3, d3, b4, d4, rfl, rfl, oa, hFa, hza⟩ := hcut
          obtain ⟨Wa, rfl⟩ : ∃ Wa, wc = Wa := ⟨_, rfl⟩
          replace g0 := hza.cell1 g0
          replace gl := cell_lt g0
          replace hcp := hza.cell1 hcp
          replace hlp := cell_lt hcp
          go_upto_region 11 with (fail)
          go_cut [18, 19] (fun va vb wx => ∃ (B : Nat) (b3 : Option Addr) (d3 : Nat) (b4 : Option Addr) (d4 : Nat), va = .pointer (some ⟨B, 0, none⟩) ∧ vb = .int .i64 F.2 ∧ Own wx B #[.int .i64 F.1.op, .int .i64 F.1.n, .slice b3 F.1.inn.length d3, .slice b4 F.1.kids.length d4] 30 ∧ FmR (ph wx) (fmC F.1 b3 d3 b4 d4) F.1 ∧ Ext wc wx)
          case first =>
            refine wp_region_held (S := fun w' => Ext wc w') (by kernel_rfl) ?_
            have hS0 : Ext wc { wc with drawn := World.drawn wc + 1 } := (Ext.rfl' wc).drew'
            (refine wpAnyH_take (i := 0) (v := ?_) rfl (by kernel_rfl) (by kernel_rfl) (by kernel_rfl) (fun _ _ _ h => h) (Or.inl ⟨by rfl, ?_⟩) (hS0) ?_; rotate_left; (focus (intro w hw; obtain ⟨hwc, hwf, hws⟩ := Ext.cells hw; go_simp; try (with_reducible rfl))); (try simp only [Act.put, List.setIfInBounds_toArray, List.set_cons_zero, List.set_cons_succ]))
            (refine wpAnyH_take (i := 1) (v := ?_) rfl (by kernel_rfl) (by kernel_rfl) (by kernel_rfl) (fun _ _ _ h => h) (Or.inl ⟨by rfl, ?_⟩) (hS0) ?_; rotate_left; (focus (intro w hw; obtain ⟨hwc, hwf, hws⟩ := Ext.cells hw; go_simp; try (with_reducible rfl))); (try simp only [Act.put, List.setIfInBounds_toArray, List.set_cons_zero, List.set_cons_succ]))
            (refine wpAnyH_take (i := 2) (v := ?_) rfl (by kernel_rfl) (by kernel_rfl) (by kernel_rfl) (fun _ _ _ h => h) (Or.inl ⟨by rfl, ?_⟩) (hS0) ?_; rotate_left; (focus (intro w hw; obtain ⟨hwc, hwf, hws⟩ := Ext.cells hw; go_simp; try (with_reducible rfl))); (try simp only [Act.put, List.setIfInBounds_toArray, List.set_cons_zero, List.set_cons_succ]))
            (refine wpAnyH_take (i := 3) (v := ?_) rfl (by kernel_rfl) (by kernel_rfl) (by kernel_rfl) (fun _ _ _ h => h) (Or.inl ⟨by rfl, ?_⟩) (hS0) ?_; rotate_left; (focus (intro w hw; obtain ⟨hwc, hwf, hws⟩ := Ext.cells hw; go_simp; try (with_reducible rfl))); (try simp only [Act.put, List.setIfInBounds_toArray, List.set_cons_zero, List.set_cons_succ]))
            (refine wpAnyH_take (i := 4) (v := ?_) rfl (by kernel_rfl) (by kernel_rfl) (by kernel_rfl) (fun _ _ _ h => h) (Or.inl ⟨by rfl, ?_⟩) (hS0) ?_; rotate_left; (focus (intro w hw; obtain ⟨hwc, hwf, hws⟩ := Ext.cells hw; go_simp; try (with_reducible rfl))); (try simp only [Act.put, List.setIfInBounds_toArray, List.set_cons_zero, List.set_cons_succ]))
            (refine wpAnyH_take (i := 5) (v := ?_) rfl (by kernel_rfl) (by kernel_rfl) (by kernel_rfl) (fun _ _ _ h => h) (Or.inl ⟨by rfl, ?_⟩) (hS0) ?_; rotate_left; (focus (intro w hw; obtain ⟨hwc, hwf, hws⟩ := Ext.cells hw; go_simp; try (with_reducible rfl))); (try simp only [Act.put, List.setIfInBounds_toArray, List.set_cons_zero, List.set_cons_succ]))
            (refine wpAnyH_take (i := 6) (v := ?_) rfl (by kernel_rfl) (by kernel_rfl) (by kernel_rfl) (fun _ _ _ h => h) (Or.inl ⟨by rfl, ?_⟩) (hS0) ?_; rotate_left; (focus (intro w hw; obtain ⟨hwc, hwf, hws⟩ := Ext.cells hw; go_simp; try (with_reducible rfl))); (try simp only [Act.put, List.setIfInBounds_toArray, List.set_cons_zero, List.set_cons_succ]))
            (refine wpAnyH_take (i := 7) (v := ?_) rfl (by kernel_rfl) (by kernel_rfl) (by kernel_rfl) (fun _ _ _ h => h) (Or.inl ⟨by rfl, ?_⟩) (hS0) ?_; rotate_left; (focus (intro w hw; obtain ⟨hwc, hwf, hws⟩ := Ext.cells hw; go_simp; try (with_reducible rfl))); (try simp only [Act.put, List.setIfInBounds_toArray, List.set_cons_zero, List.set_cons_succ]))
            have hpd : PLe (ph wr) (ph { wc with drawn := World.drawn wc + 1 }) := hza.ple
            generalize ({ wc with drawn := World.drawn wc + 1 } : World) = Wd at *
            refine wpAnyH_all (rs := [8, 12]) (by kernel_rfl) (by simp) (fun i hi => ?_)
            rcases List.mem_cons.1 hi with rfl | hi
            · refine wpOp_intro rfl rfl (fun K hK => ?_)
              go_simp
              refine ((hcR).out _ (hza.then hS0)).mono ?_
              rintro e w5 ⟨b3, d3, b4, d4, rfl, hx5, hF⟩
              have hS5 := hS0.then hx5
              have hl5 := up_ple hpd hx5
              generalize up (ph wr) Wd w5 = Hf at *
              refine hK _ _ ⟨hS5, ?_⟩
              clear hK K hx5
              (refine wpAnyH_take (i := 9) (v := ?_) rfl (by kernel_rfl) (by kernel_rfl) (by kernel_rfl) (fun _ _ _ h => h) (Or.inl ⟨by rfl, ?_⟩) (hS5) ?_; rotate_left; (focus (intro w hw; obtain ⟨hwc, hwf, hws⟩ := Ext.cells hw; go_simp; try (with_reducible rfl))); (try simp only [Act.put, List.setIfInBounds_toArray, List.set_cons_zero, List.set_cons_succ]))
              (refine wpAnyH_take (i := 10) (v := ?_) rfl (by kernel_rfl) (by kernel_rfl) (by kernel_rfl) (fun _ _ _ h => h) (Or.inl ⟨by rfl, ?_⟩) (hS5) ?_; rotate_left; (focus (intro w hw; obtain ⟨hwc, hwf, hws⟩ := Ext.cells hw; go_simp; try (with_reducible rfl))); (try simp only [Act.put, List.setIfInBounds_toArray, List.set_cons_zero, List.set_cons_succ]))
              (refine wpAnyH_take (i := 11) (v := ?_) rfl (by kernel_rfl) (by kernel_rfl) (by kernel_rfl) (fun _ _ _ h => h) (Or.inl ⟨by rfl, ?_⟩) (hS5) ?_; rotate_left; (focus (intro w hw; obtain ⟨hwc, hwf, hws⟩ := Ext.cells hw; go_simp; try (with_reducible rfl))); (try simp only [Act.put, List.setIfInBounds_toArray, List.set_cons_zero, List.set_cons_succ]))
              (refine wpAnyH_all (rs := [12]) (by kernel_rfl) (by simp) (fun i hi => ?_); obtain rfl := List.mem_singleton.1 hi; clear hi; refine wpOp_intro rfl rfl (fun K hK => ?_))
              go_simp
              have hS7 := hS5.alloc' (.cells #[.int .i64 0, .int .i64 0, .slice none 0 0, .slice none 0 0] 30)
              refine hK _ _ ⟨hS7, ?_⟩
              clear hK K
              have oz := Own.new w5 #[.int .i64 0, .int .i64 0, .slice none 0 0, .slice none 0 0] 30
              have hBz := hS5.size
              have hl7 := hl5.trans (Ext.new w5 (.cells #[.int .i64 0, .int .i64 0, .slice none 0 0, .slice none 0 0] 30)).ple
              have hHz := fresh_none hl5 (Nat.le_refl _)
              generalize w5.alloc _ = W7 at *
              generalize w5.heap.size = Bz at *
              have ul := oz.lt
              obtain ⟨uc, uf⟩ := oz.facts
              have u0 : _ = some (Value.int .i64 0) := uc 0
              have u1 : _ = some (Value.int .i64 0) := uc 1
              have u2 : _ = some (Value.slice none 0 0) := uc 2
              have u3 : _ = some (Value.slice none 0 0) := uc 3
              clear uc
              (refine wpAnyH_all (rs := [13]) (by kernel_rfl) (by simp) (fun i hi => ?_); obtain rfl := List.mem_singleton.1 hi; clear hi; refine wpOp_intro rfl rfl (fun K hK => ?_))
              go_simp
              have o9 := (((oz.set 0 (.int .i64 F.1.op)).set 1 (.int .i64 F.1.n)).set 2 (.slice b3 F.1.inn.length d3)).set 3 (.slice b4 F.1.kids.length d4)
              simp only [List.setIfInBounds_toArray, List.set_cons_succ, List.set_cons_zero] at o9
              have hS9 : Ext wc _ := (((hS7.set' (p := ⟨Bz, 0, none⟩) hBz (.int .i64 F.1.op)).set' (p := ⟨Bz, 1, none⟩) hBz (.int .i64 F.1.n)).set' (p := ⟨Bz, 2, none⟩) hBz (.slice b3 F.1.inn.length d3)).set' (p := ⟨Bz, 3, none⟩) hBz (.slice b4 F.1.kids.length d4)
              have hF9 := mono_FmR _ _ _ _ ((((hl7.setC hHz 0 (.int .i64 F.1.op)).setC hHz 1 (.int .i64 F.1.n)).setC hHz 2 (.slice b3 F.1.inn.length d3)).setC hHz 3 (.slice b4 F.1.kids.length d4)) hF
              refine hK _ _ ⟨hS9, ?_⟩
              clear hK K u0 u1 u2 u3 uf ul oz hl7
              generalize World.setCell _ _ _ = W9 at *
              (refine wpAnyH_take (i := 14) (v := ?_) rfl (by kernel_rfl) (by kernel_rfl) (by kernel_rfl) (fun _ _ _ h => h) (Or.inl ⟨by rfl, ?_⟩) (hS9) ?_; rotate_left; (focus (intro w hw; obtain ⟨hwc, hwf, hws⟩ := Ext.cells hw; go_simp; try (with_reducible rfl))); (try simp only [Act.put, List.setIfInBounds_toArray, List.set_cons_zero, List.set_cons_succ]))
              refine wpAnyH_done (by kernel_rfl) ?_ _
              try simp only [List.getElem?_toArray, List.getElem_toArray, List.getElem?_cons_succ, List.getElem?_cons_zero, List.getElem_cons_succ, List.getElem_cons_zero, Act.put, List.setIfInBounds_toArray, List.set_cons_zero, List.set_cons_succ]
              go_wp2_with fail
              go_meet
              case rel => exact ⟨Bz, b3, d3, b4, d4, rfl, rfl, o9, hF9, hS9⟩
            · obtain rfl := List.mem_singleton.1 hi
              refine wpOp_intro rfl rfl (fun K hK => ?_)
              go_simp
              have hS5 := hS0.alloc' (.cells #[.int .i64 0, .int .i64 0, .slice none 0 0, .slice none 0 0] 30)
              refine hK _ _ ⟨hS5, ?_⟩
              clear hK K
              have oz := Own.new Wd #[.int .i64 0, .int .i64 0, .slice none 0 0, .slice none 0 0] 30
              have hBz := hS0.size
              have hp5 := hpd.trans (Ext.new Wd (.cells #[.int .i64 0, .int .i64 0, .slice none 0 0, .slice none 0 0] 30)).ple
              have hHz := fresh_none hpd (Nat.le_refl Wd.heap.size)
              generalize Wd.alloc _ = W5 at *
              generalize Wd.heap.size = Bz at *
              (refine wpAnyH_all (rs := [8]) (by kernel_rfl) (by simp) (fun i hi => ?_); obtain rfl := List.mem_singleton.1 hi; clear hi; refine wpOp_intro rfl rfl (fun K hK => ?_))
              go_simp
              refine ((hcR).out _ (hza.then hS5)).mono ?_
              rintro e W7 ⟨b3, d3, b4, d4, rfl, hx7, hF⟩
              have hS7 := hS5.then hx7
              have hl7 := up_ple hp5 hx7
              replace hHz := up_none (w' := W7) hHz oz.lt
              replace oz := oz.keep hx7
              generalize up (ph wr) W5 W7 = Hf at *
              refine hK _ _ ⟨hS7, ?_⟩
              clear hK K hx7
              (refine wpAnyH_take (i := 9) (v := ?_) rfl (by kernel_rfl) (by kernel_rfl) (by kernel_rfl) (fun _ _ _ h => h) (Or.inl ⟨by rfl, ?_⟩) (hS7) ?_; rotate_left; (focus (intro w hw; obtain ⟨hwc, hwf, hws⟩ := Ext.cells hw; go_simp; try (with_reducible rfl))); (try simp only [Act.put, List.setIfInBounds_toArray, List.set_cons_zero, List.set_cons_succ]))
              (refine wpAnyH_take (i := 10) (v := ?_) rfl (by kernel_rfl) (by kernel_rfl) (by kernel_rfl) (fun _ _ _ h => h) (Or.inl ⟨by rfl, ?_⟩) (hS7) ?_; rotate_left; (focus (intro w hw; obtain ⟨hwc, hwf, hws⟩ := Ext.cells hw; go_simp; try (with_reducible rfl))); (try simp only [Act.put, List.setIfInBounds_toArray, List.set_cons_zero, List.set_cons_succ]))
              (refine wpAnyH_take (i := 11) (v := ?_) rfl (by kernel_rfl) (by kernel_rfl) (by kernel_rfl) (fun _ _ _ h => h) (Or.inl ⟨by rfl, ?_⟩) (hS7) ?_; rotate_left; (focus (intro w hw; obtain ⟨hwc, hwf, hws⟩ := Ext.cells hw; go_simp; try (with_reducible rfl))); (try simp only [Act.put, List.setIfInBounds_toArray, List.set_cons_zero, List.set_cons_succ]))
              have ul := oz.lt
              obtain ⟨uc, uf⟩ := oz.facts
              have u0 : _ = some (Value.int .i64 0) := uc 0
              have u1 : _ = some (Value.int .i64 0) := uc 1
              have u2 : _ = some (Value.slice none 0 0) := uc 2
              have u3 : _ = some (Value.slice none 0 0) := uc 3
              clear uc
              (refine wpAnyH_all (rs := [13]) (by kernel_rfl) (by simp) (fun i hi => ?_); obtain rfl := List.mem_singleton.1 hi; clear hi; refine wpOp_intro rfl rfl (fun K hK => ?_))
              go_simp
              have o9 := (((oz.set 0 (.int .i64 F.1.op)).set 1 (.int .i64 F.1.n)).set 2 (.slice b3 F.1.inn.length d3)).set 3 (.slice b4 F.1.kids.length d4)
              simp only [List.setIfInBounds_toArray, List.set_cons_succ, List.set_cons_zero] at o9
              have hS9 : Ext wc _ := (((hS7.set' (p := ⟨Bz, 0, none⟩) hBz (.int .i64 F.1.op)).set' (p := ⟨Bz, 1, none⟩) hBz (.int .i64 F.1.n)).set' (p := ⟨Bz, 2, none⟩) hBz (.slice b3 F.1.inn.length d3)).set' (p := ⟨Bz, 3, none⟩) hBz (.slice b4 F.1.kids.length d4)
              have hF9 := mono_FmR _ _ _ _ ((((hl7.setC hHz 0 (.int .i64 F.1.op)).setC hHz 1 (.int .i64 F.1.n)).setC hHz 2 (.slice b3 F.1.inn.length d3)).setC hHz 3 (.slice b4 F.1.kids.length d4)) hF
              refine hK _ _ ⟨hS9, ?_⟩
              clear hK K u0 u1 u2 u3 uf ul oz hl7
              generalize World.setCell _ _ _ = W9 at *
              (refine wpAnyH_take (i := 14) (v := ?_) rfl (by kernel_rfl) (by kernel_rfl) (by kernel_rfl) (fun _ _ _ h => h) (Or.inl ⟨by rfl, ?_⟩) (hS9) ?_; rotate_left; (focus (intro w hw; obtain ⟨hwc, hwf, hws⟩ := Ext.cells hw; go_simp; try (with_reducible rfl))); (try simp only [Act.put, List.setIfInBounds_toArray, List.set_cons_zero, List.set_cons_succ]))
              refine wpAnyH_done (by kernel_rfl) ?_ _
              try simp only [List.getElem?_toArray, List.getElem_toArray, List.getElem?_cons_succ, List.getElem?_cons_zero, List.getElem_cons_succ, List.getElem_cons_zero, Act.put, List.setIfInBounds_toArray, List.set_cons_zero, List.set_cons_succ]
              go_wp2_with fail
              go_meet
              case rel => exact ⟨Bz, b3, d3, b4, d4, rfl, rfl, o9, hF9, hS9⟩
          case rest =>
          obtain ⟨Bb, e3, f3, e4, f4, rfl, rfl, ob, hFb, hzb⟩ := hcut
          have hzz := hza.then hzb
          replace g0 := hzb.cell1 g0
          replace gl := cell_lt g0
          replace hcp := hzb.cell1 hcp
          replace hlp := cell_lt hcp
          replace oa := oa.keep hzb
          replace hFa := mono_FmR _ _ _ _ hzb.ple hFa
          clear hza hzb hcM hcR
          go_upto_region 12 with (fail)
          (refine wp_region_I 14 (by kernel_rfl) (by kernel_rfl) ?_; simp only [List.toList_toArray, List.take_succ_cons, List.take_zero, List.drop_succ_cons, List.drop_zero])
          (refine walkI_is (u := ?_) rfl (by simp) rfl ?_ ?_; rotate_left; (focus (intro A w' hS hA K hK; (simp only [List.map_cons, List.map_nil, knows, Is, Op.operands, Call.operands, List.lookup_cons, List.lookup_nil, Nat.reduceBEq, Bool.false_eq_true, if_false, if_true, Act.eval, Array.getD_eq_getD_getElem?, List.getElem?_toArray, List.getElem?_cons_succ, List.getElem?_cons_zero, Option.getD_some, and_true, true_and, List.append_toArray, List.nil_append, List.cons_append, List.toList_toArray, Array.toList_append, Option.toArray, List.append_nil] at hA); first | fail | (obtain ⟨hSc, hSf, hSs⟩ := hS.cells; go_simp; exact hK _ (by first | exact Ext.rfl' _ | exact Ext.new _ _ | assumption)))); (try simp only [List.nil_append, List.cons_append]))
          (refine walkI_is (u := ?_) rfl (by simp) rfl ?_ ?_; rotate_left; (focus (intro A w' hS hA K hK; (simp only [List.map_cons, List.map_nil, knows, Is, Op.operands, Call.operands, List.lookup_cons, List.lookup_nil, Nat.reduceBEq, Bool.false_eq_true, if_false, if_true, Act.eval, Array.getD_eq_getD_getElem?, List.getElem?_toArray, List.getElem?_cons_succ, List.getElem?_cons_zero, Option.getD_some, and_true, true_and, List.append_toArray, List.nil_append, List.cons_append, List.toList_toArray, Array.toList_append, Option.toArray, List.append_nil] at hA); first | fail | (obtain ⟨hSc, hSf, hSs⟩ := hS.cells; go_simp; exact hK _ (by first | exact Ext.rfl' _ | exact Ext.new _ _ | assumption)))); (try simp only [List.nil_append, List.cons_append]))
          (refine walkI_is (u := ?_) rfl (by simp) rfl ?_ ?_; rotate_left; (focus (intro A w' hS hA K hK; (simp only [List.map_cons, List.map_nil, knows, Is, Op.operands, Call.operands, List.lookup_cons, List.lookup_nil, Nat.reduceBEq, Bool.false_eq_true, if_false, if_true, Act.eval, Array.getD_eq_getD_getElem?, List.getElem?_toArray, List.getElem?_cons_succ, List.getElem?_cons_zero, Option.getD_some, and_true, true_and, List.append_toArray, List.nil_append, List.cons_append, List.toList_toArray, Array.toList_append, Option.toArray, List.append_nil] at hA); first | fail | (obtain ⟨hSc, hSf, hSs⟩ := hS.cells; go_simp; exact hK _ (by first | exact Ext.rfl' _ | exact Ext.new _ _ | assumption)))); (try simp only [List.nil_append, List.cons_append]))
          (refine walkI_is (u := ?_) rfl (by simp) rfl ?_ ?_; rotate_left; (focus (intro A w' hS hA K hK; (simp only [List.map_cons, List.map_nil, knows, Is, Op.operands, Call.operands, List.lookup_cons, List.lookup_nil, Nat.reduceBEq, Bool.false_eq_true, if_false, if_true, Act.eval, Array.getD_eq_getD_getElem?, List.getElem?_toArray, List.getElem?_cons_succ, List.getElem?_cons_zero, Option.getD_some, and_true, true_and, List.append_toArray, List.nil_append, List.cons_append, List.toList_toArray, Array.toList_append, Option.toArray, List.append_nil] at hA); first | fail | (obtain ⟨hSc, hSf, hSs⟩ := hS.cells; go_simp; exact hK _ (by first | exact Ext.rfl' _ | exact Ext.new _ _ | assumption)))); (try simp only [List.nil_append, List.cons_append]))
          (refine walkI_is (u := ?_) rfl (by simp) rfl ?_ ?_; rotate_left; (focus (intro A w' hS hA K hK; (simp only [List.map_cons, List.map_nil, knows, Is, Op.operands, Call.operands, List.lookup_cons, List.lookup_nil, Nat.reduceBEq, Bool.false_eq_true, if_false, if_true, Act.eval, Array.getD_eq_getD_getElem?, List.getElem?_toArray, List.getElem?_cons_succ, List.getElem?_cons_zero, Option.getD_some, and_true, true_and, List.append_toArray, List.nil_append, List.cons_append, List.toList_toArray, Array.toList_append, Option.toArray, List.append_nil] at hA); first | fail | (obtain ⟨hSc, hSf, hSs⟩ := hS.cells; go_simp; exact hK _ (by first | exact Ext.rfl' _ | exact Ext.new _ _ | assumption)))); (try simp only [List.nil_append, List.cons_append]))
          (refine walkI_is (u := ?_) rfl (by simp) rfl ?_ ?_; rotate_left; (focus (intro A w' hS hA K hK; (simp only [List.map_cons, List.map_nil, knows, Is, Op.operands, Call.operands, List.lookup_cons, List.lookup_nil, Nat.reduceBEq, Bool.false_eq_true, if_false, if_true, Act.eval, Array.getD_eq_getD_getElem?, List.getElem?_toArray, List.getElem?_cons_succ, List.getElem?_cons_zero, Option.getD_some, and_true, true_and, List.append_toArray, List.nil_append, List.cons_append, List.toList_toArray, Array.toList_append, Option.toArray, List.append_nil] at hA); first | fail | (obtain ⟨hSc, hSf, hSs⟩ := hS.cells; go_simp; exact hK _ (by first | exact Ext.rfl' _ | exact Ext.new _ _ | assumption)))); (try simp only [List.nil_append, List.cons_append]))
          (refine walkI_is (u := ?_) rfl (by simp) rfl ?_ ?_; rotate_left; (focus (intro A w' hS hA K hK; (simp only [List.map_cons, List.map_nil, knows, Is, Op.operands, Call.operands, List.lookup_cons, List.lookup_nil, Nat.reduceBEq, Bool.false_eq_true, if_false, if_true, Act.eval, Array.getD_eq_getD_getElem?, List.getElem?_toArray, List.getElem?_cons_succ, List.getElem?_cons_zero, Option.getD_some, and_true, true_and, List.append_toArray, List.nil_append, List.cons_append, List.toList_toArray, Array.toList_append, Option.toArray, List.append_nil] at hA); first | fail | (obtain ⟨hSc, hSf, hSs⟩ := hS.cells; go_simp; exact hK _ (by first | exact Ext.rfl' _ | exact Ext.new _ _ | assumption)))); (try simp only [List.nil_append, List.cons_append]))
          (refine walkI_is (u := ?_) rfl (by simp) rfl ?_ ?_; rotate_left; (focus (intro A w' hS hA K hK; (simp only [List.map_cons, List.map_nil, knows, Is, Op.operands, Call.operands, List.lookup_cons, List.lookup_nil, Nat.reduceBEq, Bool.false_eq_true, if_false, if_true, Act.eval, Array.getD_eq_getD_getElem?, List.getElem?_toArray, List.getElem?_cons_succ, List.getElem?_cons_zero, Option.getD_some, and_true, true_and, List.append_toArray, List.nil_append, List.cons_append, List.toList_toArray, Array.toList_append, Option.toArray, List.append_nil] at hA); first | fail | (obtain ⟨hSc, hSf, hSs⟩ := hS.cells; go_simp; exact hK _ (by first | exact Ext.rfl' _ | exact Ext.new _ _ | assumption)))); (try simp only [List.nil_append, List.cons_append]))
          (refine walkI_step ((fun v w' => ∃ u, v = .tuple #[u, .int .i64 G.2] ∧ FmsR (ph w') u G.1)) rfl (by simp) rfl ((fun v w w' _ ⟨u, e, h⟩ e' => ⟨u, e, h.mono mono_FmR e'.ple⟩)) ?_ ?_; (focus (intro A w' hS hA K hK; (simp only [List.map_cons, List.map_nil, knows, Is, Op.operands, Call.operands, List.lookup_cons, List.lookup_nil, Nat.reduceBEq, Bool.false_eq_true, if_false, if_true, Act.eval, Array.getD_eq_getD_getElem?, List.getElem?_toArray, List.getElem?_cons_succ, List.getElem?_cons_zero, Option.getD_some, and_true, true_and, List.append_toArray, List.nil_append, List.cons_append, List.toList_toArray, Array.toList_append, Option.toArray, List.append_nil] at hA); (go_simp; refine (hcA.out _ (hzz.then hS)).mono ?_; rintro e w6 ⟨u, rfl, hx6, hr6⟩; exact hK _ _ hx6 ⟨u, rfl, hr6⟩))); (try simp only [List.nil_append, List.cons_append]))
          (refine walkI_step ((fun v w' => ∃ u, v = .tuple #[u, .int .i64 G.2] ∧ FmsR (ph w') u G.1)) rfl (by simp) rfl ((fun v w w' _ ⟨u, e, h⟩ e' => ⟨u, e, h.mono mono_FmR e'.ple⟩)) ?_ ?_; (focus (intro A w' hS hA K hK; (simp only [List.map_cons, List.map_nil, knows, Is, Op.operands, Call.operands, List.lookup_cons, List.lookup_nil, Nat.reduceBEq, Bool.false_eq_true, if_false, if_true, Act.eval, Array.getD_eq_getD_getElem?, List.getElem?_toArray, List.getElem?_cons_succ, List.getElem?_cons_zero, Option.getD_some, and_true, true_and, List.append_toArray, List.nil_append, List.cons_append, List.toList_toArray, Array.toList_append, Option.toArray, List.append_nil] at hA); (obtain ⟨u, hA1, hA2⟩ := hA; go_simp; exact hK _ _ (Ext.rfl' _) ⟨u, rfl, hA2⟩))); (try simp only [List.nil_append, List.cons_append]))
          (refine walkI_step ((fun v w' => FmsR (ph w') v G.1)) rfl (by simp) rfl ((fun v w w' _ h e' => h.mono mono_FmR e'.ple)) ?_ ?_; (focus (intro A w' hS hA K hK; (simp only [List.map_cons, List.map_nil, knows, Is, Op.operands, Call.operands, List.lookup_cons, List.lookup_nil, Nat.reduceBEq, Bool.false_eq_true, if_false, if_true, Act.eval, Array.getD_eq_getD_getElem?, List.getElem?_toArray, List.getElem?_cons_succ, List.getElem?_cons_zero, Option.getD_some, and_true, true_and, List.append_toArray, List.nil_append, List.cons_append, List.toList_toArray, Array.toList_append, Option.toArray, List.append_nil] at hA); (obtain ⟨u, hA1, hA2⟩ := hA; go_simp; exact hK _ _ (Ext.rfl' _) hA2))); (try simp only [List.nil_append, List.cons_append]))
          (refine walkI_is (u := ?_) rfl (by simp) rfl ?_ ?_; rotate_left; (focus (intro A w' hS hA K hK; (simp only [List.map_cons, List.map_nil, knows, Is, Op.operands, Call.operands, List.lookup_cons, List.lookup_nil, Nat.reduceBEq, Bool.false_eq_true, if_false, if_true, Act.eval, Array.getD_eq_getD_getElem?, List.getElem?_toArray, List.getElem?_cons_succ, List.getElem?_cons_zero, Option.getD_some, and_true, true_and, List.append_toArray, List.nil_append, List.cons_append, List.toList_toArray, Array.toList_append, Option.toArray, List.append_nil] at hA); first | (obtain ⟨u, hA1, hA2⟩ := hA; go_simp; exact hK _ (Ext.rfl' _)) | (obtain ⟨hSc, hSf, hSs⟩ := hS.cells; go_simp; exact hK _ (by first | exact Ext.rfl' _ | exact Ext.new _ _ | assumption)))); (try simp only [List.nil_append, List.cons_append]))
          (refine walkI_step ((fun v w' => FmsR (ph w') v G.1)) rfl (by simp) rfl ((fun v w w' _ h e' => h.mono mono_FmR e'.ple)) ?_ ?_; (focus (intro A w' hS hA K hK; (simp only [List.map_cons, List.map_nil, knows, Is, Op.operands, Call.operands, List.lookup_cons, List.lookup_nil, Nat.reduceBEq, Bool.false_eq_true, if_false, if_true, Act.eval, Array.getD_eq_getD_getElem?, List.getElem?_toArray, List.getElem?_cons_succ, List.getElem?_cons_zero, Option.getD_some, and_true, true_and, List.append_toArray, List.nil_append, List.cons_append, List.toList_toArray, Array.toList_append, Option.toArray, List.append_nil] at hA); (go_simp; exact hK _ _ (Ext.rfl' _) hA))); (try simp only [List.nil_append, List.cons_append]))
          (refine walkI_is (u := ?_) rfl (by simp) rfl ?_ ?_; rotate_left; (focus (intro A w' hS hA K hK; (simp only [List.map_cons, List.map_nil, knows, Is, Op.operands, Call.operands, List.lookup_cons, List.lookup_nil, Nat.reduceBEq, Bool.false_eq_true, if_false, if_true, Act.eval, Array.getD_eq_getD_getElem?, List.getElem?_toArray, List.getElem?_cons_succ, List.getElem?_cons_zero, Option.getD_some, and_true, true_and, List.append_toArray, List.nil_append, List.cons_append, List.toList_toArray, Array.toList_append, Option.toArray, List.append_nil] at hA); first | fail | (obtain ⟨hSc, hSf, hSs⟩ := hS.cells; go_simp; exact hK _ (by first | exact Ext.rfl' _ | exact Ext.new _ _ | assumption)))); (try simp only [List.nil_append, List.cons_append]))
          (refine walkI_nil ?_; simp only [List.nil_append, List.cons_append, fins, Is, forall_eq, Act.put, List.setIfInBounds_toArray, List.set_cons_zero, List.set_cons_succ])
          rintro wA hxA v91 - v82 - v92 - v20 h20
          replace hzz := hzz.then hxA
          replace g0 := hxA.cell1 g0
          replace gl := cell_lt g0
          replace hcp := hxA.cell1 hcp
          replace hlp := cell_lt hcp
          replace oa := oa.keep hxA
          replace ob := ob.keep hxA
          replace hFa := mono_FmR _ _ _ _ hxA.ple hFa
          replace hFb := mono_FmR _ _ _ _ hxA.ple hFb
          clear hxA hcA
          go_upto_region 13 with (fail)
          (refine wp_region_I 14 (by kernel_rfl) (by kernel_rfl) ?_; simp only [List.toList_toArray, List.take_succ_cons, List.take_zero, List.drop_succ_cons, List.drop_zero])
          (refine walkI_is (u := ?_) rfl (by simp) rfl ?_ ?_; rotate_left; (focus (intro A w' hS hA K hK; (simp only [List.map_cons, List.map_nil, knows, Is, Op.operands, Call.operands, List.lookup_cons, List.lookup_nil, Nat.reduceBEq, Bool.false_eq_true, if_false, if_true, Act.eval, Array.getD_eq_getD_getElem?, List.getElem?_toArray, List.getElem?_cons_succ, List.getElem?_cons_zero, Option.getD_some, and_true, true_and, List.append_toArray, List.nil_append, List.cons_append, List.toList_toArray, Array.toList_append, Option.toArray, List.append_nil] at hA); first | fail | (obtain ⟨hSc, hSf, hSs⟩ := hS.cells; go_simp; exact hK _ (by first | exact Ext.rfl' _ | exact Ext.new _ _ | assumption)))); (try simp only [List.nil_append, List.cons_append]))
          (refine walkI_is (u := ?_) rfl (by simp) rfl ?_ ?_; rotate_left; (focus (intro A w' hS hA K hK; (simp only [List.map_cons, List.map_nil, knows, Is, Op.operands, Call.operands, List.lookup_cons, List.lookup_nil, Nat.reduceBEq, Bool.false_eq_true, if_false, if_true, Act.eval, Array.getD_eq_getD_getElem?, List.getElem?_toArray, List.getElem?_cons_succ, List.getElem?_cons_zero, Option.getD_some, and_true, true_and, List.append_toArray, List.nil_append, List.cons_append, List.toList_toArray, Array.toList_append, Option.toArray, List.append_nil] at hA); first | fail | (obtain ⟨hSc, hSf, hSs⟩ := hS.cells; go_simp; exact hK _ (by first | exact Ext.rfl' _ | exact Ext.new _ _ | assumption)))); (try simp only [List.nil_append, List.cons_append]))
          (refine walkI_is (u := ?_) rfl (by simp) rfl ?_ ?_; rotate_left; (focus (intro A w' hS hA K hK; (simp only [List.map_cons, List.map_nil, knows, Is, Op.operands, Call.operands, List.lookup_cons, List.lookup_nil, Nat.reduceBEq, Bool.false_eq_true, if_false, if_true, Act.eval, Array.getD_eq_getD_getElem?, List.getElem?_toArray, List.getElem?_cons_succ, List.getElem?_cons_zero, Option.getD_some, and_true, true_and, List.append_toArray, List.nil_append, List.cons_append, List.toList_toArray, Array.toList_append, Option.toArray, List.append_nil] at hA); first | fail | (obtain ⟨hSc, hSf, hSs⟩ := hS.cells; go_simp; exact hK _ (by first | exact Ext.rfl' _ | exact Ext.new _ _ | assumption)))); (try simp only [List.nil_append, List.cons_append]))
          (refine walkI_is (u := ?_) rfl (by simp) rfl ?_ ?_; rotate_left; (focus (intro A w' hS hA K hK; (simp only [List.map_cons, List.map_nil, knows, Is, Op.operands, Call.operands, List.lookup_cons, List.lookup_nil, Nat.reduceBEq, Bool.false_eq_true, if_false, if_true, Act.eval, Array.getD_eq_getD_getElem?, List.getElem?_toArray, List.getElem?_cons_succ, List.getElem?_cons_zero, Option.getD_some, and_true, true_and, List.append_toArray, List.nil_append, List.cons_append, List.toList_toArray, Array.toList_append, Option.toArray, List.append_nil] at hA); first | fail | (obtain ⟨hSc, hSf, hSs⟩ := hS.cells; go_simp; exact hK _ (by first | exact Ext.rfl' _ | exact Ext.new _ _ | assumption)))); (try simp only [List.nil_append, List.cons_append]))
          (refine walkI_is (u := ?_) rfl (by simp) rfl ?_ ?_; rotate_left; (focus (intro A w' hS hA K hK; (simp only [List.map_cons, List.map_nil, knows, Is, Op.operands, Call.operands, List.lookup_cons, List.lookup_nil, Nat.reduceBEq, Bool.false_eq_true, if_false, if_true, Act.eval, Array.getD_eq_getD_getElem?, List.getElem?_toArray, List.getElem?_cons_succ, List.getElem?_cons_zero, Option.getD_some, and_true, true_and, List.append_toArray, List.nil_append, List.cons_append, List.toList_toArray, Array.toList_append, Option.toArray, List.append_nil] at hA); first | fail | (obtain ⟨hSc, hSf, hSs⟩ := hS.cells; go_simp; exact hK _ (by first | exact Ext.rfl' _ | exact Ext.new _ _ | assumption)))); (try simp only [List.nil_append, List.cons_append]))
          (refine walkI_is (u := ?_) rfl (by simp) rfl ?_ ?_; rotate_left; (focus (intro A w' hS hA K hK; (simp only [List.map_cons, List.map_nil, knows, Is, Op.operands, Call.operands, List.lookup_cons, List.lookup_nil, Nat.reduceBEq, Bool.false_eq_true, if_false, if_true, Act.eval, Array.getD_eq_getD_getElem?, List.getElem?_toArray, List.getElem?_cons_succ, List.getElem?_cons_zero, Option.getD_some, and_true, true_and, List.append_toArray, List.nil_append, List.cons_append, List.toList_toArray, Array.toList_append, Option.toArray, List.append_nil] at hA); first | fail | (obtain ⟨hSc, hSf, hSs⟩ := hS.cells; go_simp; exact hK _ (by first | exact Ext.rfl' _ | exact Ext.new _ _ | assumption)))); (try simp only [List.nil_append, List.cons_append]))
          (refine walkI_is (u := ?_) rfl (by simp) rfl ?_ ?_; rotate_left; (focus (intro A w' hS hA K hK; (simp only [List.map_cons, List.map_nil, knows, Is, Op.operands, Call.operands, List.lookup_cons, List.lookup_nil, Nat.reduceBEq, Bool.false_eq_true, if_false, if_true, Act.eval, Array.getD_eq_getD_getElem?, List.getElem?_toArray, List.getElem?_cons_succ, List.getElem?_cons_zero, Option.getD_some, and_true, true_and, List.append_toArray, List.nil_append, List.cons_append, List.toList_toArray, Array.toList_append, Option.toArray, List.append_nil] at hA); first | fail | (obtain ⟨hSc, hSf, hSs⟩ := hS.cells; go_simp; exact hK _ (by first | exact Ext.rfl' _ | exact Ext.new _ _ | assumption)))); (try simp only [List.nil_append, List.cons_append]))
          (refine walkI_is (u := ?_) rfl (by simp) rfl ?_ ?_; rotate_left; (focus (intro A w' hS hA K hK; (simp only [List.map_cons, List.map_nil, knows, Is, Op.operands, Call.operands, List.lookup_cons, List.lookup_nil, Nat.reduceBEq, Bool.false_eq_true, if_false, if_true, Act.eval, Array.getD_eq_getD_getElem?, List.getElem?_toArray, List.getElem?_cons_succ, List.getElem?_cons_zero, Option.getD_some, and_true, true_and, List.append_toArray, List.nil_append, List.cons_append, List.toList_toArray, Array.toList_append, Option.toArray, List.append_nil] at hA); first | fail | (obtain ⟨hSc, hSf, hSs⟩ := hS.cells; go_simp; exact hK _ (by first | exact Ext.rfl' _ | exact Ext.new _ _ | assumption)))); (try simp only [List.nil_append, List.cons_append]))
          (refine walkI_step ((fun v w' => ∃ u, v = .tuple #[u, .int .i64 G.2] ∧ FmsR (ph w') u G.1)) rfl (by simp) rfl ((fun v w w' _ ⟨u, e, h⟩ e' => ⟨u, e, h.mono mono_FmR e'.ple⟩)) ?_ ?_; (focus (intro A w' hS hA K hK; (simp only [List.map_cons, List.map_nil, knows, Is, Op.operands, Call.operands, List.lookup_cons, List.lookup_nil, Nat.reduceBEq, Bool.false_eq_true, if_false, if_true, Act.eval, Array.getD_eq_getD_getElem?, List.getElem?_toArray, List.getElem?_cons_succ, List.getElem?_cons_zero, Option.getD_some, and_true, true_and, List.append_toArray, List.nil_append, List.cons_append, List.toList_toArray, Array.toList_append, Option.toArray, List.append_nil] at hA); (go_simp; refine (hcB.out _ (hzz.then hS)).mono ?_; rintro e w6 ⟨u, rfl, hx6, hr6⟩; exact hK _ _ hx6 ⟨u, rfl, hr6⟩))); (try simp only [List.nil_append, List.cons_append]))
          (refine walkI_step ((fun v w' => ∃ u, v = .tuple #[u, .int .i64 G.2] ∧ FmsR (ph w') u G.1)) rfl (by simp) rfl ((fun v w w' _ ⟨u, e, h⟩ e' => ⟨u, e, h.mono mono_FmR e'.ple⟩)) ?_ ?_; (focus (intro A w' hS hA K hK; (simp only [List.map_cons, List.map_nil, knows, Is, Op.operands, Call.operands, List.lookup_cons, List.lookup_nil, Nat.reduceBEq, Bool.false_eq_true, if_false, if_true, Act.eval, Array.getD_eq_getD_getElem?, List.getElem?_toArray, List.getElem?_cons_succ, List.getElem?_cons_zero, Option.getD_some, and_true, true_and, List.append_toArray, List.nil_append, List.cons_append, List.toList_toArray, Array.toList_append, Option.toArray, List.append_nil] at hA); (obtain ⟨u, hA1, hA2⟩ := hA; go_simp; exact hK _ _ (Ext.rfl' _) ⟨u, rfl, hA2⟩))); (try simp only [List.nil_append, List.cons_append]))
          (refine walkI_step ((fun v w' => FmsR (ph w') v G.1)) rfl (by simp) rfl ((fun v w w' _ h e' => h.mono mono_FmR e'.ple)) ?_ ?_; (focus (intro A w' hS hA K hK; (simp only [List.map_cons, List.map_nil, knows, Is, Op.operands, Call.operands, List.lookup_cons, List.lookup_nil, Nat.reduceBEq, Bool.false_eq_true, if_false, if_true, Act.eval, Array.getD_eq_getD_getElem?, List.getElem?_toArray, List.getElem?_cons_succ, List.getElem?_cons_zero, Option.getD_some, and_true, true_and, List.append_toArray, List.nil_append, List.cons_append, List.toList_toArray, Array.toList_append, Option.toArray, List.append_nil] at hA); (obtain ⟨u, hA1, hA2⟩ := hA; go_simp; exact hK _ _ (Ext.rfl' _) hA2))); (try simp only [List.nil_append, List.cons_append]))
          (refine walkI_is (u := ?_) rfl (by simp) rfl ?_ ?_; rotate_left; (focus (intro A w' hS hA K hK; (simp only [List.map_cons, List.map_nil, knows, Is, Op.operands, Call.operands, List.lookup_cons, List.lookup_nil, Nat.reduceBEq, Bool.false_eq_true, if_false, if_true, Act.eval, Array.getD_eq_getD_getElem?, List.getElem?_toArray, List.getElem?_cons_succ, List.getElem?_cons_zero, Option.getD_some, and_true, true_and, List.append_toArray, List.nil_append, List.cons_append, List.toList_toArray, Array.toList_append, Option.toArray, List.append_nil] at hA); first | (obtain ⟨u, hA1, hA2⟩ := hA; go_simp; exact hK _ (Ext.rfl' _)) | (obtain ⟨hSc, hSf, hSs⟩ := hS.cells; go_simp; exact hK _ (by first | exact Ext.rfl' _ | exact Ext.new _ _ | assumption)))); (try simp only [List.nil_append, List.cons_append]))
          (refine walkI_step ((fun v w' => FmsR (ph w') v G.1)) rfl (by simp) rfl ((fun v w w' _ h e' => h.mono mono_FmR e'.ple)) ?_ ?_; (focus (intro A w' hS hA K hK; (simp only [List.map_cons, List.map_nil, knows, Is, Op.operands, Call.operands, List.lookup_cons, List.lookup_nil, Nat.reduceBEq, Bool.false_eq_true, if_false, if_true, Act.eval, Array.getD_eq_getD_getElem?, List.getElem?_toArray, List.getElem?_cons_succ, List.getElem?_cons_zero, Option.getD_some, and_true, true_and, List.append_toArray, List.nil_append, List.cons_append, List.toList_toArray, Array.toList_append, Option.toArray, List.append_nil] at hA); (go_simp; exact hK _ _ (Ext.rfl' _) hA))); (try simp only [List.nil_append, List.cons_append]))
          (refine walkI_is (u := ?_) rfl (by simp) rfl ?_ ?_; rotate_left; (focus (intro A w' hS hA K hK; (simp only [List.map_cons, List.map_nil, knows, Is, Op.operands, Call.operands, List.lookup_cons, List.lookup_nil, Nat.reduceBEq, Bool.false_eq_true, if_false, if_true, Act.eval, Array.getD_eq_getD_getElem?, List.getElem?_toArray, List.getElem?_cons_succ, List.getElem?_cons_zero, Option.getD_some, and_true, true_and, List.append_toArray, List.nil_append, List.cons_append, List.toList_toArray, Array.toList_append, Option.toArray, List.append_nil] at hA); first | fail | (obtain ⟨hSc, hSf, hSs⟩ := hS.cells; go_simp; exact hK _ (by first | exact Ext.rfl' _ | exact Ext.new _ _ | assumption)))); (try simp only [List.nil_append, List.cons_append]))
          (refine walkI_nil ?_; simp only [List.nil_append, List.cons_append, fins, Is, forall_eq, Act.put, List.setIfInBounds_toArray, List.set_cons_zero, List.set_cons_succ])
          rintro wB hxB v103 - v94 - v104 - v22 h22
          replace hzz := hzz.then hxB
          replace oa := oa.keep hxB
          replace ob := ob.keep hxB
          replace hFa := mono_FmR _ _ _ _ hxB.ple hFa
          replace hFb := mono_FmR _ _ _ _ hxB.ple hFb
          replace h20 := h20.mono mono_FmR hxB.ple
          clear hxB hcB g0 gl hcp hlp
          obtain ⟨sa, sc, rfl, -, h20⟩ := h20.form
          obtain ⟨ra, rc, rfl, -, h22⟩ := h22.form
          have la := oa.lt
          have lb := ob.lt
          obtain ⟨uc, -⟩ := oa.facts
          have u0 : _ = some (Value.int .i64 F.1.op) := uc 0
          have u1 : _ = some (Value.int .i64 F.1.n) := uc 1
          have u2 : _ = some (Value.slice b3 F.1.inn.length d3) := uc 2
          have u3 : _ = some (Value.slice b4 F.1.kids.length d4) := uc 3
          obtain ⟨tc, -⟩ := ob.facts
          have t0 : _ = some (Value.int .i64 F.1.op) := tc 0
          have t1 : _ = some (Value.int .i64 F.1.n) := tc 1
          have t2 : _ = some (Value.slice e3 F.1.inn.length f3) := tc 2
          have t3 : _ = some (Value.slice e4 F.1.kids.length f4) := tc 3
          have hne1 : (F.2 != F.2) = false := by simp
          have hne2 : (G.2 != G.2) = false := by simp
          clear uc tc oa ob
          go_wp2_with fail
          refine RetV_at (rsameB_c F.1 F.1 _ _ _ hFa hFb hmb hmb) ?_
          intro wS hxS
          first | rw [show B (F.1 = F.1) = true from B_iff.2 rfl] | rw [show B True = true from B_iff.2 trivial]
          clear u0 u1 u2 u3 t0 t1 t2 t3 hFa hFb la lb
          go_wp2_with fail
          refine RetV_at (samelistB_c G.1 G.1 _ _ _ (h20.mono mono_FmR hxS.ple) (h22.mono mono_FmR hxS.ple) hab hab) ?_
          intro wT hxT
          first | rw [show B (G.1 = G.1) = true from B_iff.2 rfl] | rw [show B True = true from B_iff.2 trivial]
          go_wp2_with fail
          go_roundw
          case rel => exact ⟨j + 1, by omega, by go_num, ((hy.then hzz).then hxS).then hxT⟩
          case measure => simp [intOf]; omega
        · obtain rfl : j = 9 := by omega
          go_wp2_with fail
          go_roundw
          case rel => exact ⟨k + 1, by omega, by go_num, hx.then hy⟩
          case measure => simp [intOf]; omega
    · obtain rfl : k = 2 := by omega
      go_wp2_with fail
      refine RetV_at (lives_c _) ?_
      intro w4 hx4
      go_wp2_with fail
      go_ret
      exact ⟨rfl, (hx0.then hx).then hx4⟩
theorem claimsMeanLaw (vl : Value) (l : List Int) (at' how by' index : Int) (w : World) (hr : IntsR (ph w) vl l) (_ : l.length ≤ 140737488355328) (ia : I64 at') (ihw : I64 how) (ib : I64 by') (ix : I64 index) :
    Calls Try.prog 3 #[vl, .int .i64 at', .int .i64 how, .int .i64 by', .int .i64 index] w (RetV w (.bool true)) := claimsMean_c vl l at' how by' index w hr ia ihw ib ix
end Go.Proofs.Ytdpdpjimmfajgaa
