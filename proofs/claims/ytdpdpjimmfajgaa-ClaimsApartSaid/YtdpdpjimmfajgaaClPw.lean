/- the law ClaimsApart: the walk. -/
import Derived.Deep.CutBlock
import Derived.OrdersHeld
import Derived.Test.YtdpdpjimmfajgaaClGA
import Derived.Test.YtdpdpjimmfajgaaClOA
import Derived.Test.YtdpdpjimmfajgaaClAp
import Derived.Test.YtdpdpjimmfajgaaClVA
import Derived.Test.YtdpdpjimmfajgaaCalmK
import Derived.Test.YtdpdpjimmfajgaaGenSA
namespace Go.Proofs.Ytdpdpjimmfajgaa
open Go.RowKit Go.Shelf
set_option linter.unusedSimpArgs false
set_option linter.unusedVariables false
theorem int1up {wr w' : World} (h : wr.heap.size ≤ w'.heap.size) (y : Int) (hy : I64 y) : IntsR (up noH wr (w'.alloc (.cells #[.int .i64 y] 3))) (.slice (some ⟨w'.heap.size, 0, none⟩) 1 1) [y] :=
  (OwnS.ofNew (base := wr.heap.size) (xs := [y]) h (heap_alloc_new _ _) rfl (by simp [maxLen]) rfl ⟨[.int .i64 y], [], rfl, rfl, ⟨rfl, hy⟩, rfl⟩ : OwnI wr.heap.size _ _ [y]).repUp mono_IntR (Nat.le_refl _) (noH_le _)
theorem up_later {wr w' w6 : World} (h : Ext wr w') : PLe (up noH w' w6) (up noH wr w6) := by
  intro k o hk
  unfold up at *
  have := h.size
  split at hk
  · cases hk
  · rw [if_neg (by omega)]; exact hk
theorem some_bulkA {i : Nat} {c : Cl} (h : SomeCl i c) (hi : i ≤ 8) : c.body.bulk ≤ 10000 := by
  obtain ⟨h1, h2, h3, h4, h5, h6⟩ := h
  have h7 := whole_bulk _ h1
  unfold SzP at h2
  omega
theorem mean_bulkA {l : List Cl} (hb : ∀ c ∈ l, c.body.bulk ≤ 30000) (i : Int) : (meaningE l i).1.bulk ≤ 400000 := by
  unfold meaningE
  split
  · simp [noF, Fm.bulk, fbulks]
  · rename_i h
    obtain ⟨hv, h0, h1⟩ := checkC_0 (by simpa using h)
    split
    · rename_i f hf
      have := valid_bulk (meanC_valid hv i.toNat (by omega) hf)
      dsimp only; omega
    · simp [noF, Fm.bulk, fbulks]
theorem alts_bulkA {l : List Cl} (i : Int) : sumN Fm.bulk (altsE l i).1 ≤ 390000 := by
  unfold altsE
  split
  · simp [sumN]
  · rename_i h
    obtain ⟨hv, h0, h1⟩ := checkC_0 (by simpa using h)
    split
    · rename_i f hf
      have h2 := altC_len hv i.toNat (by omega) hf
      have h3 := altC_valid hv i.toNat (by omega) hf
      have := sumN_const (f := Fm.bulk) (c := 3168) (l := f) fun x hx => valid_bulk (h3 x hx)
      dsimp only
      have : f.length * 3168 ≤ 64 * 3168 := Nat.mul_le_mul_right _ h2
      omega
    · simp [sumN]
/-- the claim that is appended -/
def NewCl (wr w' : World) (y : Int) (f : Fm) (a1 : Option Addr) (c1 : Nat) (a3 : Option Addr) (c3 : Nat) (a4 : Option Addr) (c4 : Nat) : Prop :=
  ClR (up noH wr w') (clC ⟨[y], f⟩ a1 c1 a3 c3 a4 c4) ⟨[y], f⟩ ∧ wholeB f = true ∧ SzP 4 f.size ∧ f.deep ≤ 3
theorem NewCl.keep {wr w' w'' : World} {y : Int} {f : Fm} {a1 : Option Addr} {c1 : Nat} {a3 : Option Addr} {c3 : Nat} {a4 : Option Addr} {c4 : Nat} (hS : Ext wr w') (e : Ext w' w'') (h : NewCl wr w' y f a1 c1 a3 c3 a4 c4) : NewCl wr w'' y f a1 c1 a3 c3 a4 c4 :=
  ⟨mono_ClR _ _ _ _ (up_then hS e) h.1, h.2⟩
set_option maxRecDepth 100000 in
set_option maxHeartbeats 8000000 in
theorem claimsApart_c (vl vr : Value) (l rs : List Int) (w : World) (hr : IntsR (ph w) vl l) (hr2 : IntsR (ph w) vr rs) :
    Calls Try.prog 4 #[vl, vr] w (RetV w (.bool true)) := by
  have hr0 := hr
  have hr20 := hr2
  obtain ⟨xa, xc, rfl, -, hr⟩ := hr.form
  obtain ⟨ya, yc, rfl, hyl, hr2⟩ := hr2.form
  go_enter Try.func4, Try.ntmps4
  go_wp2_with fail
  refine (some11_c l _ 5 w hr0 (by omega) (by omega)).mono ?_
  rintro e w1 ⟨v1, L1, rfl, hL1, hl5, hall, hx1⟩
  obtain ⟨p1, q1, rfl, -, hL1⟩ := hL1.form
  have hM1 := ((Mem.start w1 (ph w1) (fun _ _ h => h)).new' #[] 43 (n := w1.heap.size) rfl).asOwn 0 rfl mono_ClR (sz := 5) (xs := []) (n := 0) (by simp) (by simp [maxLen]) rfl rfl
  simp only [List.nil_append, List.cons_append, List.set_cons_zero] at hM1
  have hS := Src.ofRep hL1 hM1.ple
  go_wp2_with (first | (at_builtin; refine wpList_append_M 0 rfl _ _ 23 rfl Try.underlying23 infoCl rfl rfl rfl hM1 rfl hS one_ClR (by simp; omega) (by simp; omega) ?f1))
  case f1 =>
  intro v2 w2 hM2
  try simp only [List.set_cons_zero, List.nil_append] at hM2
  clear hM1 hS
  replace hall := Lib.hid hall
  go_wp2_with fail
  go_loopw [6, 7] (fun v i wr => ∃ (k : Nat) (L : List Cl) (H : PH), k ≤ 3 ∧ k ≤ rs.length ∧ i = .int .i64 k ∧ Mem w1 (ph w1) [own mono_ClR 5 43 v L] H wr ∧ Hid (∃ M, L = L1 ++ M) ∧ Hid (L.length = L1.length + k) ∧ Hid (∀ i x, L[i]? = some x → SomeCl i x)) (fun _ i _ => 3 - (intOf i).toNat)
  case atStart => exact ⟨0, L1, _, by omega, by omega, rfl, hM2, Lib.hid ⟨[], by simp⟩, Lib.hid rfl, hall⟩
  case round =>
    clear hM2
    obtain ⟨k, L, H, hk3, hkr, rfl, hM, hLM, hLl, hLs⟩ := hrel
    obtain ⟨oa, oc, rfl, -⟩ := hM.form 0 rfl
    by_cases hlt : k < rs.length ∧ k < 3
    · obtain ⟨hlt1, hlt2⟩ := hlt
      obtain ⟨gb, go, hga, gc, gi, gl⟩ := IntsR.at (hr2.mono mono_IntR ((hx1.ple).trans (hM.ex.ple))) k hlt1
      subst hga
      have hw1 : IntKind.i64.wrap ((L.length : Int) + 1) = (L.length : Int) + 1 := by have := hLl.out; exact wrap_id (by omega) (by omega)
      have hcAr := Lib.hid (fun W => around_c rs[k] ((L.length : Int) + 1) W gi (by omega) (by have := hLl.out; omega))
      have hrg := aroundV_range gi (show (0 : Int) < (L.length : Int) + 1 by omega)
      generalize aroundV rs[k] ((L.length : Int) + 1) = y at *
      have hiy : I64 y := by have := hLl.out; unfold I64; omega
      have hcap := intsR_cap hr20
      have hyk : decide (yc = k) = false := by simp; omega
      have hyk2 : k ≤ yc := by omega
      have hyk3 : ¬ yc = k := by omega
      have hdrop := intsR_drop hr20 k hkr
      simp only [Option.map, addo] at hdrop
      have hxw := hx1.then hM.ex
      have hc7 := Lib.hid (fun W (e : Ext wr W) => some07_c (Hl := ph w) (rs.drop k) _ 5 4 2 W (hxw.then e).ple hdrop (by omega) (by omega) (by omega) (by omega) (by omega))
      clear hdrop
      go_wp2_with fail
      (refine wp_region_I 16 (by kernel_rfl) (by kernel_rfl) ?_; simp only [List.toList_toArray, List.take_succ_cons, List.take_zero, List.drop_succ_cons, List.drop_zero])
      (refine walkI_is (u := ?_) rfl (by simp) rfl ?_ ?_; rotate_left; (focus (intro A w' hS hA K hK; (simp only [List.map_cons, List.map_nil, knows, Is, Op.operands, Call.operands, List.lookup_cons, List.lookup_nil, Nat.reduceBEq, Bool.false_eq_true, if_false, if_true, Act.eval, Array.getD_eq_getD_getElem?, List.getElem?_toArray, List.getElem?_cons_succ, List.getElem?_cons_zero, Option.getD_some, and_true, true_and, List.append_toArray, List.nil_append, List.cons_append, List.toList_toArray, Array.toList_append, Option.toArray, List.append_nil] at hA); first | fail | (obtain ⟨hSc, hSf, hSs⟩ := hS.cells; go_simp; exact hK _ (by first | exact Ext.rfl' _ | exact Ext.new _ _ | assumption)))); (try simp only [List.nil_append, List.cons_append]))
      (refine walkI_is (u := ?_) rfl (by simp) rfl ?_ ?_; rotate_left; (focus (intro A w' hS hA K hK; (simp only [List.map_cons, List.map_nil, knows, Is, Op.operands, Call.operands, List.lookup_cons, List.lookup_nil, Nat.reduceBEq, Bool.false_eq_true, if_false, if_true, Act.eval, Array.getD_eq_getD_getElem?, List.getElem?_toArray, List.getElem?_cons_succ, List.getElem?_cons_zero, Option.getD_some, and_true, true_and, List.append_toArray, List.nil_append, List.cons_append, List.toList_toArray, Array.toList_append, Option.toArray, List.append_nil] at hA); first | fail | (obtain ⟨hSc, hSf, hSs⟩ := hS.cells; go_simp; exact hK _ (by first | exact Ext.rfl' _ | exact Ext.new _ _ | assumption)))); (try simp only [List.nil_append, List.cons_append]))
      (refine walkI_is (u := ?_) rfl (by simp) rfl ?_ ?_; rotate_left; (focus (intro A w' hS hA K hK; (simp only [List.map_cons, List.map_nil, knows, Is, Op.operands, Call.operands, List.lookup_cons, List.lookup_nil, Nat.reduceBEq, Bool.false_eq_true, if_false, if_true, Act.eval, Array.getD_eq_getD_getElem?, List.getElem?_toArray, List.getElem?_cons_succ, List.getElem?_cons_zero, Option.getD_some, and_true, true_and, List.append_toArray, List.nil_append, List.cons_append, List.toList_toArray, Array.toList_append, Option.toArray, List.append_nil] at hA); first | fail | (obtain ⟨hSc, hSf, hSs⟩ := hS.cells; go_simp; exact hK _ (by first | exact Ext.rfl' _ | exact Ext.new _ _ | assumption)))); (try simp only [List.nil_append, List.cons_append]))
      (refine walkI_is (u := ?_) rfl (by simp) rfl ?_ ?_; rotate_left; (focus (intro A w' hS hA K hK; (simp only [List.map_cons, List.map_nil, knows, Is, Op.operands, Call.operands, List.lookup_cons, List.lookup_nil, Nat.reduceBEq, Bool.false_eq_true, if_false, if_true, Act.eval, Array.getD_eq_getD_getElem?, List.getElem?_toArray, List.getElem?_cons_succ, List.getElem?_cons_zero, Option.getD_some, and_true, true_and, List.append_toArray, List.nil_append, List.cons_append, List.toList_toArray, Array.toList_append, Option.toArray, List.append_nil] at hA); first | fail | (obtain ⟨hSc, hSf, hSs⟩ := hS.cells; go_simp; exact hK _ (by first | exact Ext.rfl' _ | exact Ext.new _ _ | assumption)))); (try simp only [List.nil_append, List.cons_append]))
      (refine walkI_is (u := ?_) rfl (by simp) rfl ?_ ?_; rotate_left; (focus (intro A w' hS hA K hK; (simp only [List.map_cons, List.map_nil, knows, Is, Op.operands, Call.operands, List.lookup_cons, List.lookup_nil, Nat.reduceBEq, Bool.false_eq_true, if_false, if_true, Act.eval, Array.getD_eq_getD_getElem?, List.getElem?_toArray, List.getElem?_cons_succ, List.getElem?_cons_zero, Option.getD_some, and_true, true_and, List.append_toArray, List.nil_append, List.cons_append, List.toList_toArray, Array.toList_append, Option.toArray, List.append_nil] at hA); first | fail | (obtain ⟨hSc, hSf, hSs⟩ := hS.cells; go_simp; exact hK _ (by first | exact Ext.rfl' _ | exact Ext.new _ _ | assumption)))); (try simp only [List.nil_append, List.cons_append]))
      (refine walkI_is (u := ?_) rfl (by simp) rfl ?_ ?_; rotate_left; (focus (intro A w' hS hA K hK; (simp only [List.map_cons, List.map_nil, knows, Is, Op.operands, Call.operands, List.lookup_cons, List.lookup_nil, Nat.reduceBEq, Bool.false_eq_true, if_false, if_true, Act.eval, Array.getD_eq_getD_getElem?, List.getElem?_toArray, List.getElem?_cons_succ, List.getElem?_cons_zero, Option.getD_some, and_true, true_and, List.append_toArray, List.nil_append, List.cons_append, List.toList_toArray, Array.toList_append, Option.toArray, List.append_nil] at hA); first | fail | (obtain ⟨hSc, hSf, hSs⟩ := hS.cells; go_simp; exact hK _ (by first | exact Ext.rfl' _ | exact Ext.new _ _ | assumption)))); (try simp only [List.nil_append, List.cons_append]))
      (refine walkI_is (u := ?_) rfl (by simp) rfl ?_ ?_; rotate_left; (focus (intro A w' hS hA K hK; (simp only [List.map_cons, List.map_nil, knows, Is, Op.operands, Call.operands, List.lookup_cons, List.lookup_nil, Nat.reduceBEq, Bool.false_eq_true, if_false, if_true, Act.eval, Array.getD_eq_getD_getElem?, List.getElem?_toArray, List.getElem?_cons_succ, List.getElem?_cons_zero, Option.getD_some, and_true, true_and, List.append_toArray, List.nil_append, List.cons_append, List.toList_toArray, Array.toList_append, Option.toArray, List.append_nil] at hA); first | fail | (obtain ⟨hSc, hSf, hSs⟩ := hS.cells; go_simp; exact hK _ (by first | exact Ext.rfl' _ | exact Ext.new _ _ | assumption)))); (try simp only [List.nil_append, List.cons_append]))
      (refine walkI_is (u := ?_) rfl (by simp) rfl ?_ ?_; rotate_left; (focus (intro A w' hS hA K hK; (simp only [List.map_cons, List.map_nil, knows, Is, Op.operands, Call.operands, List.lookup_cons, List.lookup_nil, Nat.reduceBEq, Bool.false_eq_true, if_false, if_true, Act.eval, Array.getD_eq_getD_getElem?, List.getElem?_toArray, List.getElem?_cons_succ, List.getElem?_cons_zero, Option.getD_some, and_true, true_and, List.append_toArray, List.nil_append, List.cons_append, List.toList_toArray, Array.toList_append, Option.toArray, List.append_nil] at hA); first | fail | (obtain ⟨hSc, hSf, hSs⟩ := hS.cells; go_simp; exact hK _ (by first | exact Ext.rfl' _ | exact Ext.new _ _ | assumption)))); (try simp only [List.nil_append, List.cons_append]))
      (refine walkI_is (u := ?_) rfl (by simp) rfl ?_ ?_; rotate_left; (focus (intro A w' hS hA K hK; (simp only [List.map_cons, List.map_nil, knows, Is, Op.operands, Call.operands, List.lookup_cons, List.lookup_nil, Nat.reduceBEq, Bool.false_eq_true, if_false, if_true, Act.eval, Array.getD_eq_getD_getElem?, List.getElem?_toArray, List.getElem?_cons_succ, List.getElem?_cons_zero, Option.getD_some, and_true, true_and, List.append_toArray, List.nil_append, List.cons_append, List.toList_toArray, Array.toList_append, Option.toArray, List.append_nil] at hA); first | (go_simp; refine (hcAr.out _).mono ?_; rintro e w6 ⟨rfl, hx6⟩; exact hK _ hx6) | (obtain ⟨hSc, hSf, hSs⟩ := hS.cells; go_simp; exact hK _ (by first | exact Ext.rfl' _ | exact Ext.new _ _ | assumption)))); (try simp only [List.nil_append, List.cons_append]))
      (refine walkI_step ((fun v w' => IntsR (up noH wr w') v [y])) rfl (by simp) rfl ((fun v w w' hS h e' => h.mono mono_IntR (up_then hS e'))) ?_ ?_; (focus (intro A w' hS hA K hK; (simp only [List.map_cons, List.map_nil, knows, Is, Op.operands, Call.operands, List.lookup_cons, List.lookup_nil, Nat.reduceBEq, Bool.false_eq_true, if_false, if_true, Act.eval, Array.getD_eq_getD_getElem?, List.getElem?_toArray, List.getElem?_cons_succ, List.getElem?_cons_zero, Option.getD_some, and_true, true_and, List.append_toArray, List.nil_append, List.cons_append, List.toList_toArray, Array.toList_append, Option.toArray, List.append_nil] at hA); (have hs' := hS.size; go_simp; exact hK _ _ (Ext.new _ _) (int1up hs' y hiy)))); (try simp only [List.nil_append, List.cons_append]))
      (refine walkI_is (u := ?_) rfl (by simp) rfl ?_ ?_; rotate_left; (focus (intro A w' hS hA K hK; (simp only [List.map_cons, List.map_nil, knows, Is, Op.operands, Call.operands, List.lookup_cons, List.lookup_nil, Nat.reduceBEq, Bool.false_eq_true, if_false, if_true, Act.eval, Array.getD_eq_getD_getElem?, List.getElem?_toArray, List.getElem?_cons_succ, List.getElem?_cons_zero, Option.getD_some, and_true, true_and, List.append_toArray, List.nil_append, List.cons_append, List.toList_toArray, Array.toList_append, Option.toArray, List.append_nil] at hA); first | fail | (obtain ⟨hSc, hSf, hSs⟩ := hS.cells; go_simp; exact hK _ (by first | exact Ext.rfl' _ | exact Ext.new _ _ | assumption)))); (try simp only [List.nil_append, List.cons_append]))
      (refine walkI_is (u := ?_) rfl (by simp) rfl ?_ ?_; rotate_left; (focus (intro A w' hS hA K hK; (simp only [List.map_cons, List.map_nil, knows, Is, Op.operands, Call.operands, List.lookup_cons, List.lookup_nil, Nat.reduceBEq, Bool.false_eq_true, if_false, if_true, Act.eval, Array.getD_eq_getD_getElem?, List.getElem?_toArray, List.getElem?_cons_succ, List.getElem?_cons_zero, Option.getD_some, and_true, true_and, List.append_toArray, List.nil_append, List.cons_append, List.toList_toArray, Array.toList_append, Option.toArray, List.append_nil] at hA); first | fail | (obtain ⟨hSc, hSf, hSs⟩ := hS.cells; go_simp; exact hK _ (by first | exact Ext.rfl' _ | exact Ext.new _ _ | assumption)))); (try simp only [List.nil_append, List.cons_append]))
      (refine walkI_is (u := ?_) rfl (by simp) rfl ?_ ?_; rotate_left; (focus (intro A w' hS hA K hK; (simp only [List.map_cons, List.map_nil, knows, Is, Op.operands, Call.operands, List.lookup_cons, List.lookup_nil, Nat.reduceBEq, Bool.false_eq_true, if_false, if_true, Act.eval, Array.getD_eq_getD_getElem?, List.getElem?_toArray, List.getElem?_cons_succ, List.getElem?_cons_zero, Option.getD_some, and_true, true_and, List.append_toArray, List.nil_append, List.cons_append, List.toList_toArray, Array.toList_append, Option.toArray, List.append_nil] at hA); first | fail | (obtain ⟨hSc, hSf, hSs⟩ := hS.cells; go_simp; exact hK _ (by first | exact Ext.rfl' _ | exact Ext.new _ _ | assumption)))); (try simp only [List.nil_append, List.cons_append]))
      (refine walkI_step ((fun v w' => ∃ f a3 c3 a4 c4, v = fmV f a3 c3 a4 c4 ∧ FmR (up noH wr w') (fmC f a3 c3 a4 c4) f ∧ wholeB f = true ∧ SzP 4 f.size ∧ f.deep ≤ 3)) rfl (by simp) rfl ((fun v w w' hS ⟨f, a3, c3, a4, c4, h1, h2, h3⟩ e' => ⟨f, a3, c3, a4, c4, h1, mono_FmR _ _ _ _ (up_then hS e') h2, h3⟩)) ?_ ?_; (focus (intro A w' hS hA K hK; (simp only [List.map_cons, List.map_nil, knows, Is, Op.operands, Call.operands, List.lookup_cons, List.lookup_nil, Nat.reduceBEq, Bool.false_eq_true, if_false, if_true, Act.eval, Array.getD_eq_getD_getElem?, List.getElem?_toArray, List.getElem?_cons_succ, List.getElem?_cons_zero, Option.getD_some, and_true, true_and, List.append_toArray, List.nil_append, List.cons_append, List.toList_toArray, Array.toList_append, Option.toArray, List.append_nil] at hA); (go_simp; refine (hc7.out _ hS).mono ?_; rintro e w6 ⟨f, a3, c3, a4, c4, rfl, hF, hwf, ⟨hs, hd⟩, hx6⟩; exact hK _ _ hx6 ⟨f, a3, c3, a4, c4, rfl, mono_FmR _ _ _ _ (up_later hS) hF, hwf, hs, by omega⟩))); (try simp only [List.nil_append, List.cons_append]))
      (refine walkI_step ((fun v w' => ∃ (f : Fm) (a1 : Option Addr) (c1 : Nat) (a3 : Option Addr) (c3 : Nat) (a4 : Option Addr) (c4 : Nat), v = .agg #[.slice a1 1 c1, .int .i64 f.op, .int .i64 f.n, .slice a3 f.inn.length c3, .slice a4 f.kids.length c4] ∧ NewCl wr w' y f a1 c1 a3 c3 a4 c4)) rfl (by simp) rfl ((fun v w w' hS ⟨f, a1, c1, a3, c3, a4, c4, h1, h2⟩ e' => ⟨f, a1, c1, a3, c3, a4, c4, h1, h2.keep hS e'⟩)) ?_ ?_; (focus (intro A w' hS hA K hK; (simp only [List.map_cons, List.map_nil, knows, Is, Op.operands, Call.operands, List.lookup_cons, List.lookup_nil, Nat.reduceBEq, Bool.false_eq_true, if_false, if_true, Act.eval, Array.getD_eq_getD_getElem?, List.getElem?_toArray, List.getElem?_cons_succ, List.getElem?_cons_zero, Option.getD_some, and_true, true_and, List.append_toArray, List.nil_append, List.cons_append, List.toList_toArray, Array.toList_append, Option.toArray, List.append_nil] at hA); (obtain ⟨hA9, f, a3, c3, a4, c4, hA1, hA2, hA3⟩ := hA; obtain ⟨a1, c1, hA8, -, hA9⟩ := hA9.form; go_simp; exact hK _ _ (Ext.rfl' _) ⟨f, a1, c1, a3, c3, a4, c4, rfl, ClR.of (c := ⟨[y], f⟩) hA9 hA2, hA3⟩))); (try simp only [List.nil_append, List.cons_append]))
      (refine walkI_step ((fun v w' => ∃ (b : Nat) (f : Fm) (a1 : Option Addr) (c1 : Nat) (a3 : Option Addr) (c3 : Nat) (a4 : Option Addr) (c4 : Nat), v = .slice (some ⟨b, 0, none⟩) 1 1 ∧ Own w' b #[.slice a1 1 c1, .int .i64 f.op, .int .i64 f.n, .slice a3 f.inn.length c3, .slice a4 f.kids.length c4] 43 ∧ NewCl wr w' y f a1 c1 a3 c3 a4 c4)) rfl (by simp) rfl ((fun v w w' hS ⟨b, f, a1, c1, a3, c3, a4, c4, h1, h2, h3⟩ e' => ⟨b, f, a1, c1, a3, c3, a4, c4, h1, h2.keep e', h3.keep hS e'⟩)) ?_ ?_; (focus (intro A w' hS hA K hK; (simp only [List.map_cons, List.map_nil, knows, Is, Op.operands, Call.operands, List.lookup_cons, List.lookup_nil, Nat.reduceBEq, Bool.false_eq_true, if_false, if_true, Act.eval, Array.getD_eq_getD_getElem?, List.getElem?_toArray, List.getElem?_cons_succ, List.getElem?_cons_zero, Option.getD_some, and_true, true_and, List.append_toArray, List.nil_append, List.cons_append, List.toList_toArray, Array.toList_append, Option.toArray, List.append_nil] at hA); (obtain ⟨f, a1, c1, a3, c3, a4, c4, hA1, hA2⟩ := hA; go_simp; exact hK _ _ (Ext.new _ _) ⟨_, f, a1, c1, a3, c3, a4, c4, rfl, Own.new _ _ _, hA2.keep hS (Ext.new _ _)⟩))); (try simp only [List.nil_append, List.cons_append]))
      (refine walkI_nil ?_; simp only [List.nil_append, List.cons_append, fins, Is, forall_eq, Act.put, List.setIfInBounds_toArray, List.set_cons_zero, List.set_cons_succ])
      rintro w4 hx4 v45 - v49 - v50 - v51 ⟨b9, f, a1, c1, a3, c3, a4, c4, rfl, ho9, hcR, hwf, hsz, hdp⟩
      have hM4 := hM.up hx4
      replace hcR := mono_ClR _ _ _ _ (up_mono (noH_le H)) hcR
      generalize up H wr w4 = H4 at *
      have hS := Src.lit1 (H := H4) (E := ClR) (sz := 5) (w := w4) (b := b9) hcR rfl (fun j => by rw [ho9.facts.1]; simp [clC, fmC])
      have hLl' : L.length ≤ 8 := by have := hLl.out; omega
      clear hcAr hc7 hx4 hM
      go_wp2_with (first | (at_builtin; refine wpList_append_M 0 rfl _ _ 23 rfl Try.underlying23 infoCl rfl rfl rfl hM4 rfl hS one_ClR (by simp; omega) (by simp; omega) ?f2))
      case f2 =>
      intro v7 w7 hM7
      try simp only [List.set_cons_zero, List.nil_append] at hM7
      clear hM4 hS ho9 hcR
      have hL7 : (L ++ [(⟨[y], f⟩ : Cl)]).length = L.length + 1 := by simp
      have hx7 : (L ++ [(⟨[y], f⟩ : Cl)])[L.length]? = some ⟨[y], f⟩ := by simp
      have hs7 : Hid ((L ++ [(⟨[y], f⟩ : Cl)]).set L.length ⟨[], f⟩ = L ++ [⟨[], f⟩]) := by show _ = _; simp
      generalize hE7 : L ++ [(⟨[y], f⟩ : Cl)] = L7 at *
      replace hE7 := Lib.hid hE7
      obtain ⟨na, nc, rfl, -⟩ := hM7.form 0 rfl
      obtain ⟨gx, cx, e8, f8, ⟨u8, t8⟩, l8, hM8⟩ := hM7.setAt 0 rfl L.length 0 (by omega) hx7 (u := .slice none 0 0) (x' := ⟨[], f⟩) (fun cs h => by obtain ⟨v, fs, rfl, h1, h2⟩ := h; exact ⟨_, fs, rfl, SliceRep.nil _ _ _, h2⟩)
      cases e8
      simp only [List.set_cons_zero, Nat.add_zero] at hM8 f8 t8
      obtain ⟨b0, o0, b1, d1, b3, d3, b4, d4, e0, g0, -, -, -, -, -, -, hri, -⟩ := ClsR.at (hM7.rep 0 rfl) L.length (by omega)
      cases e0
      rw [(List.getElem?_eq_some_iff.1 hx7).2] at g0 hri
      rw [Nat.zero_add] at g0
      obtain ⟨rb, ro, rfl, rc, -, rl⟩ := IntsR.at hri 0 (by simp)
      simp only [List.length_cons, List.length_nil, Nat.zero_add, Nat.add_zero, List.getElem_cons_zero] at g0 rc
      have hwq : IntKind.i64.wrap ((L7.length : Int) - 1) = (L.length : Int) := by rw [hL7, wrap_id (by omega) (by omega)]; omega
      have hlt7 : L.length < L7.length := by omega
      clear hx7 hri
      by_cases hy : y = (L.length : Int)
      · have hyb : (y == (L.length : Int)) = true := by simpa using hy
        clear t8
        go_wp2_with fail
        go_roundw
        case rel =>
          refine ⟨k + 1, _, H4, by omega, by omega, by go_num, hM8, Lib.hid ?_, Lib.hid ?_, Lib.hid fun i x hx => ?_⟩
          · obtain ⟨M, hM⟩ := hLM.out
            exact ⟨M ++ [⟨[], f⟩], by rw [hs7.out, hM, List.append_assoc]⟩
          · have := hLl.out; rw [List.length_set, hL7]; omega
          · rw [hs7.out] at hx
            rcases getElem?_snoc hx with h1 | ⟨h1, h2⟩
            · exact hLs.out i x h1
            · subst h2
              refine ⟨hwf, ?_, hdp, by simp, by simp, by simp⟩
              show SzP 5 f.size; have hsz2 := hsz; unfold SzP at hsz2 ⊢; omega
        case measure => simp [intOf]; omega
      · have hyb : (y == (L.length : Int)) = false := by simpa using hy
        clear hM8 f8 t8
        go_wp2_with fail
        go_roundw
        case rel =>
          refine ⟨k + 1, _, H4, by omega, by omega, by go_num, hM7, Lib.hid ?_, Lib.hid ?_, Lib.hid fun i x hx => ?_⟩
          · obtain ⟨M, hM⟩ := hLM.out
            exact ⟨M ++ [⟨[y], f⟩], by rw [← hE7.out, hM, List.append_assoc]⟩
          · have := hLl.out; omega
          · rw [← hE7.out] at hx
            rcases getElem?_snoc hx with h1 | ⟨h1, h2⟩
            · exact hLs.out i x h1
            · subst h2
              refine ⟨hwf, ?_, hdp, fun r hr => ?_, by simp, by simp; omega⟩
              · show SzP 5 f.size; have hsz2 := hsz; unfold SzP at hsz2 ⊢; omega
              · have h3 : r = y := by simpa using hr
                rw [h3, h1]; exact ⟨hrg.1, by have := hrg.2; omega⟩
        case measure => simp [intOf]; omega
    · have b2 : ¬ k < rs.length ∨ (k < rs.length ∧ ¬ k < 3) := by omega
      clear hlt
      have hlr := hM.rep 0 rfl
      have hle := hM.ex
      have hLp := hL1.mono mono_ClR hle.ple
      have hLl' : L.length ≤ 8 := by have := hLl.out; omega
      have hvL : validC L = 0 := some_valid hLl' hLs.out
      have hvL1 : validC L1 = 0 := some_valid (by omega) hall.out
      have hbL : ∀ c ∈ L, c.body.bulk ≤ 900000 := fun c hc => by
        obtain ⟨j, hj, e⟩ := List.getElem_of_mem hc
        have := some_bulkA (hLs.out j c (by rw [List.getElem?_eq_getElem hj, e])) (by omega)
        omega
      have hbL1 : ∀ c ∈ L1, c.body.bulk ≤ 30000 := fun c hc => by
        obtain ⟨j, hj, e⟩ := List.getElem_of_mem hc
        have := some_bulkA (hall.out j c (by rw [List.getElem?_eq_getElem hj, e])) (by omega)
        omega
      have hbL9 : ∀ c ∈ L1, c.body.bulk ≤ 900000 := fun c hc => by have := hbL1 c hc; omega
      have happ : ∀ i, i < L1.length → meaningE L i = meaningE L1 i ∧ altsE L i = altsE L1 i ∧ depE L i = depE L1 i := by
        obtain ⟨M, rfl⟩ := hLM.out
        exact fun i hi => ⟨meaning_app hvL1 hvL hi, alts_app hvL1 hvL hi, dep_app hvL1 hvL hi⟩
      have hx0 := hx1.then hle
      clear hM hLM hLl hLs hvL1 hall hle hr hr0 hr2 hr20
      replace hLl' := Lib.hid hLl'
      have hcv := cvalid_c (.slice oa L.length oc) L wr hlr hbL
      rw [hvL] at hcv
      have hnv : ((0 : Int) != 0) = false := by decide
      rcases b2 with b2 | ⟨b2, b3⟩
      all_goals
        go_wp2_with fail
        refine RetV_at hcv ?_
        intro w5 hx5
        replace hx0 := hx0.then hx5
        replace hLp := hLp.mono mono_ClR hx5.ple
        replace hlr := hlr.mono mono_ClR hx5.ple
        clear hx5
        go_wp2_with fail
        go_loopw [8] (fun vi wx => ∃ i : Nat, i ≤ L1.length ∧ vi = .int .i64 i ∧ Ext w5 wx) (fun vi _ => L1.length - (intOf vi).toNat)
        case atStart => exact ⟨0, by omega, rfl, Ext.rfl' _⟩
        case round =>
          obtain ⟨i, hi, rfl, hx⟩ := hrel
          by_cases hil : i < L1.length
          · have b9 : decide ((i : Int) < L1.length) = true := by simp; omega
            have b9' : (i : Int) < L1.length := by omega
            obtain ⟨m1, m2, m3⟩ := happ i hil
            have lp := hLp.mono mono_ClR hx.ple
            have lr := hlr.mono mono_ClR hx.ple
            have hmb := mean_bulkA hbL1 i
            have hab := alts_bulkA (l := L1) i
            have c1 := Lib.hid (fun W (e : Ext wr W) => meaning_c _ L1 i W (lp.mono mono_ClR e.ple) hbL9)
            have c2 := fun W (e : Ext wr W) => meaning_c _ L i W (lr.mono mono_ClR e.ple) hbL
            have c3 := Lib.hid (fun W (e : Ext wr W) => alts_c _ L1 i W (lp.mono mono_ClR e.ple) hbL9)
            have c4 := fun W (e : Ext wr W) => alts_c _ L i W (lr.mono mono_ClR e.ple) hbL
            have c5 := Lib.hid (fun W (e : Ext wr W) => cdepends_c _ L1 i W (lp.mono mono_ClR e.ple) hbL9)
            have c6 := fun W (e : Ext wr W) => cdepends_c _ L i W (lr.mono mono_ClR e.ple) hbL
            rw [m1] at c2
            rw [m2] at c4
            rw [m3] at c6
            replace c2 := Lib.hid c2
            replace c4 := Lib.hid c4
            replace c6 := Lib.hid c6
            clear m1 m2 m3 lp lr
            generalize meaningE L1 i = F at *
            generalize altsE L1 i = G at *
            generalize depE L1 i = D at *
            go_upto_region 14 with (fail)
            go_cut [9, 10] (fun va vb wx => ∃ (B : Nat) (b3 : Option Addr) (d3 : Nat) (b4 : Option Addr) (d4 : Nat), va = .pointer (some ⟨B, 0, none⟩) ∧ vb = .int .i64 F.2 ∧ Own wx B #[.int .i64 F.1.op, .int .i64 F.1.n, .slice b3 F.1.inn.length d3, .slice b4 F.1.kids.length d4] 30 ∧ FmR (ph wx) (fmC F.1 b3 d3 b4 d4) F.1 ∧ Ext wr wx)
            case first =>
              go_wp2_with fail
              refine ((c1).out _ (Ext.rfl' wr)).mono ?_
              rintro e w5 ⟨b3, d3, b4, d4, rfl, hx5, hF⟩
              go_wp2_with fail
              go_meet
              case rel => exact ⟨_, b3, d3, b4, d4, rfl, rfl, (by repeat (first | (with_reducible assumption) | (with_reducible exact Own.new _ _ _) | (with_reducible refine Own.new' _ _ _ ?_; (focus (simp; done))) | (with_reducible refine Own.alloc ?_ _) | (with_reducible refine Own.drew ?_) | (with_reducible refine Own.drewN ?_ _) | (with_reducible refine Own.keep (w := ?_) ?_ ?_; rotate_left; (with_reducible assumption); (exact (by repeat (first | (with_reducible assumption) | (with_reducible exact Ext.rfl' _) | (with_reducible exact Ext.new _ _) | (with_reducible refine Ext.alloc' ?_ _) | (with_reducible refine Ext.drew' ?_) | (with_reducible refine Ext.drewN' ?_ _) | (with_reducible refine Ext.set' ?_ ?_ _; rotate_left; (focus (first | omega | (simp; done) | (simp; omega)))) | (with_reducible refine Ext.then (b := ?_) ?_ ?_; rotate_left; rotate_left; (with_reducible assumption)))))) | (with_reducible refine Own.keep (w := ?_) ?_ ?_; rotate_left; rotate_left; (with_reducible assumption)))), mono_FmR _ _ _ _ (Ext.ple (by repeat (first | (with_reducible assumption) | (with_reducible exact Ext.rfl' _) | (with_reducible exact Ext.new _ _) | (with_reducible refine Ext.alloc' ?_ _) | (with_reducible refine Ext.drew' ?_) | (with_reducible refine Ext.drewN' ?_ _) | (with_reducible refine Ext.set' ?_ ?_ _; rotate_left; (focus (first | omega | (simp; done) | (simp; omega)))) | (with_reducible refine Ext.then (b := ?_) ?_ ?_; rotate_left; rotate_left; (with_reducible assumption))))) hF, hx5.then (by repeat (first | (with_reducible assumption) | (with_reducible exact Ext.rfl' _) | (with_reducible exact Ext.new _ _) | (with_reducible refine Ext.alloc' ?_ _) | (with_reducible refine Ext.drew' ?_) | (with_reducible refine Ext.drewN' ?_ _) | (with_reducible refine Ext.set' ?_ ?_ _; rotate_left; (focus (first | omega | (simp; done) | (simp; omega)))) | (with_reducible refine Ext.then (b := ?_) ?_ ?_; rotate_left; rotate_left; (with_reducible assumption))))⟩
            case rest =>
            obtain ⟨Ba, b3, d3, b4, d4, rfl, rfl, oa, hFa, hza⟩ := hcut
            obtain ⟨Wa, rfl⟩ : ∃ Wa, wc = Wa := ⟨_, rfl⟩
            clear c1
            go_upto_region 15 with (fail)
            go_cut [11, 12] (fun va vb wx => ∃ (B : Nat) (b3 : Option Addr) (d3 : Nat) (b4 : Option Addr) (d4 : Nat), va = .pointer (some ⟨B, 0, none⟩) ∧ vb = .int .i64 F.2 ∧ Own wx B #[.int .i64 F.1.op, .int .i64 F.1.n, .slice b3 F.1.inn.length d3, .slice b4 F.1.kids.length d4] 30 ∧ FmR (ph wx) (fmC F.1 b3 d3 b4 d4) F.1 ∧ Ext wc wx)
            case first =>
              go_wp2_with fail
              refine ((c2).out _ hza).mono ?_
              rintro e w5 ⟨b3, d3, b4, d4, rfl, hx5, hF⟩
              go_wp2_with fail
              go_meet
              case rel => exact ⟨_, b3, d3, b4, d4, rfl, rfl, (by repeat (first | (with_reducible assumption) | (with_reducible exact Own.new _ _ _) | (with_reducible refine Own.new' _ _ _ ?_; (focus (simp; done))) | (with_reducible refine Own.alloc ?_ _) | (with_reducible refine Own.drew ?_) | (with_reducible refine Own.drewN ?_ _) | (with_reducible refine Own.keep (w := ?_) ?_ ?_; rotate_left; (with_reducible assumption); (exact (by repeat (first | (with_reducible assumption) | (with_reducible exact Ext.rfl' _) | (with_reducible exact Ext.new _ _) | (with_reducible refine Ext.alloc' ?_ _) | (with_reducible refine Ext.drew' ?_) | (with_reducible refine Ext.drewN' ?_ _) | (with_reducible refine Ext.set' ?_ ?_ _; rotate_left; (focus (first | omega | (simp; done) | (simp; omega)))) | (with_reducible refine Ext.then (b := ?_) ?_ ?_; rotate_left; rotate_left; (with_reducible assumption)))))) | (with_reducible refine Own.keep (w := ?_) ?_ ?_; rotate_left; rotate_left; (with_reducible assumption)))), mono_FmR _ _ _ _ (Ext.ple (by repeat (first | (with_reducible assumption) | (with_reducible exact Ext.rfl' _) | (with_reducible exact Ext.new _ _) | (with_reducible refine Ext.alloc' ?_ _) | (with_reducible refine Ext.drew' ?_) | (with_reducible refine Ext.drewN' ?_ _) | (with_reducible refine Ext.set' ?_ ?_ _; rotate_left; (focus (first | omega | (simp; done) | (simp; omega)))) | (with_reducible refine Ext.then (b := ?_) ?_ ?_; rotate_left; rotate_left; (with_reducible assumption))))) hF, hx5.then (by repeat (first | (with_reducible assumption) | (with_reducible exact Ext.rfl' _) | (with_reducible exact Ext.new _ _) | (with_reducible refine Ext.alloc' ?_ _) | (with_reducible refine Ext.drew' ?_) | (with_reducible refine Ext.drewN' ?_ _) | (with_reducible refine Ext.set' ?_ ?_ _; rotate_left; (focus (first | omega | (simp; done) | (simp; omega)))) | (with_reducible refine Ext.then (b := ?_) ?_ ?_; rotate_left; rotate_left; (with_reducible assumption))))⟩
            case rest =>
            obtain ⟨Bb, e3, f3, e4, f4, rfl, rfl, ob, hFb, hzb⟩ := hcut
            obtain ⟨Wb, rfl⟩ : ∃ Wb, wc = Wb := ⟨_, rfl⟩
            replace oa := oa.keep hzb
            replace hFa := mono_FmR _ _ _ _ hzb.ple hFa
            have hz := hza.then hzb
            clear c2 hza hzb
            go_wp2_with fail
            refine (c3.out _ hz).mono ?_
            rintro e wA ⟨s1, rfl, hxA, hG1⟩
            replace oa := oa.keep hxA
            replace ob := ob.keep hxA
            replace hFa := mono_FmR _ _ _ _ hxA.ple hFa
            replace hFb := mono_FmR _ _ _ _ hxA.ple hFb
            replace hz := hz.then hxA
            clear c3 hxA
            go_wp2_with fail
            refine (c4.out _ hz).mono ?_
            rintro e wB ⟨s2, rfl, hxB, hG2⟩
            replace oa := oa.keep hxB
            replace ob := ob.keep hxB
            replace hFa := mono_FmR _ _ _ _ hxB.ple hFa
            replace hFb := mono_FmR _ _ _ _ hxB.ple hFb
            replace hG1 := hG1.mono mono_FmR hxB.ple
            replace hz := hz.then hxB
            clear c4 hxB
            go_wp2_with fail
            refine (c5.out _ hz).mono ?_
            rintro e wC ⟨s3, rfl, hxC, hD1⟩
            replace oa := oa.keep hxC
            replace ob := ob.keep hxC
            replace hFa := mono_FmR _ _ _ _ hxC.ple hFa
            replace hFb := mono_FmR _ _ _ _ hxC.ple hFb
            replace hG1 := hG1.mono mono_FmR hxC.ple
            replace hG2 := hG2.mono mono_FmR hxC.ple
            replace hz := hz.then hxC
            clear c5 hxC
            go_wp2_with fail
            refine (c6.out _ hz).mono ?_
            rintro e wD ⟨s4, rfl, hxD, hD2⟩
            replace oa := oa.keep hxD
            replace ob := ob.keep hxD
            replace hFa := mono_FmR _ _ _ _ hxD.ple hFa
            replace hFb := mono_FmR _ _ _ _ hxD.ple hFb
            replace hG1 := hG1.mono mono_FmR hxD.ple
            replace hG2 := hG2.mono mono_FmR hxD.ple
            replace hD1 := hD1.mono mono_IntR hxD.ple
            replace hz := hz.then hxD
            clear c6 hxD
            have la := oa.lt
            have lb := ob.lt
            obtain ⟨uc, -⟩ := oa.facts
            have u0 : _ = some (Value.int .i64 F.1.op) := uc 0
            have u1 : _ = some (Value.int .i64 F.1.n) := uc 1
            have u2 : _ = some (Value.slice b3 F.1.inn.length d3) := uc 2
            have u3 : _ = some (Value.slice b4 F.1.kids.length d4) := uc 3
            obtain ⟨tc, -⟩ := ob.facts
            have t0 : _ = some (Value.int .i64 F.1.op) := tc 0
            have t1 : _ = some (Value.int .i64 F.1.n) := tc 1
            have t2 : _ = some (Value.slice e3 F.1.inn.length f3) := tc 2
            have t3 : _ = some (Value.slice e4 F.1.kids.length f4) := tc 3
            have hne1 : (F.2 != F.2) = false := by simp
            have hne2 : (G.2 != G.2) = false := by simp
            have hne3 : (D.2 != D.2) = false := by simp
            clear uc tc oa ob
            go_wp2_with fail
            refine RetV_at (rsameB_c F.1 F.1 _ _ _ hFa hFb hmb hmb) ?_
            intro wS hxS
            first | rw [show B (F.1 = F.1) = true from B_iff.2 rfl] | rw [show B True = true from B_iff.2 trivial]
            replace hG1 := hG1.mono mono_FmR hxS.ple
            replace hG2 := hG2.mono mono_FmR hxS.ple
            replace hD1 := hD1.mono mono_IntR hxS.ple
            replace hD2 := hD2.mono mono_IntR hxS.ple
            replace hz := hz.then hxS
            clear u0 u1 u2 u3 t0 t1 t2 t3 hFa hFb la lb hxS
            go_wp2_with fail
            refine RetV_at (samelistB_c G.1 G.1 _ _ _ hG1 hG2 hab hab) ?_
            intro wT hxT
            first | rw [show B (G.1 = G.1) = true from B_iff.2 rfl] | rw [show B True = true from B_iff.2 trivial]
            go_wp2_with fail
            refine RetV_at (sameInts_c _ _ D.1 D.1 _ (hD1.mono mono_IntR hxT.ple) (hD2.mono mono_IntR hxT.ple)) ?_
            intro wU hxU
            first | rw [show B (D.1 = D.1) = true from B_iff.2 rfl] | rw [show B True = true from B_iff.2 trivial]
            go_wp2_with fail
            go_roundw
            case rel => exact ⟨i + 1, by omega, by go_num, ((hx.then hz).then hxT).then hxU⟩
            case measure => simp [intOf]; omega
          · obtain rfl : i = L1.length := by omega
            have b9 : decide (L1.length < L1.length) = false := by simp
            go_wp2_with fail
            refine RetV_at (lives_c _) ?_
            intro w9 hx9
            go_wp2_with fail
            go_ret
            exact ⟨rfl, (hx0.then hx).then hx9⟩
theorem claimsApartLaw (vl vr : Value) (l rs : List Int) (w : World) (hr : IntsR (ph w) vl l) (hr2 : IntsR (ph w) vr rs) (_ : l.length ≤ 140737488355328) (_ : rs.length ≤ 140737488355328) :
    Calls Try.prog 4 #[vl, vr] w (RetV w (.bool true)) := claimsApart_c vl vr l rs w hr hr2
end Go.Proofs.Ytdpdpjimmfajgaa
