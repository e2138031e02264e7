/- the reference of package span: Normal.; the generator Set.; the generator Many; whole. -/
import Derived.Deep.CutBlock
import Derived.Test.YtmbkefgmiehdiaaSpCo
import Derived.Test.YtmbkefgmiehdiaaSpI2
namespace Go.Proofs.Ytmbkefgmiehdiaa
open Go.RowKit Go.Shelf
set_option linter.unusedSimpArgs false
set_option linter.unusedVariables false
theorem fst_zip (a : List Itv) : combF fstK [a] = pairs (runZ none (zipZ (ptsL a) (cellsL a (ptsL a)))) := by
  rw [comb_zip, List.flatten_cons, List.flatten_nil, List.append_nil]
  rfl
set_option maxRecDepth 100000 in
set_option maxHeartbeats 8000000 in
theorem rnormal_c (va : Value) (a : List Itv) (w : World) (ha : ItvsR (ph w) va a) (hlen : a.length ≤ 5000) :
    Calls Try.prog 30 #[va] w (SetRes w (normS a)) := by
  have hs : Hid (normS a = if a.any (fun x => !goodB x) then ([], 1) else fewE (pairs (runZ none (zipZ (ptsL a) (cellsL a (ptsL a)))))) := Lib.hid (by unfold normS; rw [fst_zip])
  have hS := fun W (hx : Ext w W) => setsR1 (Proofs.Ytmbkefgmiehdiaa.Own.new W #[va] 23) (hx.then (Ext.new W (.cells #[va] 23))) ha
  have hpt := fun (hg : ∀ x ∈ a, goodB x = true) (w' : World) (v : Value) (h : SetsR (ph w') v [a]) => points_c v [a] w' h (by simpa using hg) (by simpa using (by omega : a.length ≤ 10000))
  have hce := fun (hg : ∀ x ∈ a, goodB x = true) (vp : Value) (w' : World) (hx : Ext w w') (hr : RatsR (ph w') vp (ptsL a)) => cells_c va vp a a (ptsL a) w' (ha.mono mono_ItvR hx.ple) hr (pts_of hg) (fun x h => h) hg (by have := ptsL_len a; omega)
  have hrf := fun (vp vb : Value) (w' : World) (hr : RatsR (ph w') vp (ptsL a)) (hb : BoolsR (ph w') vb (cellsL a (ptsL a))) => rof_c vp vb (ptsL a) (cellsL a (ptsL a)) w' hr hb (cellsL_len a _) (by have := ptsL_len a; omega)
  simp only [List.flatten_cons, List.flatten_nil, List.append_nil] at hpt
  obtain ⟨pa, ca, rfl, -, ha⟩ := ha.form
  generalize ptsL a = P at *
  generalize cellsL a P = C at *
  replace hS := Lib.hid hS
  replace hpt := Lib.hid hpt
  replace hce := Lib.hid hce
  replace hrf := Lib.hid hrf
  go_enter Try.func30, Try.ntmps30
  go_wp2_with fail
  go_loopw [4] (fun i wr => ∃ k : Nat, k ≤ a.length ∧ i = .int .i64 k ∧ Hid (∀ x ∈ a.take k, goodB x = true) ∧ Ext w wr) (fun i _ => a.length - (intOf i).toNat)
  case atStart => exact ⟨0, Nat.zero_le _, rfl, Lib.hid (by simp), Ext.rfl' _⟩
  case round =>
    obtain ⟨k, hk, rfl, ho, hx⟩ := hrel
    by_cases hlt : k < a.length
    · obtain ⟨b, o, rfl, h0, h1, h2, h3, h4, h5, h6, h7, hbl, hI⟩ := ItvsR.at (ha.mono mono_ItvR hx.ple) k hlt
      have hja : decide (k < a.length) = true := decide_eq_true hlt
      have hgood := fun w => rgood_c a[k] w
      have hg1 := fun (hg : goodB a[k] = true) => take_all hlt hg ho.out
      have hg0 : goodB a[k] = false → a.any (fun x => !goodB x) = true := fun h => List.any_eq_true.2 ⟨_, List.getElem_mem hlt, by simp [h]⟩
      clear hI
      unfold itA at hgood
      generalize goodB a[k] = gd at *
      generalize a[k] = x at *
      obtain ⟨⟨p, q⟩, ⟨r, s⟩, lO, rO, lI, rI⟩ := x
      dsimp only at *
      replace hgood := Lib.hid hgood
      replace hg0 := Lib.hid hg0
      replace hg1 := Lib.hid hg1
      clear hpt hce hrf hS
      go_wp2_with fail
      refine RetV_at (hgood.out _) ?_
      intro w2 hx2
      replace hx := hx.then hx2
      cases gd with
      | false =>
        have h9 : Hid (normS a = ([], 1)) := Lib.hid (by rw [hs.out, if_pos (hg0.out (by first | trivial | rfl))])
        clear h0 h1 h2 h3 h4 h5 h6 h7
        go_wp2_with fail
        go_ret2
        rw [h9.out]
        exact ⟨_, rfl, hx, SliceRep.nil _ _ _⟩
      | true =>
        clear h0 h1 h2 h3 h4 h5 h6 h7
        go_wp2_with fail
        go_roundw
        case rel => exact ⟨k + 1, by omega, by go_num, Lib.hid (hg1.out (by first | trivial | rfl)), hx⟩
        case measure => simp [intOf]; omega
    · have hja : decide (k < a.length) = false := by simpa using hlt
      have hg : ∀ x ∈ a, goodB x = true := by
        have := ho.out
        rwa [List.take_of_length_le (by omega)] at this
      have h9 : Hid (normS a = fewE (pairs (runZ none (zipZ P C)))) := Lib.hid (by
        rw [hs.out, if_neg]
        rw [Bool.not_eq_true, List.any_eq_false]
        intro x h; simp [hg x h])
      have hpt' := hpt.out hg
      have hce' := hce.out hg
      have hpp := hpt' _ _ (hS.out wr hx)
      replace hpp := Lib.hid hpp
      replace hce' := Lib.hid hce'
      have hx3 := hx.then (Ext.new wr (.cells #[.slice pa a.length ca] 23))
      clear hpt hce hS hpt' hs ho
      replace hg := Lib.hid hg
      go_wp2_with fail
      refine hpp.out.mono ?_
      rintro e w4 ⟨vp, rfl, hx4, hrp⟩
      replace hx3 := hx3.then hx4
      have hc1 := hce'.out vp w4 hx3 hrp
      obtain ⟨qa, qc, rfl, -, hrp⟩ := hrp.form
      replace hc1 := Lib.hid hc1
      clear hpp hx4
      go_wp2_with fail
      refine hc1.out.mono ?_
      rintro e w5 ⟨vx, rfl, hx5, hrx⟩
      replace hx3 := hx3.then hx5
      have hrr := hrf.out _ vx w5 (hrp.mono mono_RatR hx5.ple) hrx
      obtain ⟨xa, xc, rfl, -, hrx⟩ := hrx.form
      replace hrr := Lib.hid hrr
      clear hc1
      go_wp2_with fail
      refine hrr.out.mono ?_
      rintro e w8 ⟨v8, rfl, hx8, hr8⟩
      go_wp2_with fail
      go_ret2
      rw [h9.out]
      exact ⟨v8, rfl, hx3.then hx8, hr8⟩
end Go.Proofs.Ytmbkefgmiehdiaa
namespace Go.Proofs.Ytmbkefgmiehdiaa
open Go.RowKit Go.Shelf
set_option linter.unusedSimpArgs false
set_option linter.unusedVariables false
def SetG (most : Nat) (w : World) (e : Ending) (w' : World) : Prop := ∃ v raw, e = .returned v ∧ Ext w w' ∧ ItvsR (ph w') v (normS raw).1 ∧ (∀ x ∈ raw, goodB x = true) ∧ raw.length ≤ most
set_option maxRecDepth 100000 in
set_option maxHeartbeats 8000000 in
theorem set_c (vl : Value) (ls : List Int) (most : Nat) (w : World) (hl : IntsR (ph w) vl ls) (hm : most ≤ 1000) :
    Calls Try.prog 9 #[vl, .int .i64 most] w (SetG most w) := by
  have hI := fun (n m : Int) (w : World) (hn : I64 n) (hm : I64 m) => interval_c n m w hn hm
  replace hI := Lib.hid hI
  obtain ⟨la, lc, rfl, llen, hl⟩ := hl.form
  have hM0 := (Mem.start w noH (noH_le _)).nil mono_ItvR 8 43
  simp only [List.nil_append] at hM0
  go_enter Try.func9, Try.ntmps9
  go_upto_block 0 with (fail)
  go_cut [5] (fun vo wx => ∃ out : List Itv, out.length ≤ most ∧ Hid (∀ x ∈ out, goodB x = true) ∧ Mem w noH [own mono_ItvR 8 43 vo out] noH wx)
  case first =>
   go_wp2_with fail
   go_loopw [5, 6] (fun vo vi wr => ∃ (c : Nat) (out : List Itv), c ≤ ls.length ∧ vi = .int .i64 c ∧ out.length ≤ most ∧ Hid (c = 2 * out.length) ∧ Hid (∀ x ∈ out, goodB x = true) ∧ Mem w noH [own mono_ItvR 8 43 vo out] noH wr) (fun _ vi _ => ls.length + 2 - (intOf vi).toNat)
   case atStart => exact ⟨0, [], by omega, rfl, by simp, Lib.hid (by simp), Lib.hid (by simp), hM0⟩
   case round =>
     clear hM0
     obtain ⟨c, out, hc, rfl, hol, hco, hg, hM⟩ := hrel
     have hc2 : c ≤ 2000 := by have := hco.out; omega
     obtain ⟨oa, oc, rfl, -⟩ := hM.form 0 rfl
     obtain ⟨d, hd⟩ : ∃ d, c + 1 = d := ⟨_, rfl⟩
     have hwd : IntKind.i64.wrap ((c : Int) + 1) = (d : Int) := by rw [IntKind.wrap_i64]; omega
     have hwd2 : IntKind.i64.wrap ((c : Int) + 2) = (c : Int) + 2 := by rw [IntKind.wrap_i64]; omega
     by_cases hA : d < ls.length
     · have hdA : decide (d < ls.length) = true := decide_eq_true hA
       by_cases hB : out.length < most
       · have hdB : decide (out.length < most) = true := decide_eq_true hB
         have hr' := hl.mono mono_IntR hM.ex.ple
         have hcl : c < ls.length := by omega
         obtain ⟨b, o, rfl, g0, i0, hbl⟩ := IntsR.at hr' c (by omega)
         obtain ⟨b', o', e', g1, i1, -⟩ := IntsR.at hr' d hA
         cases e'
         have hit := fun w => hI.out ls[c] ls[d] w i0 i1
         generalize ls[c] = n at *
         generalize ls[d] = m at *
         replace hit := Lib.hid hit
         replace hd := Lib.hid hd
         have hMo := Lib.hid hM
         clear hM
         clear i0 i1 hI
         go_wp2_with fail
         (refine wp_region_I 12 (by kernel_rfl) (by kernel_rfl) ?_; simp only [List.toList_toArray, List.take_succ_cons, List.take_zero, List.drop_succ_cons, List.drop_zero])
         (refine walkI_is (u := ?_) rfl (by simp) rfl ?_ ?_; rotate_left; (focus (intro A w' hS hA K hK; (simp only [List.map_cons, List.map_nil, knows, Is, Op.operands, Call.operands, List.lookup_cons, List.lookup_nil, Nat.reduceBEq, Bool.false_eq_true, if_false, if_true, Act.eval, Array.getD_eq_getD_getElem?, List.getElem?_toArray, List.getElem?_cons_succ, List.getElem?_cons_zero, Option.getD_some, and_true, true_and, List.append_toArray, List.nil_append, List.cons_append, List.toList_toArray, Array.toList_append, Option.toArray, List.append_nil] at hA); first | fail | (obtain ⟨hSc, hSf, hSs⟩ := hS.cells; go_simp; exact hK _ (by first | exact Ext.rfl' _ | exact Ext.new _ _ | assumption)))); (try simp only [List.nil_append, List.cons_append]))
         (refine walkI_is (u := ?_) rfl (by simp) rfl ?_ ?_; rotate_left; (focus (intro A w' hS hA K hK; (simp only [List.map_cons, List.map_nil, knows, Is, Op.operands, Call.operands, List.lookup_cons, List.lookup_nil, Nat.reduceBEq, Bool.false_eq_true, if_false, if_true, Act.eval, Array.getD_eq_getD_getElem?, List.getElem?_toArray, List.getElem?_cons_succ, List.getElem?_cons_zero, Option.getD_some, and_true, true_and, List.append_toArray, List.nil_append, List.cons_append, List.toList_toArray, Array.toList_append, Option.toArray, List.append_nil] at hA); first | fail | (obtain ⟨hSc, hSf, hSs⟩ := hS.cells; go_simp; exact hK _ (by first | exact Ext.rfl' _ | exact Ext.new _ _ | assumption)))); (try simp only [List.nil_append, List.cons_append]))
         (refine walkI_is (u := ?_) rfl (by simp) rfl ?_ ?_; rotate_left; (focus (intro A w' hS hA K hK; (simp only [List.map_cons, List.map_nil, knows, Is, Op.operands, Call.operands, List.lookup_cons, List.lookup_nil, Nat.reduceBEq, Bool.false_eq_true, if_false, if_true, Act.eval, Array.getD_eq_getD_getElem?, List.getElem?_toArray, List.getElem?_cons_succ, List.getElem?_cons_zero, Option.getD_some, and_true, true_and, List.append_toArray, List.nil_append, List.cons_append, List.toList_toArray, Array.toList_append, Option.toArray, List.append_nil] at hA); first | fail | (obtain ⟨hSc, hSf, hSs⟩ := hS.cells; go_simp; exact hK _ (by first | exact Ext.rfl' _ | exact Ext.new _ _ | assumption)))); (try simp only [List.nil_append, List.cons_append]))
         (refine walkI_is (u := ?_) rfl (by simp) rfl ?_ ?_; rotate_left; (focus (intro A w' hS hA K hK; (simp only [List.map_cons, List.map_nil, knows, Is, Op.operands, Call.operands, List.lookup_cons, List.lookup_nil, Nat.reduceBEq, Bool.false_eq_true, if_false, if_true, Act.eval, Array.getD_eq_getD_getElem?, List.getElem?_toArray, List.getElem?_cons_succ, List.getElem?_cons_zero, Option.getD_some, and_true, true_and, List.append_toArray, List.nil_append, List.cons_append, List.toList_toArray, Array.toList_append, Option.toArray, List.append_nil] at hA); first | fail | (obtain ⟨hSc, hSf, hSs⟩ := hS.cells; go_simp; exact hK _ (by first | exact Ext.rfl' _ | exact Ext.new _ _ | assumption)))); (try simp only [List.nil_append, List.cons_append]))
         (refine walkI_is (u := ?_) rfl (by simp) rfl ?_ ?_; rotate_left; (focus (intro A w' hS hA K hK; (simp only [List.map_cons, List.map_nil, knows, Is, Op.operands, Call.operands, List.lookup_cons, List.lookup_nil, Nat.reduceBEq, Bool.false_eq_true, if_false, if_true, Act.eval, Array.getD_eq_getD_getElem?, List.getElem?_toArray, List.getElem?_cons_succ, List.getElem?_cons_zero, Option.getD_some, and_true, true_and, List.append_toArray, List.nil_append, List.cons_append, List.toList_toArray, Array.toList_append, Option.toArray, List.append_nil] at hA); first | fail | (obtain ⟨hSc, hSf, hSs⟩ := hS.cells; go_simp; exact hK _ (by first | exact Ext.rfl' _ | exact Ext.new _ _ | assumption)))); (try simp only [List.nil_append, List.cons_append]))
         (refine walkI_is (u := ?_) rfl (by simp) rfl ?_ ?_; rotate_left; (focus (intro A w' hS hA K hK; (simp only [List.map_cons, List.map_nil, knows, Is, Op.operands, Call.operands, List.lookup_cons, List.lookup_nil, Nat.reduceBEq, Bool.false_eq_true, if_false, if_true, Act.eval, Array.getD_eq_getD_getElem?, List.getElem?_toArray, List.getElem?_cons_succ, List.getElem?_cons_zero, Option.getD_some, and_true, true_and, List.append_toArray, List.nil_append, List.cons_append, List.toList_toArray, Array.toList_append, Option.toArray, List.append_nil] at hA); first | fail | (obtain ⟨hSc, hSf, hSs⟩ := hS.cells; go_simp; exact hK _ (by first | exact Ext.rfl' _ | exact Ext.new _ _ | assumption)))); (try simp only [List.nil_append, List.cons_append]))
         (refine walkI_is (u := ?_) rfl (by simp) rfl ?_ ?_; rotate_left; (focus (intro A w' hS hA K hK; (simp only [List.map_cons, List.map_nil, knows, Is, Op.operands, Call.operands, List.lookup_cons, List.lookup_nil, Nat.reduceBEq, Bool.false_eq_true, if_false, if_true, Act.eval, Array.getD_eq_getD_getElem?, List.getElem?_toArray, List.getElem?_cons_succ, List.getElem?_cons_zero, Option.getD_some, and_true, true_and, List.append_toArray, List.nil_append, List.cons_append, List.toList_toArray, Array.toList_append, Option.toArray, List.append_nil] at hA); first | fail | (obtain ⟨hSc, hSf, hSs⟩ := hS.cells; go_simp; exact hK _ (by first | exact Ext.rfl' _ | exact Ext.new _ _ | assumption)))); (try simp only [List.nil_append, List.cons_append]))
         (refine walkI_is (u := ?_) rfl (by simp) rfl ?_ ?_; rotate_left; (focus (intro A w' hS hA K hK; (simp only [List.map_cons, List.map_nil, knows, Is, Op.operands, Call.operands, List.lookup_cons, List.lookup_nil, Nat.reduceBEq, Bool.false_eq_true, if_false, if_true, Act.eval, Array.getD_eq_getD_getElem?, List.getElem?_toArray, List.getElem?_cons_succ, List.getElem?_cons_zero, Option.getD_some, and_true, true_and, List.append_toArray, List.nil_append, List.cons_append, List.toList_toArray, Array.toList_append, Option.toArray, List.append_nil] at hA); first | fail | (obtain ⟨hSc, hSf, hSs⟩ := hS.cells; go_simp; exact hK _ (by first | exact Ext.rfl' _ | exact Ext.new _ _ | assumption)))); (try simp only [List.nil_append, List.cons_append]))
         (refine walkI_is (u := ?_) rfl (by simp) rfl ?_ ?_; rotate_left; (focus (intro A w' hS hA K hK; (simp only [List.map_cons, List.map_nil, knows, Is, Op.operands, Call.operands, List.lookup_cons, List.lookup_nil, Nat.reduceBEq, Bool.false_eq_true, if_false, if_true, Act.eval, Array.getD_eq_getD_getElem?, List.getElem?_toArray, List.getElem?_cons_succ, List.getElem?_cons_zero, Option.getD_some, and_true, true_and, List.append_toArray, List.nil_append, List.cons_append, List.toList_toArray, Array.toList_append, Option.toArray, List.append_nil] at hA); first | fail | (obtain ⟨hSc, hSf, hSs⟩ := hS.cells; go_simp; exact hK _ (by first | exact Ext.rfl' _ | exact Ext.new _ _ | assumption)))); (try simp only [List.nil_append, List.cons_append]))
         (refine walkI_is (u := ?_) rfl (by simp) rfl ?_ ?_; rotate_left; (focus (intro A w' hS hA K hK; (simp only [List.map_cons, List.map_nil, knows, Is, Op.operands, Call.operands, List.lookup_cons, List.lookup_nil, Nat.reduceBEq, Bool.false_eq_true, if_false, if_true, Act.eval, Array.getD_eq_getD_getElem?, List.getElem?_toArray, List.getElem?_cons_succ, List.getElem?_cons_zero, Option.getD_some, and_true, true_and, List.append_toArray, List.nil_append, List.cons_append, List.toList_toArray, Array.toList_append, Option.toArray, List.append_nil] at hA); first | fail | (obtain ⟨hSc, hSf, hSs⟩ := hS.cells; go_simp; exact hK _ (by first | exact Ext.rfl' _ | exact Ext.new _ _ | assumption)))); (try simp only [List.nil_append, List.cons_append]))
         (refine walkI_step ((fun v _ => ∃ x, goodB x = true ∧ v = itA x)) rfl (by simp) rfl ((fun _ _ _ _ h _ => h)) ?_ ?_; (focus (intro A w' hS hA K hK; (simp only [List.map_cons, List.map_nil, knows, Is, Op.operands, Call.operands, List.lookup_cons, List.lookup_nil, Nat.reduceBEq, Bool.false_eq_true, if_false, if_true, Act.eval, Array.getD_eq_getD_getElem?, List.getElem?_toArray, List.getElem?_cons_succ, List.getElem?_cons_zero, Option.getD_some, and_true, true_and, List.append_toArray, List.nil_append, List.cons_append, List.toList_toArray, Array.toList_append, Option.toArray, List.append_nil] at hA); (go_simp; refine (hit.out w').mono ?_; rintro e w6 ⟨x, hx, rfl, hx6⟩; exact hK _ _ hx6 ⟨x, hx, rfl⟩))); (try simp only [List.nil_append, List.cons_append]))
         (refine walkI_step ((fun v w' => ∃ x, goodB x = true ∧ NewSl wr 1 (itC x).toArray 43 v w')) rfl (by simp) rfl ((fun v w w' h ⟨x, h1, h2⟩ e => ⟨x, h1, stab_NewSl _ _ _ _ v w w' h h2 e⟩)) ?_ ?_; (focus (intro A w' hS hA K hK; (simp only [List.map_cons, List.map_nil, knows, Is, Op.operands, Call.operands, List.lookup_cons, List.lookup_nil, Nat.reduceBEq, Bool.false_eq_true, if_false, if_true, Act.eval, Array.getD_eq_getD_getElem?, List.getElem?_toArray, List.getElem?_cons_succ, List.getElem?_cons_zero, Option.getD_some, and_true, true_and, List.append_toArray, List.nil_append, List.cons_append, List.toList_toArray, Array.toList_append, Option.toArray, List.append_nil] at hA); (obtain ⟨x, hx, hA⟩ := hA; obtain ⟨⟨p, q⟩, ⟨r, s⟩, lO, rO, lI, rI⟩ := x; unfold itA at hA; dsimp only at hA; go_simp; exact hK _ _ (Ext.new _ _) ⟨_, hx, _, rfl, Proofs.Ytmbkefgmiehdiaa.Own.new _ _ _, hS.size⟩))); (try simp only [List.nil_append, List.cons_append]))
         (refine walkI_nil ?_; simp only [List.nil_append, List.cons_append, fins, Is, forall_eq, Act.put, List.setIfInBounds_toArray, List.set_cons_zero, List.set_cons_succ])
         rintro w7 hx7 v1 ⟨x, hx, rfl⟩ v2 ⟨x2, hxg, gq, rfl, hO2, hgq⟩
         have hM7 := hMo.out.ext hx7
         have hS := Src.lit1 (H := noH) (E := ItvR) (sz := 8) (w := w7) (b := gq) (x := x2) (cs := itC x2) ⟨rfl, goodB.I hxg⟩ rfl (fun j => by rw [hO2.facts.1]; simp [itC])
         clear hO2 hgq hx7 g0 g1 hit hl hr'
         go_wp2_with (first | (at_builtin; refine wpList_append_M 0 rfl _ _ 23 rfl Try.underlying23 infoItv rfl rfl rfl hM7 rfl hS one_ItvR (by simp; omega) (by simp; omega) ?f5))
         case f5 =>
           intro v' w' hM8
           try simp only [List.set_cons_zero, List.set_cons_succ] at hM8
           have hg2 : Hid (∀ y ∈ out ++ [x2], goodB y = true) := Lib.hid (fun y hy => by
             rcases List.mem_append.1 hy with hy | hy
             · exact hg.out y hy
             · rw [List.mem_singleton.1 hy]; exact hxg)
           clear hM7 hS hMo
           go_wp2_with fail
           go_roundw
           case rel => exact ⟨c + 2, _, by have := hd.out; omega, by go_num, by simp; omega, Lib.hid (by have := hco.out; simp; omega), hg2, hM8⟩
           case measure => simp [intOf]; omega
       · have hdB : decide (out.length < most) = false := by simpa using hB
         replace hd := Lib.hid hd
         clear hl hI
         go_wp2_with fail
         go_meet
         case rel => exact ⟨out, hol, hg, hM⟩
     · have hdA : decide (d < ls.length) = false := by simpa using hA
       replace hd := Lib.hid hd
       clear hl hI
       go_wp2_with fail
       go_meet
       case rel => exact ⟨out, hol, hg, hM⟩
  case rest =>
    clear hM0
    obtain ⟨out, hol, hg, hM⟩ := hcut
    obtain ⟨va, vc, rfl, -⟩ := hM.form 0 rfl
    have hr := hM.rep 0 rfl
    have hn := rnormal_c _ out _ hr (by omega)
    have hx := hM.ex
    replace hn := Lib.hid hn
    clear hM hr hl hI
    go_wp2_with fail
    refine hn.out.mono ?_
    rintro e w2 ⟨v, rfl, hx2, hr2⟩
    have hx3 := hx.then hx2
    go_wp2_with fail
    go_ret
    exact ⟨v, out, rfl, hx3, hr2, hg.out, hol⟩
end Go.Proofs.Ytmbkefgmiehdiaa
namespace Go.Proofs.Ytmbkefgmiehdiaa
open Go.RowKit Go.Shelf
set_option linter.unusedSimpArgs false
set_option linter.unusedVariables false
def ListG (n : Nat) (w : World) (e : Ending) (w' : World) : Prop := ∃ v l, e = .returned v ∧ Ext w w' ∧ ItvsR (ph w') v l ∧ l.length ≤ n
theorem whole_c (n : Int) (w : World) : Calls Try.prog 22 #[.int .i64 n] w (RetV w (.agg #[.int .i64 n, .int .i64 1])) := by
  go_enter Try.func22, Try.ntmps22
  go_wp2_with fail
  have hO := Proofs.Ytmbkefgmiehdiaa.Own.new w #[.int .i64 n, .int .i64 1] 40
  obtain ⟨cx, fx⟩ := hO.facts
  have zx := hO.lt
  have c0 : _ = some (Value.int .i64 n) := cx 0
  have c1 : _ = some (Value.int .i64 1) := cx 1
  exact bodyPost_ret (v := .agg #[.int .i64 n, .int .i64 1]) (by simp [results, Try.results22, go_sem, c0, c1, cx, fx, zx]) rfl ⟨rfl, (by repeat (first | (with_reducible assumption) | (with_reducible exact Ext.rfl' _) | (with_reducible exact Ext.new _ _) | (with_reducible refine Ext.alloc' ?_ _) | (with_reducible refine Ext.drew' ?_) | (with_reducible refine Ext.drewN' ?_ _) | (with_reducible refine Ext.set' ?_ ?_ _; rotate_left; (focus (first | omega | (simp; done) | (simp; omega)))) | (with_reducible refine Ext.then (b := ?_) ?_ ?_; rotate_left; rotate_left; (with_reducible assumption))))⟩
set_option maxRecDepth 100000 in
set_option maxHeartbeats 8000000 in
theorem many_c (n : Nat) (s : Int) (w : World) (hn : n ≤ 1000) :
    Calls Try.prog 13 #[.int .i64 n, .int .i64 s] w (ListG n w) := by
  have hM0 := (Mem.start w noH (noH_le _)).nil mono_ItvR 8 43
  simp only [List.nil_append] at hM0
  go_enter Try.func13, Try.ntmps13
  go_wp2_with fail
  go_loopw [5, 6] (fun vo vi wr => ∃ (c : Nat) (out : List Itv), c ≤ n ∧ vi = .int .i64 c ∧ Hid (out.length = c) ∧ Mem w noH [own mono_ItvR 8 43 vo out] noH wr) (fun _ vi _ => n - (intOf vi).toNat)
  case atStart => exact ⟨0, [], by omega, rfl, Lib.hid (by simp), hM0⟩
  case round =>
    clear hM0
    obtain ⟨c, out, hc, rfl, hol, hM⟩ := hrel
    have hol2 : out.length ≤ 1000 := by have := hol.out; omega
    obtain ⟨oa, oc, rfl, -⟩ := hM.form 0 rfl
    by_cases hA : c < n
    · have hdA : decide (c < n) = true := decide_eq_true hA
      have hqi : I64 (IntKind.i64.wrap (s + (c : Int))) := by unfold I64; rw [IntKind.wrap_i64]; omega
      generalize hq : IntKind.i64.wrap (s + (c : Int)) = q at *
      have hM3 := (hM.ext (Ext.new wr (.cells #[.int .i64 q, .int .i64 1] 40)))
      have hO := Proofs.Ytmbkefgmiehdiaa.Own.new wr #[.int .i64 q, .int .i64 1] 40
      clear hM
      go_upto_region 6 with (fail)
      generalize wr.heap.size = bx at *
      generalize wr.alloc _ = W at *
      obtain ⟨cx, fx⟩ := hO.facts
      have zx := hO.lt
      have c0 : _ = some (Value.int .i64 q) := cx 0
      have c1 : _ = some (Value.int .i64 1) := cx 1
      have hM4 := (hM3.ext (Ext.new _ (.cells #[.int .i64 q, .int .i64 1, .int .i64 q, .int .i64 1, .bool false, .bool false, .bool false, .bool false] 43)))
      have hS := Src.lit1 (H := noH) (E := ItvR) (sz := 8) (w := W.alloc (.cells #[.int .i64 q, .int .i64 1, .int .i64 q, .int .i64 1, .bool false, .bool false, .bool false, .bool false] 43)) (b := W.heap.size) (x := ⟨⟨q, 1⟩, ⟨q, 1⟩, false, false, false, false⟩) (cs := [.int .i64 q, .int .i64 1, .int .i64 q, .int .i64 1, .bool false, .bool false, .bool false, .bool false]) ⟨rfl, ⟨⟨hqi, by unfold I64; dsimp only; omega⟩, ⟨hqi, by unfold I64; dsimp only; omega⟩⟩⟩ rfl (fun j => by rw [(Proofs.Ytmbkefgmiehdiaa.Own.new _ _ _).facts.1]; simp)
      clear hM3 hO cx
      go_wp2_with (first | (at_builtin; refine wpList_append_M 0 rfl _ _ 23 rfl Try.underlying23 infoItv rfl rfl rfl hM4 rfl hS one_ItvR (by simp; omega) (by simp; omega) ?f5))
      case f5 =>
        intro v' w' hM8
        try simp only [List.set_cons_zero, List.set_cons_succ] at hM8
        clear hM4 hS
        go_wp2_with fail
        go_roundw
        case rel => exact ⟨c + 1, _, by omega, by go_num, Lib.hid (by simp [hol.out]), hM8⟩
        case measure => simp [intOf]; omega
    · have hdA : decide (c < n) = false := by simpa using hA
      have hr := hM.rep 0 rfl
      have hx := hM.ex
      replace hr := Lib.hid hr
      clear hM
      go_wp2_with fail
      go_ret
      exact ⟨_, out, rfl, hx, hr.out, by have := hol.out; omega⟩
end Go.Proofs.Ytmbkefgmiehdiaa
