/- the reference of package thing: value.; the reference of package thing: part.; the reference of package thing: sorted. -/
import Derived.Deep.CutBlock
import Derived.Test.YtnhcplmcddlgnaaGreatTN05
import Derived.Test.YtnhcplmcddlgnaaGreatTN07
import Derived.Test.YtnhcplmcddlgnaaGreatTN08
import Derived.Test.YtnhcplmcddlgnaaGreatTN12
namespace Go.Proofs.YtnhcplmcddlgnaaGreat
open Go.RowKit Go.Shelf
set_option linter.unusedSimpArgs false
set_option linter.unusedVariables false
/-- a list of values comes back, and whether it is one -/
def ValQ (w : World) (H : PH) (o : Option (List Val)) (e : Ending) (w' : World) : Prop := ∃ a n c b, e = .returned (.tuple #[.slice a n c, .bool b]) ∧ Ext w w' ∧ match o with
  | none => b = false
  | some m => b = true ∧ n = m.length ∧ ValsR (up H w w') (.slice a n c) m
abbrev vlA (v : Val) : Array Value := #[.int .i64 v.attr, .int .i64 v.n.num, .int .i64 v.n.den]
set_option maxRecDepth 100000 in
set_option maxHeartbeats 4000000 in
theorem rvalue_c {H : PH} (l : List Val) (v : Val) (vl : Value) (w : World) (hl : PLe H (ph w)) (hr : ValsR H vl l) (hv : VOk v) (hll : l.length ≤ 400000) :
    Calls Tryz.prog 44 #[vl, .agg #[.int .i64 v.attr, .int .i64 v.n.num, .int .i64 v.n.den]] w (ValQ w H (putV v l)) := by
  obtain ⟨a, c, rfl, -, hr⟩ := hr.form
  obtain ⟨hc0, hc1⟩ := SliceRep.capK hr
  have hM0 := (Mem.start w H hl).new' #[.int .i64 v.attr, .int .i64 v.n.num, .int .i64 v.n.den] 46 (n := w.heap.size) rfl
  simp only [List.nil_append] at hM0
  go_enter Tryz.func44, Tryz.ntmps44
  go_upto_block 0 with (fail)
  generalize World.alloc _ _ = w1 at *
  generalize hg1 : w.heap.size = g1 at *
  go_wp2_with fail
  go_loopw [6] (fun i wr => ∃ k : Nat, k ≤ l.length ∧ i = .int .i64 k ∧ Hid (∀ j x, l[j]? = some x → j < k → x.attr < v.attr) ∧ Mem w H [box g1 #[.int .i64 v.attr, .int .i64 v.n.num, .int .i64 v.n.den] 46] H wr) (fun i _ => l.length - (intOf i).toNat)
  case atStart => exact ⟨0, by omega, rfl, Lib.hid (fun j x _ h => by omega), hM0⟩
  case round =>
    clear hM0
    obtain ⟨k, hkl2, rfl, hlt, hM⟩ := hrel
    by_cases hk3 : k < l.length
    · have b0 : decide ((k : Int) < (l.length : Int)) = true := by simp; omega
      obtain ⟨kb, ko, ek, z0, z1, z2, i0, i1, i2, zl⟩ := ValsR.at (hr.mono mono_ValR hM.ple) k hk3
      cases ek
      have hxl : l[k]? = some l[k] := List.getElem?_eq_getElem hk3
      generalize l[k] = x at *
      obtain ⟨u0, u1, u2, ul⟩ := hM.cellsT 0 rfl
      have hxl := Lib.hid hxl
      go_upto_region 2 with (fail)
      (refine wp_region_I 14 (by kernel_rfl) (by kernel_rfl) ?_; simp only [List.toList_toArray, List.take_succ_cons, List.take_zero, List.drop_succ_cons, List.drop_zero])
      iterate 5 (refine walkI_is (u := ?_) rfl (by simp) rfl ?_ ?_; rotate_left; (focus (intro A w' hS hA K hK; (simp only [List.map_cons, List.map_nil, knows, Is, Op.operands, Call.operands, List.lookup_cons, List.lookup_nil, Nat.reduceBEq, Bool.false_eq_true, if_false, if_true, Act.eval, Array.getD_eq_getD_getElem?, List.getElem?_toArray, List.getElem?_cons_succ, List.getElem?_cons_zero, Option.getD_some, and_true, true_and, List.append_toArray, List.nil_append, List.cons_append, List.toList_toArray, Array.toList_append, Option.toArray, List.append_nil] at hA); first | fail | (obtain ⟨hSc, hSf, hSs⟩ := hS.cells; go_simp; exact hK _ (by first | exact Ext.rfl' _ | exact Ext.new _ _ | assumption)))); (try simp only [List.nil_append, List.cons_append]))
      iterate 8 (refine walkI_yesis (u := ?_) rfl (by simp) rfl rfl rfl ?_ ?_; rotate_left; (focus (intro A w' hS hA K hK; (simp only [List.map_cons, List.map_nil, knows, Is, Op.operands, Call.operands, List.lookup_cons, List.lookup_nil, Nat.reduceBEq, Bool.false_eq_true, if_false, if_true, Act.eval, Array.getD_eq_getD_getElem?, List.getElem?_toArray, List.getElem?_cons_succ, List.getElem?_cons_zero, Option.getD_some, and_true, true_and, List.append_toArray, List.nil_append, List.cons_append, List.toList_toArray, Array.toList_append, Option.toArray, List.append_nil] at hA); first | fail | (obtain ⟨hSc, hSf, hSs⟩ := hS.cells; go_simp; exact hK _ (by first | exact Ext.rfl' _ | exact Ext.new _ _ | assumption)))); (try simp only [List.nil_append, List.cons_append]))
      (refine walkI_is (u := ?_) rfl (by simp) rfl ?_ ?_; rotate_left; (focus (intro A w' hS hA K hK; (simp only [List.map_cons, List.map_nil, knows, Is, Op.operands, Call.operands, List.lookup_cons, List.lookup_nil, Nat.reduceBEq, Bool.false_eq_true, if_false, if_true, Act.eval, Array.getD_eq_getD_getElem?, List.getElem?_toArray, List.getElem?_cons_succ, List.getElem?_cons_zero, Option.getD_some, and_true, true_and, List.append_toArray, List.nil_append, List.cons_append, List.toList_toArray, Array.toList_append, Option.toArray, List.append_nil] at hA); first | fail | (obtain ⟨hSc, hSf, hSs⟩ := hS.cells; go_simp; exact hK _ (by first | exact Ext.rfl' _ | exact Ext.new _ _ | assumption)))); (try simp only [List.nil_append, List.cons_append]))
      (refine walkI_nil ?_; simp only [List.nil_append, List.cons_append, fins, Is, forall_eq, Act.put, List.setIfInBounds_toArray, List.set_cons_zero, List.set_cons_succ])
      intro w3 hx3
      replace hM := hM.ext hx3
      by_cases hcl : x.attr < v.attr
      · have b1 : decide (x.attr < v.attr) = true := by simpa using hcl
        have hcl := Lib.hid hcl
        clear u0 u1 u2 ul z0 z1 z2 zl b0
        go_wp2_with fail
        go_roundw
        case rel =>
          refine ⟨k + 1, by omega, by go_num, Lib.hid fun j y hj hjk => ?_, hM⟩
          by_cases e : j = k
          · subst e; rw [hxl.out] at hj; cases hj; exact hcl.out
          · exact hlt.out j y hj (by omega)
        case measure => simp [intOf]; omega
      · have b1 : decide (x.attr < v.attr) = false := by simpa using hcl
        have hcl := Lib.hid hcl
        replace z0 := hx3.cell1 z0
        replace z1 := hx3.cell1 z1
        replace z2 := hx3.cell1 z2
        replace u0 := hx3.cell1 u0
        replace u1 := hx3.cell1 u1
        replace u2 := hx3.cell1 u2
        replace zl := cell_lt z0
        replace ul := cell_lt u0
        clear hx3
        go_upto_region 4 with (fail)
        (refine wp_region_I 14 (by kernel_rfl) (by kernel_rfl) ?_; simp only [List.toList_toArray, List.take_succ_cons, List.take_zero, List.drop_succ_cons, List.drop_zero])
        iterate 5 (refine walkI_is (u := ?_) rfl (by simp) rfl ?_ ?_; rotate_left; (focus (intro A w' hS hA K hK; (simp only [List.map_cons, List.map_nil, knows, Is, Op.operands, Call.operands, List.lookup_cons, List.lookup_nil, Nat.reduceBEq, Bool.false_eq_true, if_false, if_true, Act.eval, Array.getD_eq_getD_getElem?, List.getElem?_toArray, List.getElem?_cons_succ, List.getElem?_cons_zero, Option.getD_some, and_true, true_and, List.append_toArray, List.nil_append, List.cons_append, List.toList_toArray, Array.toList_append, Option.toArray, List.append_nil] at hA); first | fail | (obtain ⟨hSc, hSf, hSs⟩ := hS.cells; go_simp; exact hK _ (by first | exact Ext.rfl' _ | exact Ext.new _ _ | assumption)))); (try simp only [List.nil_append, List.cons_append]))
        iterate 8 (refine walkI_yesis (u := ?_) rfl (by simp) rfl rfl rfl ?_ ?_; rotate_left; (focus (intro A w' hS hA K hK; (simp only [List.map_cons, List.map_nil, knows, Is, Op.operands, Call.operands, List.lookup_cons, List.lookup_nil, Nat.reduceBEq, Bool.false_eq_true, if_false, if_true, Act.eval, Array.getD_eq_getD_getElem?, List.getElem?_toArray, List.getElem?_cons_succ, List.getElem?_cons_zero, Option.getD_some, and_true, true_and, List.append_toArray, List.nil_append, List.cons_append, List.toList_toArray, Array.toList_append, Option.toArray, List.append_nil] at hA); first | fail | (obtain ⟨hSc, hSf, hSs⟩ := hS.cells; go_simp; exact hK _ (by first | exact Ext.rfl' _ | exact Ext.new _ _ | assumption)))); (try simp only [List.nil_append, List.cons_append]))
        (refine walkI_is (u := ?_) rfl (by simp) rfl ?_ ?_; rotate_left; (focus (intro A w' hS hA K hK; (simp only [List.map_cons, List.map_nil, knows, Is, Op.operands, Call.operands, List.lookup_cons, List.lookup_nil, Nat.reduceBEq, Bool.false_eq_true, if_false, if_true, Act.eval, Array.getD_eq_getD_getElem?, List.getElem?_toArray, List.getElem?_cons_succ, List.getElem?_cons_zero, Option.getD_some, and_true, true_and, List.append_toArray, List.nil_append, List.cons_append, List.toList_toArray, Array.toList_append, Option.toArray, List.append_nil] at hA); first | fail | (obtain ⟨hSc, hSf, hSs⟩ := hS.cells; go_simp; exact hK _ (by first | exact Ext.rfl' _ | exact Ext.new _ _ | assumption)))); (try simp only [List.nil_append, List.cons_append]))
        (refine walkI_nil ?_; simp only [List.nil_append, List.cons_append, fins, Is, forall_eq, Act.put, List.setIfInBounds_toArray, List.set_cons_zero, List.set_cons_succ])
        intro w4 hx4
        replace hM := hM.ext hx4
        by_cases hxf : x.attr = v.attr
        · have b2 : (x.attr == v.attr) = true := by simpa using hxf
          replace z0 := hx4.cell1 z0
          replace z1 := hx4.cell1 z1
          replace z2 := hx4.cell1 z2
          replace u0 := hx4.cell1 u0
          replace u1 := hx4.cell1 u1
          replace u2 := hx4.cell1 u2
          replace zl := cell_lt z0
          replace ul := cell_lt u0
          have hpi := Lib.hid (putV_is hlt.out hxl.out hxf)
          replace hxf := Lib.hid hxf
          clear hx4
          have hrr := fun w5 => hr.mono mono_ValR (ple_up (w' := w5) hl)
          by_cases hn : x.n.num = v.n.num
          · by_cases hd : x.n.den = v.n.den
            · have hxv : Hid (putV v l = some l) := by
                show _ = _
                rw [hpi.out, if_pos]
                have := hxf.out
                obtain ⟨xa, xn, xd⟩ := x
                obtain ⟨va, vn, vd⟩ := v
                simp only at this hn hd
                rw [this, hn, hd]
              replace hn := Lib.hid hn
              replace hd := Lib.hid hd
              clear hpi
              go_upto_region 5 with (fail)
              (refine wp_region_I 11 (by kernel_rfl) (by kernel_rfl) ?_; simp only [List.toList_toArray, List.take_succ_cons, List.take_zero, List.drop_succ_cons, List.drop_zero])
              iterate 8 (refine walkI_is (u := ?_) rfl (by simp) rfl ?_ ?_; rotate_left; (focus (intro A w' hS hA K hK; (simp only [List.map_cons, List.map_nil, knows, Is, Op.operands, Call.operands, List.lookup_cons, List.lookup_nil, Nat.reduceBEq, Bool.false_eq_true, if_false, if_true, Act.eval, Array.getD_eq_getD_getElem?, List.getElem?_toArray, List.getElem?_cons_succ, List.getElem?_cons_zero, Option.getD_some, and_true, true_and, List.append_toArray, List.nil_append, List.cons_append, List.toList_toArray, Array.toList_append, Option.toArray, List.append_nil] at hA); first | fail | (obtain ⟨hSc, hSf, hSs⟩ := hS.cells; go_simp; exact hK _ (by first | exact Ext.rfl' _ | exact Ext.new _ _ | assumption)))); (try simp only [List.nil_append, List.cons_append]))
              (refine walkI_is (u := ?_) rfl (by simp) rfl ?_ ?_; rotate_left; (focus (intro A w' hS hA K hK; (simp only [List.map_cons, List.map_nil, knows, Is, Op.operands, Call.operands, List.lookup_cons, List.lookup_nil, Nat.reduceBEq, Bool.false_eq_true, if_false, if_true, Act.eval, Array.getD_eq_getD_getElem?, List.getElem?_toArray, List.getElem?_cons_succ, List.getElem?_cons_zero, Option.getD_some, and_true, true_and, List.append_toArray, List.nil_append, List.cons_append, List.toList_toArray, Array.toList_append, Option.toArray, List.append_nil] at hA); first | (go_simp; rw [if_pos hn.out, if_pos hd.out]; exact hK _ (Ext.rfl' _)) | (obtain ⟨hSc, hSf, hSs⟩ := hS.cells; go_simp; exact hK _ (by first | exact Ext.rfl' _ | exact Ext.new _ _ | assumption)))); (try simp only [List.nil_append, List.cons_append]))
              iterate 2 (refine walkI_is (u := ?_) rfl (by simp) rfl ?_ ?_; rotate_left; (focus (intro A w' hS hA K hK; (simp only [List.map_cons, List.map_nil, knows, Is, Op.operands, Call.operands, List.lookup_cons, List.lookup_nil, Nat.reduceBEq, Bool.false_eq_true, if_false, if_true, Act.eval, Array.getD_eq_getD_getElem?, List.getElem?_toArray, List.getElem?_cons_succ, List.getElem?_cons_zero, Option.getD_some, and_true, true_and, List.append_toArray, List.nil_append, List.cons_append, List.toList_toArray, Array.toList_append, Option.toArray, List.append_nil] at hA); first | fail | (obtain ⟨hSc, hSf, hSs⟩ := hS.cells; go_simp; exact hK _ (by first | exact Ext.rfl' _ | exact Ext.new _ _ | assumption)))); (try simp only [List.nil_append, List.cons_append]))
              (refine walkI_nil ?_; simp only [List.nil_append, List.cons_append, fins, Is, forall_eq, Act.put, List.setIfInBounds_toArray, List.set_cons_zero, List.set_cons_succ])
              intro w5 hx5
              have hx9 := (hM.ext hx5).ex
              clear hM hlt u0 u1 u2 ul z0 z1 z2 zl
              go_wp2_with fail
              refine bodyPost_ret (v := .tuple #[.slice (some ⟨kb, ko, none⟩) l.length c, .bool true]) (by simp [results, Tryz.results44, go_sem]) rfl ?_
              exact ⟨_, _, _, _, rfl, hx9, by rw [hxv.out]; exact ⟨rfl, rfl, hrr _⟩⟩
            · have hxv : Hid (putV v l = none) := by
                show _ = _
                rw [hpi.out, if_neg (fun e => hd (by rw [e]))]
              replace hn := Lib.hid hn
              replace hd := Lib.hid hd
              clear hpi
              go_upto_region 5 with (fail)
              (refine wp_region_I 11 (by kernel_rfl) (by kernel_rfl) ?_; simp only [List.toList_toArray, List.take_succ_cons, List.take_zero, List.drop_succ_cons, List.drop_zero])
              iterate 8 (refine walkI_is (u := ?_) rfl (by simp) rfl ?_ ?_; rotate_left; (focus (intro A w' hS hA K hK; (simp only [List.map_cons, List.map_nil, knows, Is, Op.operands, Call.operands, List.lookup_cons, List.lookup_nil, Nat.reduceBEq, Bool.false_eq_true, if_false, if_true, Act.eval, Array.getD_eq_getD_getElem?, List.getElem?_toArray, List.getElem?_cons_succ, List.getElem?_cons_zero, Option.getD_some, and_true, true_and, List.append_toArray, List.nil_append, List.cons_append, List.toList_toArray, Array.toList_append, Option.toArray, List.append_nil] at hA); first | fail | (obtain ⟨hSc, hSf, hSs⟩ := hS.cells; go_simp; exact hK _ (by first | exact Ext.rfl' _ | exact Ext.new _ _ | assumption)))); (try simp only [List.nil_append, List.cons_append]))
              (refine walkI_is (u := ?_) rfl (by simp) rfl ?_ ?_; rotate_left; (focus (intro A w' hS hA K hK; (simp only [List.map_cons, List.map_nil, knows, Is, Op.operands, Call.operands, List.lookup_cons, List.lookup_nil, Nat.reduceBEq, Bool.false_eq_true, if_false, if_true, Act.eval, Array.getD_eq_getD_getElem?, List.getElem?_toArray, List.getElem?_cons_succ, List.getElem?_cons_zero, Option.getD_some, and_true, true_and, List.append_toArray, List.nil_append, List.cons_append, List.toList_toArray, Array.toList_append, Option.toArray, List.append_nil] at hA); first | (go_simp; rw [if_pos hn.out, if_neg hd.out]; exact hK _ (Ext.rfl' _)) | (obtain ⟨hSc, hSf, hSs⟩ := hS.cells; go_simp; exact hK _ (by first | exact Ext.rfl' _ | exact Ext.new _ _ | assumption)))); (try simp only [List.nil_append, List.cons_append]))
              iterate 2 (refine walkI_is (u := ?_) rfl (by simp) rfl ?_ ?_; rotate_left; (focus (intro A w' hS hA K hK; (simp only [List.map_cons, List.map_nil, knows, Is, Op.operands, Call.operands, List.lookup_cons, List.lookup_nil, Nat.reduceBEq, Bool.false_eq_true, if_false, if_true, Act.eval, Array.getD_eq_getD_getElem?, List.getElem?_toArray, List.getElem?_cons_succ, List.getElem?_cons_zero, Option.getD_some, and_true, true_and, List.append_toArray, List.nil_append, List.cons_append, List.toList_toArray, Array.toList_append, Option.toArray, List.append_nil] at hA); first | fail | (obtain ⟨hSc, hSf, hSs⟩ := hS.cells; go_simp; exact hK _ (by first | exact Ext.rfl' _ | exact Ext.new _ _ | assumption)))); (try simp only [List.nil_append, List.cons_append]))
              (refine walkI_nil ?_; simp only [List.nil_append, List.cons_append, fins, Is, forall_eq, Act.put, List.setIfInBounds_toArray, List.set_cons_zero, List.set_cons_succ])
              intro w5 hx5
              have hx9 := (hM.ext hx5).ex
              clear hM hlt u0 u1 u2 ul z0 z1 z2 zl
              go_wp2_with fail
              refine bodyPost_ret (v := .tuple #[.slice (some ⟨kb, ko, none⟩) l.length c, .bool false]) (by simp [results, Tryz.results44, go_sem]) rfl ?_
              exact ⟨_, _, _, _, rfl, hx9, by rw [hxv.out]⟩
          · have hxv : Hid (putV v l = none) := by
              show _ = _
              rw [hpi.out, if_neg (fun e => hn (by rw [e]))]
            replace hn := Lib.hid hn
            clear hpi
            go_upto_region 5 with (fail)
            (refine wp_region_I 11 (by kernel_rfl) (by kernel_rfl) ?_; simp only [List.toList_toArray, List.take_succ_cons, List.take_zero, List.drop_succ_cons, List.drop_zero])
            iterate 8 (refine walkI_is (u := ?_) rfl (by simp) rfl ?_ ?_; rotate_left; (focus (intro A w' hS hA K hK; (simp only [List.map_cons, List.map_nil, knows, Is, Op.operands, Call.operands, List.lookup_cons, List.lookup_nil, Nat.reduceBEq, Bool.false_eq_true, if_false, if_true, Act.eval, Array.getD_eq_getD_getElem?, List.getElem?_toArray, List.getElem?_cons_succ, List.getElem?_cons_zero, Option.getD_some, and_true, true_and, List.append_toArray, List.nil_append, List.cons_append, List.toList_toArray, Array.toList_append, Option.toArray, List.append_nil] at hA); first | fail | (obtain ⟨hSc, hSf, hSs⟩ := hS.cells; go_simp; exact hK _ (by first | exact Ext.rfl' _ | exact Ext.new _ _ | assumption)))); (try simp only [List.nil_append, List.cons_append]))
            (refine walkI_is (u := ?_) rfl (by simp) rfl ?_ ?_; rotate_left; (focus (intro A w' hS hA K hK; (simp only [List.map_cons, List.map_nil, knows, Is, Op.operands, Call.operands, List.lookup_cons, List.lookup_nil, Nat.reduceBEq, Bool.false_eq_true, if_false, if_true, Act.eval, Array.getD_eq_getD_getElem?, List.getElem?_toArray, List.getElem?_cons_succ, List.getElem?_cons_zero, Option.getD_some, and_true, true_and, List.append_toArray, List.nil_append, List.cons_append, List.toList_toArray, Array.toList_append, Option.toArray, List.append_nil] at hA); first | (go_simp; rw [if_neg hn.out]; exact hK _ (Ext.rfl' _)) | (obtain ⟨hSc, hSf, hSs⟩ := hS.cells; go_simp; exact hK _ (by first | exact Ext.rfl' _ | exact Ext.new _ _ | assumption)))); (try simp only [List.nil_append, List.cons_append]))
            iterate 2 (refine walkI_is (u := ?_) rfl (by simp) rfl ?_ ?_; rotate_left; (focus (intro A w' hS hA K hK; (simp only [List.map_cons, List.map_nil, knows, Is, Op.operands, Call.operands, List.lookup_cons, List.lookup_nil, Nat.reduceBEq, Bool.false_eq_true, if_false, if_true, Act.eval, Array.getD_eq_getD_getElem?, List.getElem?_toArray, List.getElem?_cons_succ, List.getElem?_cons_zero, Option.getD_some, and_true, true_and, List.append_toArray, List.nil_append, List.cons_append, List.toList_toArray, Array.toList_append, Option.toArray, List.append_nil] at hA); first | fail | (obtain ⟨hSc, hSf, hSs⟩ := hS.cells; go_simp; exact hK _ (by first | exact Ext.rfl' _ | exact Ext.new _ _ | assumption)))); (try simp only [List.nil_append, List.cons_append]))
            (refine walkI_nil ?_; simp only [List.nil_append, List.cons_append, fins, Is, forall_eq, Act.put, List.setIfInBounds_toArray, List.set_cons_zero, List.set_cons_succ])
            intro w5 hx5
            have hx9 := (hM.ext hx5).ex
            clear hM hlt u0 u1 u2 ul z0 z1 z2 zl
            go_wp2_with fail
            refine bodyPost_ret (v := .tuple #[.slice (some ⟨kb, ko, none⟩) l.length c, .bool false]) (by simp [results, Tryz.results44, go_sem]) rfl ?_
            exact ⟨_, _, _, _, rfl, hx9, by rw [hxv.out]⟩
        · have b2 : (x.attr == v.attr) = false := by simpa using hxf
          have hcne : ¬ c = k := by omega
          have hrep := Lib.hid (SliceRep.dropK hr k hk3)
          have hla := Lib.hid (putV_at hlt.out hxl.out hcl.out hxf)
          replace hxf := Lib.hid hxf
          clear u0 u1 u2 ul z0 z1 z2 zl hx4
          have hins : Hid (putV v l = some (l.take k ++ v :: l.drop k)) := Lib.hid (by have h := hla.out; simpa using h)
          have hN := hM.nil mono_ValR 3 46
          simp only [List.cons_append, List.nil_append] at hN
          have htk := Lib.hid (show (l.take k).length = k by rw [List.length_take]; omega)
          have hdk := Lib.hid (show (l.drop k : List Val).length = l.length - k by rw [List.length_drop])
          have hS1 := Src.ofRep (SliceRep.takeK hr k c hkl2 (by omega) (Nat.le_refl c)) hN.ple
          have hwl : IntKind.i64.wrap ((l.length : Int) - (k : Int)) = (l.length : Int) - (k : Int) := by rw [IntKind.wrap_i64]; omega
          have hcz : (k : Int) ≤ (c : Int) := by omega
          clear hlt
          go_wp2_with (first | (at_builtin; refine wpList_append_M 1 rfl _ _ 25 rfl Tryz.underlying25 infoVl rfl rfl rfl hN rfl hS1 one_VlR (by simp only [List.length_nil, htk.out]; omega) (by simp only [List.length_nil, htk.out]; omega) ?c5))
          case c5 =>
          intro v5 w5 hM5
          try simp only [List.set_cons_zero, List.set_cons_succ, List.nil_append] at hM5
          obtain ⟨a5, k5, rfl, -⟩ := hM5.form 1 rfl
          clear hM hN hS1
          obtain ⟨u0, u1, u2, ul⟩ := hM5.cellsT 0 rfl
          have hM6 := hM5.ext (Ext.new w5 (.cells (vlA v) 46))
          have hS2 := Src.lit1 (E := ValR) (H := H) (w := w5.alloc (.cells (vlA v) 46)) (b := w5.heap.size) (sz := 3) (x := v) (cs := valC v) ⟨rfl, hv⟩ rfl (fun j => by rw [(Proofs.YtnhcplmcddlgnaaGreat.Own.new w5 (vlA v) 46).facts.1 j]; simp [valC])
          clear hM5
          go_wp2_with (first | (at_builtin; refine wpList_append_M 1 rfl _ _ 25 rfl Tryz.underlying25 infoVl rfl rfl rfl hM6 rfl hS2 one_VlR (by simp only [List.length_singleton, htk.out]; omega) (by simp only [List.length_singleton, htk.out]; omega) ?d5))
          case d5 =>
          intro v7 w7 hM7
          try simp only [List.set_cons_zero, List.set_cons_succ, List.nil_append] at hM7
          obtain ⟨a7, k7, rfl, -⟩ := hM7.form 1 rfl
          have hS3 := Src.ofRep hrep.out hM7.ple
          clear hM6 hS2 u0 u1 u2 ul
          go_wp2_with (first | (at_builtin; refine wpList_append_M 1 rfl _ _ 25 rfl Tryz.underlying25 infoVl rfl rfl rfl hM7 rfl hS3 one_VlR (by simp only [List.length_append, List.length_singleton, htk.out, hdk.out]; omega) (by simp only [List.length_append, List.length_singleton, htk.out, hdk.out]; omega) ?e5))
          case e5 =>
          intro v9 w9 hM9
          try simp only [List.set_cons_zero, List.set_cons_succ, List.nil_append] at hM9
          obtain ⟨a9, k9, rfl, -⟩ := hM9.form 1 rfl
          obtain ⟨H6, hl6, hM10, hR6⟩ := hM9.freezeS 1 rfl
          go_wp2_with fail
          refine bodyPost_ret (v := .tuple #[.slice a9 ((l.take k ++ v :: l.drop k : List Val).length) k9, .bool true]) (by simp [results, Tryz.results44, go_sem]) rfl ?_
          refine ⟨_, _, _, _, rfl, hM9.ex, ?_⟩
          rw [hins.out]
          exact ⟨rfl, rfl, hR6.mono mono_ValR hM10.ub⟩
    · have b0 : decide ((k : Int) < (l.length : Int)) = false := by simp; omega
      go_upto_region 2 with (fail)
      (refine wp_region_I 14 (by kernel_rfl) (by kernel_rfl) ?_; simp only [List.toList_toArray, List.take_succ_cons, List.take_zero, List.drop_succ_cons, List.drop_zero])
      iterate 5 (refine walkI_is (u := ?_) rfl (by simp) rfl ?_ ?_; rotate_left; (focus (intro A w' hS hA K hK; (simp only [List.map_cons, List.map_nil, knows, Is, Op.operands, Call.operands, List.lookup_cons, List.lookup_nil, Nat.reduceBEq, Bool.false_eq_true, if_false, if_true, Act.eval, Array.getD_eq_getD_getElem?, List.getElem?_toArray, List.getElem?_cons_succ, List.getElem?_cons_zero, Option.getD_some, and_true, true_and, List.append_toArray, List.nil_append, List.cons_append, List.toList_toArray, Array.toList_append, Option.toArray, List.append_nil] at hA); first | fail | (obtain ⟨hSc, hSf, hSs⟩ := hS.cells; go_simp; exact hK _ (by first | exact Ext.rfl' _ | exact Ext.new _ _ | assumption)))); (try simp only [List.nil_append, List.cons_append]))
      iterate 8 (refine walkI_no rfl (by simp) rfl rfl rfl ?_ ?_; (focus (simp [undef]; done)); (try simp only [List.nil_append, List.cons_append]))
      (refine walkI_is (u := ?_) rfl (by simp) rfl ?_ ?_; rotate_left; (focus (intro A w' hS hA K hK; (simp only [List.map_cons, List.map_nil, knows, Is, Op.operands, Call.operands, List.lookup_cons, List.lookup_nil, Nat.reduceBEq, Bool.false_eq_true, if_false, if_true, Act.eval, Array.getD_eq_getD_getElem?, List.getElem?_toArray, List.getElem?_cons_succ, List.getElem?_cons_zero, Option.getD_some, and_true, true_and, List.append_toArray, List.nil_append, List.cons_append, List.toList_toArray, Array.toList_append, Option.toArray, List.append_nil] at hA); first | fail | (obtain ⟨hSc, hSf, hSs⟩ := hS.cells; go_simp; exact hK _ (by first | exact Ext.rfl' _ | exact Ext.new _ _ | assumption)))); (try simp only [List.nil_append, List.cons_append]))
      (refine walkI_nil ?_; simp only [List.nil_append, List.cons_append, fins, Is, forall_eq, Act.put, List.setIfInBounds_toArray, List.set_cons_zero, List.set_cons_succ])
      intro w3 hx3
      replace hM := hM.ext hx3
      clear hx3
      go_upto_region 4 with (fail)
      (refine wp_region_I 14 (by kernel_rfl) (by kernel_rfl) ?_; simp only [List.toList_toArray, List.take_succ_cons, List.take_zero, List.drop_succ_cons, List.drop_zero])
      iterate 5 (refine walkI_is (u := ?_) rfl (by simp) rfl ?_ ?_; rotate_left; (focus (intro A w' hS hA K hK; (simp only [List.map_cons, List.map_nil, knows, Is, Op.operands, Call.operands, List.lookup_cons, List.lookup_nil, Nat.reduceBEq, Bool.false_eq_true, if_false, if_true, Act.eval, Array.getD_eq_getD_getElem?, List.getElem?_toArray, List.getElem?_cons_succ, List.getElem?_cons_zero, Option.getD_some, and_true, true_and, List.append_toArray, List.nil_append, List.cons_append, List.toList_toArray, Array.toList_append, Option.toArray, List.append_nil] at hA); first | fail | (obtain ⟨hSc, hSf, hSs⟩ := hS.cells; go_simp; exact hK _ (by first | exact Ext.rfl' _ | exact Ext.new _ _ | assumption)))); (try simp only [List.nil_append, List.cons_append]))
      iterate 8 (refine walkI_no rfl (by simp) rfl rfl rfl ?_ ?_; (focus (simp [undef]; done)); (try simp only [List.nil_append, List.cons_append]))
      (refine walkI_is (u := ?_) rfl (by simp) rfl ?_ ?_; rotate_left; (focus (intro A w' hS hA K hK; (simp only [List.map_cons, List.map_nil, knows, Is, Op.operands, Call.operands, List.lookup_cons, List.lookup_nil, Nat.reduceBEq, Bool.false_eq_true, if_false, if_true, Act.eval, Array.getD_eq_getD_getElem?, List.getElem?_toArray, List.getElem?_cons_succ, List.getElem?_cons_zero, Option.getD_some, and_true, true_and, List.append_toArray, List.nil_append, List.cons_append, List.toList_toArray, Array.toList_append, Option.toArray, List.append_nil] at hA); first | fail | (obtain ⟨hSc, hSf, hSs⟩ := hS.cells; go_simp; exact hK _ (by first | exact Ext.rfl' _ | exact Ext.new _ _ | assumption)))); (try simp only [List.nil_append, List.cons_append]))
      (refine walkI_nil ?_; simp only [List.nil_append, List.cons_append, fins, Is, forall_eq, Act.put, List.setIfInBounds_toArray, List.set_cons_zero, List.set_cons_succ])
      intro w4 hx4
      replace hM := hM.ext hx4
      clear hx4 b0
      have hkl : l.length = k := by omega
      have hins : Hid (putV v l = some (l.take k ++ [v])) := Lib.hid (by have h := putV_end hlt.out (show k = l.length by omega); rwa [List.drop_eq_nil_of_le (by omega), List.append_nil] at h)
      have hN := hM.nil mono_ValR 3 46
      simp only [List.cons_append, List.nil_append] at hN
      have htk := Lib.hid (show (l.take k).length = k by rw [List.length_take]; omega)
      have hdk := Lib.hid (show (([] : List Val) : List Val).length = l.length - k by (simp; omega))
      have hS1 := Src.ofRep (SliceRep.takeK hr k c hkl2 (by omega) (Nat.le_refl c)) hN.ple
      have hwl : IntKind.i64.wrap ((l.length : Int) - (k : Int)) = (l.length : Int) - (k : Int) := by rw [IntKind.wrap_i64]; omega
      have hcz : (k : Int) ≤ (c : Int) := by omega
      clear hlt
      go_wp2_with (first | (at_builtin; refine wpList_append_M 1 rfl _ _ 25 rfl Tryz.underlying25 infoVl rfl rfl rfl hN rfl hS1 one_VlR (by simp only [List.length_nil, htk.out]; omega) (by simp only [List.length_nil, htk.out]; omega) ?c5))
      case c5 =>
      intro v5 w5 hM5
      try simp only [List.set_cons_zero, List.set_cons_succ, List.nil_append] at hM5
      obtain ⟨a5, k5, rfl, -⟩ := hM5.form 1 rfl
      clear hM hN hS1
      obtain ⟨u0, u1, u2, ul⟩ := hM5.cellsT 0 rfl
      have hM6 := hM5.ext (Ext.new w5 (.cells (vlA v) 46))
      have hS2 := Src.lit1 (E := ValR) (H := H) (w := w5.alloc (.cells (vlA v) 46)) (b := w5.heap.size) (sz := 3) (x := v) (cs := valC v) ⟨rfl, hv⟩ rfl (fun j => by rw [(Proofs.YtnhcplmcddlgnaaGreat.Own.new w5 (vlA v) 46).facts.1 j]; simp [valC])
      clear hM5
      go_wp2_with (first | (at_builtin; refine wpList_append_M 1 rfl _ _ 25 rfl Tryz.underlying25 infoVl rfl rfl rfl hM6 rfl hS2 one_VlR (by simp only [List.length_singleton, htk.out]; omega) (by simp only [List.length_singleton, htk.out]; omega) ?d5))
      case d5 =>
      intro v7 w7 hM7
      try simp only [List.set_cons_zero, List.set_cons_succ, List.nil_append] at hM7
      obtain ⟨a7, k7, rfl, -⟩ := hM7.form 1 rfl
      have hS3 := Lib.hid (fun x n' y (h1 : n' = 0) (h2 : y ≤ maxLen) => Src.ofRep (SliceRep.noneK (E := ValR) (sz := 3) (h := H) (a := x) h1 h2) hM7.ple)
      clear hM6 hS2 u0 u1 u2 ul
      by_cases hck : c = k
      · skip
        go_wp2_with (first | (at_builtin; refine wpList_append_M 1 rfl _ _ 25 rfl Tryz.underlying25 infoVl rfl rfl rfl hM7 rfl (hS3.out _ _ _ (by omega) (by omega)) one_VlR (by simp only [List.length_append, List.length_singleton, htk.out, hdk.out]; omega) (by simp only [List.length_append, List.length_singleton, htk.out, hdk.out]; omega) ?e5))
        case e5 =>
        intro v9 w9 hM9
        try simp only [List.set_cons_zero, List.set_cons_succ, List.nil_append] at hM9
        obtain ⟨a9, k9, rfl, -⟩ := hM9.form 1 rfl
        obtain ⟨H6, hl6, hM10, hR6⟩ := hM9.freezeS 1 rfl
        go_wp2_with fail
        refine bodyPost_ret (v := .tuple #[.slice a9 ((l.take k ++ [v] : List Val).length) k9, .bool true]) (by simp [results, Tryz.results44, go_sem]) rfl ?_
        refine ⟨_, _, _, _, rfl, hM9.ex, ?_⟩
        rw [hins.out]
        exact ⟨rfl, rfl, hR6.mono mono_ValR hM10.ub⟩
      · skip
        go_wp2_with (first | (at_builtin; refine wpList_append_M 1 rfl _ _ 25 rfl Tryz.underlying25 infoVl rfl rfl rfl hM7 rfl (hS3.out _ _ _ (by omega) (by omega)) one_VlR (by simp only [List.length_append, List.length_singleton, htk.out, hdk.out]; omega) (by simp only [List.length_append, List.length_singleton, htk.out, hdk.out]; omega) ?e5))
        case e5 =>
        intro v9 w9 hM9
        try simp only [List.set_cons_zero, List.set_cons_succ, List.nil_append] at hM9
        obtain ⟨a9, k9, rfl, -⟩ := hM9.form 1 rfl
        obtain ⟨H6, hl6, hM10, hR6⟩ := hM9.freezeS 1 rfl
        go_wp2_with fail
        refine bodyPost_ret (v := .tuple #[.slice a9 ((l.take k ++ [v] : List Val).length) k9, .bool true]) (by simp [results, Tryz.results44, go_sem]) rfl ?_
        refine ⟨_, _, _, _, rfl, hM9.ex, ?_⟩
        rw [hins.out]
        exact ⟨rfl, rfl, hR6.mono mono_ValR hM10.ub⟩
end Go.Proofs.YtnhcplmcddlgnaaGreat
namespace Go.Proofs.YtnhcplmcddlgnaaGreat
open Go.RowKit Go.Shelf
set_option linter.unusedSimpArgs false
set_option linter.unusedVariables false
/-- a list of things that reads as l comes back -/
def ThingsQ (w : World) (H : PH) (l : List Thing) (e : Ending) (w' : World) : Prop := ∃ v, e = .returned v ∧ Ext w w' ∧ ThingsR (up H w w') v l
set_option maxRecDepth 100000 in
set_option maxHeartbeats 4000000 in
theorem rpart_c {H : PH} (l : List Thing) (p : Thing) (vl : Value) (cs : List Value) (w : World) (hl : PLe H (ph w)) (hr : ThingsR H vl l) (hf : ThingR H cs p) (hb : p.bulk ≤ 1000000) (hbl : ∀ x ∈ l, x.bulk ≤ 1000000) (hll : l.length ≤ 1000000) :
    Calls Tryz.prog 33 #[vl, .agg cs.toArray] w (ThingsQ w H (insR cmpT p l)) := by
  obtain ⟨a, c, rfl, -, hr⟩ := hr.form
  obtain ⟨hc0, hc1⟩ := SliceRep.capK hr
  obtain ⟨p1, m1, p2, m2, p3, m3, rfl, j1, j2, j3, -⟩ := hf.form
  have hM0 := (Mem.start w H hl).new' #[.slice p1 p.cls.length m1, .slice p2 p.vals.length m2, .slice p3 p.parts.length m3] 27 (n := w.heap.size) rfl
  simp only [List.nil_append] at hM0
  go_enter Tryz.func33, Tryz.ntmps33
  go_upto_block 0 with (fail)
  generalize World.alloc _ _ = w1 at *
  generalize hg1 : w.heap.size = g1 at *
  go_wp2_with fail
  go_loopw [5] (fun i wr => ∃ k : Nat, k ≤ l.length ∧ i = .int .i64 k ∧ Hid (∀ j x, l[j]? = some x → j < k → ¬ cmpT p x < 0) ∧ Mem w H [box g1 #[.slice p1 p.cls.length m1, .slice p2 p.vals.length m2, .slice p3 p.parts.length m3] 27] H wr) (fun i _ => l.length - (intOf i).toNat)
  case atStart => exact ⟨0, by omega, rfl, Lib.hid (fun j x _ h => by omega), hM0⟩
  case round =>
    clear hM0
    obtain ⟨k, hkl2, rfl, hlt, hM⟩ := hrel
    by_cases hk3 : k < l.length
    · have b0 : decide ((k : Int) < (l.length : Int)) = true := by simp; omega
      obtain ⟨kb, ko, k1, n1, k2, n2, k3, n3, ek, z0, z1, z2, hE, zl⟩ := ThingsR.atH hr hM.ple k hk3
      cases ek
      have hxl : l[k]? = some l[k] := List.getElem?_eq_getElem hk3
      have hxb := hbl _ (List.getElem_mem hk3)
      generalize l[k] = x at *
      obtain ⟨u0, u1, u2, ul⟩ := hM.cellsT 0 rfl
      have hcp := Lib.hid (fun W (e : Ext wr W) => compare_r x p _ _ W (mono_ThingR _ _ _ _ (hM.ple.trans e.ple) hE) (mono_ThingR _ _ _ _ (hM.ple.trans e.ple) hf) hxb hb)
      have hxl := Lib.hid hxl
      have hopp := Lib.hid ((cmpT_ord x).opp p)
      go_upto_region 2 with (fail)
      (refine wp_region_I 13 (by kernel_rfl) (by kernel_rfl) ?_; simp only [List.toList_toArray, List.take_succ_cons, List.take_zero, List.drop_succ_cons, List.drop_zero])
      iterate 5 (refine walkI_is (u := ?_) rfl (by simp) rfl ?_ ?_; rotate_left; (focus (intro A w' hS hA K hK; (simp only [List.map_cons, List.map_nil, knows, Is, Op.operands, Call.operands, List.lookup_cons, List.lookup_nil, Nat.reduceBEq, Bool.false_eq_true, if_false, if_true, Act.eval, Array.getD_eq_getD_getElem?, List.getElem?_toArray, List.getElem?_cons_succ, List.getElem?_cons_zero, Option.getD_some, and_true, true_and, List.append_toArray, List.nil_append, List.cons_append, List.toList_toArray, Array.toList_append, Option.toArray, List.append_nil] at hA); first | fail | (obtain ⟨hSc, hSf, hSs⟩ := hS.cells; go_simp; exact hK _ (by first | exact Ext.rfl' _ | exact Ext.new _ _ | assumption)))); (try simp only [List.nil_append, List.cons_append]))
      iterate 5 (refine walkI_yesis (u := ?_) rfl (by simp) rfl rfl rfl ?_ ?_; rotate_left; (focus (intro A w' hS hA K hK; (simp only [List.map_cons, List.map_nil, knows, Is, Op.operands, Call.operands, List.lookup_cons, List.lookup_nil, Nat.reduceBEq, Bool.false_eq_true, if_false, if_true, Act.eval, Array.getD_eq_getD_getElem?, List.getElem?_toArray, List.getElem?_cons_succ, List.getElem?_cons_zero, Option.getD_some, and_true, true_and, List.append_toArray, List.nil_append, List.cons_append, List.toList_toArray, Array.toList_append, Option.toArray, List.append_nil] at hA); first | fail | (obtain ⟨hSc, hSf, hSs⟩ := hS.cells; go_simp; exact hK _ (by first | exact Ext.rfl' _ | exact Ext.new _ _ | assumption)))); (try simp only [List.nil_append, List.cons_append]))
      (refine walkI_yesis (u := ?_) rfl (by simp) rfl rfl rfl ?_ ?_; rotate_left; (focus (intro A w' hS hA K hK; (simp only [List.map_cons, List.map_nil, knows, Is, Op.operands, Call.operands, List.lookup_cons, List.lookup_nil, Nat.reduceBEq, Bool.false_eq_true, if_false, if_true, Act.eval, Array.getD_eq_getD_getElem?, List.getElem?_toArray, List.getElem?_cons_succ, List.getElem?_cons_zero, Option.getD_some, and_true, true_and, List.append_toArray, List.nil_append, List.cons_append, List.toList_toArray, Array.toList_append, Option.toArray, List.append_nil] at hA); first | (go_simp; refine RetV_at (hcp.out _ hS) ?_; intro w'' hx''; exact hK _ hx'') | (obtain ⟨hSc, hSf, hSs⟩ := hS.cells; go_simp; exact hK _ (by first | exact Ext.rfl' _ | exact Ext.new _ _ | assumption)))); (try simp only [List.nil_append, List.cons_append]))
      (refine walkI_yesis (u := ?_) rfl (by simp) rfl rfl rfl ?_ ?_; rotate_left; (focus (intro A w' hS hA K hK; (simp only [List.map_cons, List.map_nil, knows, Is, Op.operands, Call.operands, List.lookup_cons, List.lookup_nil, Nat.reduceBEq, Bool.false_eq_true, if_false, if_true, Act.eval, Array.getD_eq_getD_getElem?, List.getElem?_toArray, List.getElem?_cons_succ, List.getElem?_cons_zero, Option.getD_some, and_true, true_and, List.append_toArray, List.nil_append, List.cons_append, List.toList_toArray, Array.toList_append, Option.toArray, List.append_nil] at hA); first | fail | (obtain ⟨hSc, hSf, hSs⟩ := hS.cells; go_simp; exact hK _ (by first | exact Ext.rfl' _ | exact Ext.new _ _ | assumption)))); (try simp only [List.nil_append, List.cons_append]))
      (refine walkI_is (u := ?_) rfl (by simp) rfl ?_ ?_; rotate_left; (focus (intro A w' hS hA K hK; (simp only [List.map_cons, List.map_nil, knows, Is, Op.operands, Call.operands, List.lookup_cons, List.lookup_nil, Nat.reduceBEq, Bool.false_eq_true, if_false, if_true, Act.eval, Array.getD_eq_getD_getElem?, List.getElem?_toArray, List.getElem?_cons_succ, List.getElem?_cons_zero, Option.getD_some, and_true, true_and, List.append_toArray, List.nil_append, List.cons_append, List.toList_toArray, Array.toList_append, Option.toArray, List.append_nil] at hA); first | fail | (obtain ⟨hSc, hSf, hSs⟩ := hS.cells; go_simp; exact hK _ (by first | exact Ext.rfl' _ | exact Ext.new _ _ | assumption)))); (try simp only [List.nil_append, List.cons_append]))
      (refine walkI_nil ?_; simp only [List.nil_append, List.cons_append, fins, Is, forall_eq, Act.put, List.setIfInBounds_toArray, List.set_cons_zero, List.set_cons_succ])
      intro w3 hx3
      replace hM := hM.ext hx3
      clear hx3 u0 u1 u2 ul z0 z1 z2 zl hcp b0 hE
      by_cases hcl : cmpT x p ≤ 0
      · have b1 : decide (cmpT x p ≤ 0) = true := by simpa using hcl
        have hcl := Lib.hid hcl
        go_wp2_with fail
        go_roundw
        case rel =>
          refine ⟨k + 1, by omega, by go_num, Lib.hid fun j y hj hjk => ?_, hM⟩
          by_cases e : j = k
          · subst e; rw [hxl.out] at hj; cases hj; have := hcl.out; have := hopp.out; omega
          · exact hlt.out j y hj (by omega)
        case measure => simp [intOf]; omega
      · have b1 : decide (cmpT x p ≤ 0) = false := by simpa using hcl
        have hcne : ¬ c = k := by omega
        have hrep := Lib.hid (SliceRep.dropK hr k hk3)
        have hla := Lib.hid (insR_at hlt.out hxl.out (by have := hopp.out; omega))
        replace hcl := Lib.hid hcl
        go_upto_region 4 with (fail)
        have hins : Hid (insR cmpT p l = l.take k ++ p :: l.drop k) := Lib.hid (by have h := hla.out; simpa using h)
        have hN := hM.nil mono_ThingR 3 27
        simp only [List.cons_append, List.nil_append] at hN
        have htk := Lib.hid (show (l.take k).length = k by rw [List.length_take]; omega)
        have hdk := Lib.hid (show (l.drop k : List Thing).length = l.length - k by rw [List.length_drop])
        have hS1 := Src.ofRep (SliceRep.takeK hr k c hkl2 (by omega) (Nat.le_refl c)) hN.ple
        have hwl : IntKind.i64.wrap ((l.length : Int) - (k : Int)) = (l.length : Int) - (k : Int) := by rw [IntKind.wrap_i64]; omega
        have hcz : (k : Int) ≤ (c : Int) := by omega
        clear hlt
        go_wp2_with (first | (at_builtin; refine wpList_append_M 1 rfl _ _ 23 rfl Tryz.underlying23 infoThing rfl rfl rfl hN rfl hS1 one_ThingR (by simp only [List.length_nil, htk.out]; omega) (by simp only [List.length_nil, htk.out]; omega) ?c5))
        case c5 =>
        intro v5 w5 hM5
        try simp only [List.set_cons_zero, List.set_cons_succ, List.nil_append] at hM5
        obtain ⟨a5, k5, rfl, -⟩ := hM5.form 1 rfl
        clear hM hN hS1
        obtain ⟨u0, u1, u2, ul⟩ := hM5.cellsT 0 rfl
        have hM6 := hM5.ext (Ext.new w5 (.cells #[.slice p1 p.cls.length m1, .slice p2 p.vals.length m2, .slice p3 p.parts.length m3] 27))
        have hS2 := Src.lit1 (E := ThingR) (H := H) (w := w5.alloc (.cells #[.slice p1 p.cls.length m1, .slice p2 p.vals.length m2, .slice p3 p.parts.length m3] 27)) (b := w5.heap.size) (sz := 3) hf rfl (fun j => by rw [(Proofs.YtnhcplmcddlgnaaGreat.Own.new w5 #[.slice p1 p.cls.length m1, .slice p2 p.vals.length m2, .slice p3 p.parts.length m3] 27).facts.1 j]; simp)
        clear hM5
        go_wp2_with (first | (at_builtin; refine wpList_append_M 1 rfl _ _ 23 rfl Tryz.underlying23 infoThing rfl rfl rfl hM6 rfl hS2 one_ThingR (by simp only [List.length_singleton, htk.out]; omega) (by simp only [List.length_singleton, htk.out]; omega) ?d5))
        case d5 =>
        intro v7 w7 hM7
        try simp only [List.set_cons_zero, List.set_cons_succ, List.nil_append] at hM7
        obtain ⟨a7, k7, rfl, -⟩ := hM7.form 1 rfl
        have hS3 := Src.ofRep hrep.out hM7.ple
        clear hM6 hS2 u0 u1 u2 ul
        go_wp2_with (first | (at_builtin; refine wpList_append_M 1 rfl _ _ 23 rfl Tryz.underlying23 infoThing rfl rfl rfl hM7 rfl hS3 one_ThingR (by simp only [List.length_append, List.length_singleton, htk.out, hdk.out]; omega) (by simp only [List.length_append, List.length_singleton, htk.out, hdk.out]; omega) ?e5))
        case e5 =>
        intro v9 w9 hM9
        try simp only [List.set_cons_zero, List.set_cons_succ, List.nil_append] at hM9
        obtain ⟨a9, k9, rfl, -⟩ := hM9.form 1 rfl
        obtain ⟨H6, hl6, hM10, hR6⟩ := hM9.freezeS 1 rfl
        go_wp2_with fail
        go_ret
        exact ⟨_, rfl, hM9.ex, by rw [hins.out]; exact hR6.mono mono_ThingR hM10.ub⟩
    · have b0 : decide ((k : Int) < (l.length : Int)) = false := by simp; omega
      go_upto_region 2 with (fail)
      (refine wp_region_I 13 (by kernel_rfl) (by kernel_rfl) ?_; simp only [List.toList_toArray, List.take_succ_cons, List.take_zero, List.drop_succ_cons, List.drop_zero])
      iterate 5 (refine walkI_is (u := ?_) rfl (by simp) rfl ?_ ?_; rotate_left; (focus (intro A w' hS hA K hK; (simp only [List.map_cons, List.map_nil, knows, Is, Op.operands, Call.operands, List.lookup_cons, List.lookup_nil, Nat.reduceBEq, Bool.false_eq_true, if_false, if_true, Act.eval, Array.getD_eq_getD_getElem?, List.getElem?_toArray, List.getElem?_cons_succ, List.getElem?_cons_zero, Option.getD_some, and_true, true_and, List.append_toArray, List.nil_append, List.cons_append, List.toList_toArray, Array.toList_append, Option.toArray, List.append_nil] at hA); first | fail | (obtain ⟨hSc, hSf, hSs⟩ := hS.cells; go_simp; exact hK _ (by first | exact Ext.rfl' _ | exact Ext.new _ _ | assumption)))); (try simp only [List.nil_append, List.cons_append]))
      iterate 7 (refine walkI_no rfl (by simp) rfl rfl rfl ?_ ?_; (focus (simp [undef]; done)); (try simp only [List.nil_append, List.cons_append]))
      (refine walkI_is (u := ?_) rfl (by simp) rfl ?_ ?_; rotate_left; (focus (intro A w' hS hA K hK; (simp only [List.map_cons, List.map_nil, knows, Is, Op.operands, Call.operands, List.lookup_cons, List.lookup_nil, Nat.reduceBEq, Bool.false_eq_true, if_false, if_true, Act.eval, Array.getD_eq_getD_getElem?, List.getElem?_toArray, List.getElem?_cons_succ, List.getElem?_cons_zero, Option.getD_some, and_true, true_and, List.append_toArray, List.nil_append, List.cons_append, List.toList_toArray, Array.toList_append, Option.toArray, List.append_nil] at hA); first | fail | (obtain ⟨hSc, hSf, hSs⟩ := hS.cells; go_simp; exact hK _ (by first | exact Ext.rfl' _ | exact Ext.new _ _ | assumption)))); (try simp only [List.nil_append, List.cons_append]))
      (refine walkI_nil ?_; simp only [List.nil_append, List.cons_append, fins, Is, forall_eq, Act.put, List.setIfInBounds_toArray, List.set_cons_zero, List.set_cons_succ])
      intro w3 hx3
      replace hM := hM.ext hx3
      clear hx3 b0
      have hkl : l.length = k := by omega
      have hins : Hid (insR cmpT p l = l.take k ++ [p]) := Lib.hid (by have h := insR_end hlt.out (show k = l.length by omega); rwa [List.drop_eq_nil_of_le (by omega), List.append_nil] at h)
      have hN := hM.nil mono_ThingR 3 27
      simp only [List.cons_append, List.nil_append] at hN
      have htk := Lib.hid (show (l.take k).length = k by rw [List.length_take]; omega)
      have hdk := Lib.hid (show (([] : List Thing) : List Thing).length = l.length - k by (simp; omega))
      have hS1 := Src.ofRep (SliceRep.takeK hr k c hkl2 (by omega) (Nat.le_refl c)) hN.ple
      have hwl : IntKind.i64.wrap ((l.length : Int) - (k : Int)) = (l.length : Int) - (k : Int) := by rw [IntKind.wrap_i64]; omega
      have hcz : (k : Int) ≤ (c : Int) := by omega
      clear hlt
      go_wp2_with (first | (at_builtin; refine wpList_append_M 1 rfl _ _ 23 rfl Tryz.underlying23 infoThing rfl rfl rfl hN rfl hS1 one_ThingR (by simp only [List.length_nil, htk.out]; omega) (by simp only [List.length_nil, htk.out]; omega) ?c5))
      case c5 =>
      intro v5 w5 hM5
      try simp only [List.set_cons_zero, List.set_cons_succ, List.nil_append] at hM5
      obtain ⟨a5, k5, rfl, -⟩ := hM5.form 1 rfl
      clear hM hN hS1
      obtain ⟨u0, u1, u2, ul⟩ := hM5.cellsT 0 rfl
      have hM6 := hM5.ext (Ext.new w5 (.cells #[.slice p1 p.cls.length m1, .slice p2 p.vals.length m2, .slice p3 p.parts.length m3] 27))
      have hS2 := Src.lit1 (E := ThingR) (H := H) (w := w5.alloc (.cells #[.slice p1 p.cls.length m1, .slice p2 p.vals.length m2, .slice p3 p.parts.length m3] 27)) (b := w5.heap.size) (sz := 3) hf rfl (fun j => by rw [(Proofs.YtnhcplmcddlgnaaGreat.Own.new w5 #[.slice p1 p.cls.length m1, .slice p2 p.vals.length m2, .slice p3 p.parts.length m3] 27).facts.1 j]; simp)
      clear hM5
      go_wp2_with (first | (at_builtin; refine wpList_append_M 1 rfl _ _ 23 rfl Tryz.underlying23 infoThing rfl rfl rfl hM6 rfl hS2 one_ThingR (by simp only [List.length_singleton, htk.out]; omega) (by simp only [List.length_singleton, htk.out]; omega) ?d5))
      case d5 =>
      intro v7 w7 hM7
      try simp only [List.set_cons_zero, List.set_cons_succ, List.nil_append] at hM7
      obtain ⟨a7, k7, rfl, -⟩ := hM7.form 1 rfl
      have hS3 := Lib.hid (fun x n' y (h1 : n' = 0) (h2 : y ≤ maxLen) => Src.ofRep (SliceRep.noneK (E := ThingR) (sz := 3) (h := H) (a := x) h1 h2) hM7.ple)
      clear hM6 hS2 u0 u1 u2 ul
      by_cases hck : c = k
      · skip
        go_wp2_with (first | (at_builtin; refine wpList_append_M 1 rfl _ _ 23 rfl Tryz.underlying23 infoThing rfl rfl rfl hM7 rfl (hS3.out _ _ _ (by omega) (by omega)) one_ThingR (by simp only [List.length_append, List.length_singleton, htk.out, hdk.out]; omega) (by simp only [List.length_append, List.length_singleton, htk.out, hdk.out]; omega) ?e5))
        case e5 =>
        intro v9 w9 hM9
        try simp only [List.set_cons_zero, List.set_cons_succ, List.nil_append] at hM9
        obtain ⟨a9, k9, rfl, -⟩ := hM9.form 1 rfl
        obtain ⟨H6, hl6, hM10, hR6⟩ := hM9.freezeS 1 rfl
        go_wp2_with fail
        go_ret
        exact ⟨_, rfl, hM9.ex, by rw [hins.out]; exact hR6.mono mono_ThingR hM10.ub⟩
      · skip
        go_wp2_with (first | (at_builtin; refine wpList_append_M 1 rfl _ _ 23 rfl Tryz.underlying23 infoThing rfl rfl rfl hM7 rfl (hS3.out _ _ _ (by omega) (by omega)) one_ThingR (by simp only [List.length_append, List.length_singleton, htk.out, hdk.out]; omega) (by simp only [List.length_append, List.length_singleton, htk.out, hdk.out]; omega) ?e5))
        case e5 =>
        intro v9 w9 hM9
        try simp only [List.set_cons_zero, List.set_cons_succ, List.nil_append] at hM9
        obtain ⟨a9, k9, rfl, -⟩ := hM9.form 1 rfl
        obtain ⟨H6, hl6, hM10, hR6⟩ := hM9.freezeS 1 rfl
        go_wp2_with fail
        go_ret
        exact ⟨_, rfl, hM9.ex, by rw [hins.out]; exact hR6.mono mono_ThingR hM10.ub⟩
end Go.Proofs.YtnhcplmcddlgnaaGreat
namespace Go.Proofs.YtnhcplmcddlgnaaGreat
open Go.RowKit Go.Shelf
set_option linter.unusedSimpArgs false
set_option linter.unusedVariables false
set_option maxRecDepth 100000 in
set_option maxHeartbeats 8000000 in
theorem rsorted_c (t : Thing) : ∀ (H : PH) (cs : List Value) (w : World), PLe H (ph w) → ThingR H cs t → t.bulk ≤ 400000 →
    Calls Tryz.prog 20 #[.agg cs.toArray] w (SortP H w (normT t)) := by
  induction t using Thing.ind with
  | h t ih =>
    intro H cs w hP hr hbk
    obtain ⟨a1, c1, a2, c2, a3, c3, rfl, l1, l2, l3, hc, hv, hp⟩ := hr.form
    have HI := Lib.hid ih; clear ih
    have hbk' := Lib.hid (Thing.bulk_eq t)
    have hb1 : t.cls.length ≤ 400000 := by have := hbk'.out; omega
    have hb2 : t.vals.length ≤ 400000 := by have := hbk'.out; omega
    have hb3 : t.parts.length ≤ 400000 := by have := t.parts_le; omega
    have hM : Mem w H [boxT w.heap.size (.slice a1 t.cls.length c1) (.slice a2 t.vals.length c2) (.slice a3 t.parts.length c3), boxT (w.heap.size + 1) (.slice none 0 0) (.slice none 0 0) (.slice none 0 0), boxT (w.heap.size + 1 + 1) (.slice none 0 0) (.slice none 0 0) (.slice none 0 0)] H _ :=
      (((Mem.start w H hP).new #[.slice a1 t.cls.length c1, .slice a2 t.vals.length c2, .slice a3 t.parts.length c3] 27).new' zeroT 27 (n := w.heap.size + 1) (by simp)).new' zeroT 27 (n := w.heap.size + 1 + 1) (by simp)
    go_enter Tryz.func20, Tryz.ntmps20
    go_upto_region 2 with (fail)
    generalize hg3 : w.heap.size + 1 + 1 = g3 at *
    generalize hg2 : w.heap.size + 1 = g2 at *
    generalize hg1 : w.heap.size = g1 at *
    generalize World.alloc _ _ = w1 at *
    go_wp2_with fail
    go_loopw [5] (fun i wr => ∃ (k n : Nat) (H' : PH) (a : Option Addr) (c : Nat), k ≤ t.cls.length ∧ i = .int .i64 k ∧ PLe H H' ∧ Mem w H [boxT g1 (.slice a1 t.cls.length c1) (.slice a2 t.vals.length c2) (.slice a3 t.parts.length c3), boxT g2 (.slice none 0 0) (.slice none 0 0) (.slice none 0 0), boxT g3 (.slice a n c) (.slice none 0 0) (.slice none 0 0)] H' wr ∧ Hid (n = (clsN (t.cls.take k)).length) ∧ Hid (IntsR H' (.slice a n c) (clsN (t.cls.take k)))) (fun i _ => t.cls.length - (intOf i).toNat)
    case atStart => exact ⟨0, 0, H, none, 0, by omega, rfl, PLe.refl _, hM, Lib.hid rfl, Lib.hid (SliceRep.nil _ _ _)⟩
    case round =>
      clear hM
      obtain ⟨k, n, H', a, c, hk, rfl, hHH, hM, hn, hR⟩ := hrel
      obtain ⟨z0, z1, z2, zl⟩ := hM.cellsT 0 rfl
      obtain ⟨y0, y1, y2, yl⟩ := hM.cellsT 2 rfl
      by_cases hlt : k < t.cls.length
      · obtain ⟨kb, ko, ek, e0, hE, el⟩ := IntsR.at (hc.mono mono_IntR (hHH.trans hM.ple)) k hlt
        cases ek
        have hst := Lib.hid (clsN_step hlt)
        have hnl : Hid ((clsN (t.cls.take k)).length ≤ 400000) := Lib.hid (by have := clsN_len (t.cls.take k); rw [List.length_take] at this; omega)
        generalize t.cls[k] = x at *
        go_wp2_with fail
        (refine wp_region_I 8 (by kernel_rfl) (by kernel_rfl) ?_; simp only [List.toList_toArray, List.take_succ_cons, List.take_zero, List.drop_succ_cons, List.drop_zero])
        iterate 7 (refine walkI_is (u := ?_) rfl (by simp) rfl ?_ ?_; rotate_left; (focus (intro A w' hS hA K hK; (simp only [List.map_cons, List.map_nil, knows, Is, Op.operands, Call.operands, List.lookup_cons, List.lookup_nil, Nat.reduceBEq, Bool.false_eq_true, if_false, if_true, Act.eval, Array.getD_eq_getD_getElem?, List.getElem?_toArray, List.getElem?_cons_succ, List.getElem?_cons_zero, Option.getD_some, and_true, true_and, List.append_toArray, List.nil_append, List.cons_append, List.toList_toArray, Array.toList_append, Option.toArray, List.append_nil] at hA); first | fail | (obtain ⟨hSc, hSf, hSs⟩ := hS.cells; go_simp; exact hK _ (by first | exact Ext.rfl' _ | exact Ext.new _ _ | assumption)))); (try simp only [List.nil_append, List.cons_append]))
        (refine walkI_step (fun v w' => IntsR (up H' wr w') v (putI x (clsN (t.cls.take k)))) rfl (by simp) rfl (fun v w1 w2 hx h2 hy => h2.mono mono_IntR (up_then hx hy)) ?_ ?_; (focus (intro A w' hS hA K hK; (simp only [List.map_cons, List.map_nil, knows, Is, Op.operands, Call.operands, List.lookup_cons, List.lookup_nil, Nat.reduceBEq, Bool.false_eq_true, if_false, if_true, Act.eval, Array.getD_eq_getD_getElem?, List.getElem?_toArray, List.getElem?_cons_succ, List.getElem?_cons_zero, Option.getD_some, and_true, true_and, List.append_toArray, List.nil_append, List.cons_append, List.toList_toArray, Array.toList_append, Option.toArray, List.append_nil] at hA); (go_simp; refine (rputI_c (H := H') _ x _ _ (hM.ple.trans hS.ple) hR.out hE hnl.out).mono ?_; rintro e w6 ⟨v, rfl, h6, h4⟩; exact hK _ _ h6 (h4.mono mono_IntR (up_sub hM.ple hS))))); (try simp only [List.nil_append, List.cons_append]))
        (refine walkI_nil ?_; simp only [List.nil_append, List.cons_append, fins, Is, forall_eq, Act.put, List.setIfInBounds_toArray, List.set_cons_zero, List.set_cons_succ])
        rintro w2 hx2 v hT
        obtain ⟨a', c', rfl, -, hT⟩ := hT.form
        have hHH2 := hHH.trans (ple_up hM.ple (w' := w2))
        replace hM := hM.up hx2
        generalize up H' wr w2 = H2 at *
        clear hR hn hHH z0 z1 z2 zl y0 y1 y2 yl e0 el
        rw [← hst.out] at hT ⊢
        obtain ⟨y0, y1, y2, yl, yf⟩ := hM.cellsF 2 rfl
        obtain ⟨nn, hnn⟩ : ∃ nn, (clsN (t.cls.take (k + 1))).length = nn := ⟨_, rfl⟩
        rw [hnn] at hT ⊢
        replace hnn := Lib.hid hnn
        go_wp2_with fail
        go_roundw
        case rel => exact ⟨k + 1, nn, H2, a', c', by omega, by go_num, hHH2, hM.set 2 rfl 0 (.slice a' nn c'), Lib.hid hnn.out.symm, Lib.hid hT⟩
        case measure => simp [intOf]; omega
      · obtain rfl : k = t.cls.length := by omega
        rw [List.take_length] at hn hR
        clear hc z0 z1 z2 zl y0 y1 y2 yl hlt hk
        obtain ⟨z0, z1, z2, zl⟩ := hM.cellsT 0 rfl
        go_wp2_with fail
        go_loopw [6] (fun i wr => ∃ (k m : Nat) (l : List Val) (H2 : PH) (b : Option Addr) (d : Nat), k ≤ t.vals.length ∧ i = .int .i64 k ∧ PLe H' H2 ∧ Mem w H [boxT g1 (.slice a1 t.cls.length c1) (.slice a2 t.vals.length c2) (.slice a3 t.parts.length c3), boxT g2 (.slice none 0 0) (.slice none 0 0) (.slice none 0 0), boxT g3 (.slice a n c) (.slice b m d) (.slice none 0 0)] H2 wr ∧ Hid (m = l.length) ∧ Hid (valsN (t.vals.take k) = some l) ∧ Hid (ValsR H2 (.slice b m d) l)) (fun i _ => t.vals.length - (intOf i).toNat)
        case atStart => exact ⟨0, 0, [], H', none, 0, by omega, rfl, PLe.refl _, hM, Lib.hid rfl, Lib.hid rfl, Lib.hid (SliceRep.nil _ _ _)⟩
        case round =>
          clear hM z0 z1 z2 zl
          obtain ⟨k, m, l, H2, b, d, hk, rfl, hH2, hM, hm, hvl, hV⟩ := hrel
          obtain ⟨z0, z1, z2, zl⟩ := hM.cellsT 0 rfl
          obtain ⟨y0, y1, y2, yl, yf⟩ := hM.cellsF 2 rfl
          by_cases hlt : k < t.vals.length
          · obtain ⟨kb, ko, ek, e0, e1, e2, i0, i1, i2, el⟩ := ValsR.at (hv.mono mono_ValR ((hHH.trans hH2).trans hM.ple)) k hlt
            cases ek
            have hst := Lib.hid (valsN_step hlt hvl.out)
            have hnl : Hid (l.length ≤ 400000) := Lib.hid (by have := valsN_len hvl.out; rw [List.length_take] at this; omega)
            generalize t.vals[k] = x at *
            have hcall := Lib.hid (fun W (e : Ext wr W) => rvalue_c (H := H2) l x (.slice b m d) W (hM.ple.trans e.ple) hV.out ⟨i0, i1, i2⟩ hnl.out)
            cases hpv : putV x l with
            | none =>
              rw [hpv] at hst hcall
              have hno := Lib.hid (normT_no1 (valsN_stop hst.out))
              clear hpv hst
              go_upto_region 9 with (fail)
              (refine wp_region_I 13 (by kernel_rfl) (by kernel_rfl) ?_; simp only [List.toList_toArray, List.take_succ_cons, List.take_zero, List.drop_succ_cons, List.drop_zero])
              iterate 7 (refine walkI_is (u := ?_) rfl (by simp) rfl ?_ ?_; rotate_left; (focus (intro A w' hS hA K hK; (simp only [List.map_cons, List.map_nil, knows, Is, Op.operands, Call.operands, List.lookup_cons, List.lookup_nil, Nat.reduceBEq, Bool.false_eq_true, if_false, if_true, Act.eval, Array.getD_eq_getD_getElem?, List.getElem?_toArray, List.getElem?_cons_succ, List.getElem?_cons_zero, Option.getD_some, and_true, true_and, List.append_toArray, List.nil_append, List.cons_append, List.toList_toArray, Array.toList_append, Option.toArray, List.append_nil] at hA); first | fail | (obtain ⟨hSc, hSf, hSs⟩ := hS.cells; go_simp; exact hK _ (by first | exact Ext.rfl' _ | exact Ext.new _ _ | assumption)))); (try simp only [List.nil_append, List.cons_append]))
              (refine walkI_step (fun v w' => ∃ a' n' c', v = .tuple #[.slice a' n' c', .bool false]) rfl (by simp) rfl (fun v w1 w2 hx h2 hy => h2) ?_ ?_; (focus (intro A w' hS hA K hK; (simp only [List.map_cons, List.map_nil, knows, Is, Op.operands, Call.operands, List.lookup_cons, List.lookup_nil, Nat.reduceBEq, Bool.false_eq_true, if_false, if_true, Act.eval, Array.getD_eq_getD_getElem?, List.getElem?_toArray, List.getElem?_cons_succ, List.getElem?_cons_zero, Option.getD_some, and_true, true_and, List.append_toArray, List.nil_append, List.cons_append, List.toList_toArray, Array.toList_append, Option.toArray, List.append_nil] at hA); (go_simp; refine (hcall.out _ hS).mono ?_; rintro e w6 ⟨a', n', c', b', rfl, h6, rfl⟩; exact hK _ _ h6 ⟨_, _, _, rfl⟩))); (try simp only [List.nil_append, List.cons_append]))
              (refine walkI_step (fun v w' => ∃ a' n' c', v = .tuple #[.slice a' n' c', .bool false]) rfl (by simp) rfl (fun v w1 w2 hx h2 hy => h2) ?_ ?_; (focus (intro A w' hS hA K hK; (simp only [List.map_cons, List.map_nil, knows, Is, Op.operands, Call.operands, List.lookup_cons, List.lookup_nil, Nat.reduceBEq, Bool.false_eq_true, if_false, if_true, Act.eval, Array.getD_eq_getD_getElem?, List.getElem?_toArray, List.getElem?_cons_succ, List.getElem?_cons_zero, Option.getD_some, and_true, true_and, List.append_toArray, List.nil_append, List.cons_append, List.toList_toArray, Array.toList_append, Option.toArray, List.append_nil] at hA); (obtain ⟨a', n', c', hA⟩ := hA; go_simp; exact hK _ _ (Ext.rfl' _) ⟨_, _, _, rfl⟩))); (try simp only [List.nil_append, List.cons_append]))
              (refine walkI_step (fun v w' => ∃ a' n' c', v = .slice a' n' c') rfl (by simp) rfl (fun v w1 w2 hx h2 hy => h2) ?_ ?_; (focus (intro A w' hS hA K hK; (simp only [List.map_cons, List.map_nil, knows, Is, Op.operands, Call.operands, List.lookup_cons, List.lookup_nil, Nat.reduceBEq, Bool.false_eq_true, if_false, if_true, Act.eval, Array.getD_eq_getD_getElem?, List.getElem?_toArray, List.getElem?_cons_succ, List.getElem?_cons_zero, Option.getD_some, and_true, true_and, List.append_toArray, List.nil_append, List.cons_append, List.toList_toArray, Array.toList_append, Option.toArray, List.append_nil] at hA); (obtain ⟨a', n', c', hA⟩ := hA; go_simp; exact hK _ _ (Ext.rfl' _) ⟨_, _, _, rfl⟩))); (try simp only [List.nil_append, List.cons_append]))
              (refine walkI_is (u := ?_) rfl (by simp) rfl ?_ ?_; rotate_left; (focus (intro A w' hS hA K hK; (simp only [List.map_cons, List.map_nil, knows, Is, Op.operands, Call.operands, List.lookup_cons, List.lookup_nil, Nat.reduceBEq, Bool.false_eq_true, if_false, if_true, Act.eval, Array.getD_eq_getD_getElem?, List.getElem?_toArray, List.getElem?_cons_succ, List.getElem?_cons_zero, Option.getD_some, and_true, true_and, List.append_toArray, List.nil_append, List.cons_append, List.toList_toArray, Array.toList_append, Option.toArray, List.append_nil] at hA); first | (obtain ⟨a', n', c', hA⟩ := hA; go_simp; exact hK _ (Ext.rfl' _)) | (obtain ⟨hSc, hSf, hSs⟩ := hS.cells; go_simp; exact hK _ (by first | exact Ext.rfl' _ | exact Ext.new _ _ | assumption)))); (try simp only [List.nil_append, List.cons_append]))
              (refine walkI_step (fun v w' => ∃ a' n' c', v = .slice a' n' c') rfl (by simp) rfl (fun v w1 w2 hx h2 hy => h2) ?_ ?_; (focus (intro A w' hS hA K hK; (simp only [List.map_cons, List.map_nil, knows, Is, Op.operands, Call.operands, List.lookup_cons, List.lookup_nil, Nat.reduceBEq, Bool.false_eq_true, if_false, if_true, Act.eval, Array.getD_eq_getD_getElem?, List.getElem?_toArray, List.getElem?_cons_succ, List.getElem?_cons_zero, Option.getD_some, and_true, true_and, List.append_toArray, List.nil_append, List.cons_append, List.toList_toArray, Array.toList_append, Option.toArray, List.append_nil] at hA); (obtain ⟨a', n', c', hA⟩ := hA; go_simp; exact hK _ _ (Ext.rfl' _) ⟨_, _, _, rfl⟩))); (try simp only [List.nil_append, List.cons_append]))
              (refine walkI_is (u := ?_) rfl (by simp) rfl ?_ ?_; rotate_left; (focus (intro A w' hS hA K hK; (simp only [List.map_cons, List.map_nil, knows, Is, Op.operands, Call.operands, List.lookup_cons, List.lookup_nil, Nat.reduceBEq, Bool.false_eq_true, if_false, if_true, Act.eval, Array.getD_eq_getD_getElem?, List.getElem?_toArray, List.getElem?_cons_succ, List.getElem?_cons_zero, Option.getD_some, and_true, true_and, List.append_toArray, List.nil_append, List.cons_append, List.toList_toArray, Array.toList_append, Option.toArray, List.append_nil] at hA); first | fail | (obtain ⟨hSc, hSf, hSs⟩ := hS.cells; go_simp; exact hK _ (by first | exact Ext.rfl' _ | exact Ext.new _ _ | assumption)))); (try simp only [List.nil_append, List.cons_append]))
              (refine walkI_nil ?_; simp only [List.nil_append, List.cons_append, fins, Is, forall_eq, Act.put, List.setIfInBounds_toArray, List.set_cons_zero, List.set_cons_succ])
              rintro w2 hx2 v44 - v36 - v45 - v7 -
              replace hM := hM.ext hx2
              clear z0 z1 z2 zl y0 y1 y2 yl yf e0 e1 e2 el hcall hx2 hHH hR hV
              have rz0 : _ = some (Value.slice none 0 0) := (hM.box 1 rfl).facts.1 0
              have rz1 : _ = some (Value.slice none 0 0) := (hM.box 1 rfl).facts.1 1
              have rz2 : _ = some (Value.slice none 0 0) := (hM.box 1 rfl).facts.1 2
              obtain ⟨-, rzf⟩ := (hM.box 1 rfl).facts
              have rzl := (hM.box 1 rfl).lt
              have hM8 := hM.setT 1 rfl (.slice none 0 0) (.slice none 0 0) (.slice none 0 0)
              simp only [List.set_cons_zero, List.set_cons_succ] at hM8
              clear hM
              go_wp2_with fail
              generalize World.setCell _ _ _ = w9 at *
              obtain ⟨rq', -⟩ := (hM8.box 1 rfl).facts
              have rq0 : _ = some (Value.slice none 0 0) := rq' 0
              have rq1 : _ = some (Value.slice none 0 0) := rq' 1
              have rq2 : _ = some (Value.slice none 0 0) := rq' 2
              refine bodyPost_ret (v := .tuple #[.agg #[.slice none 0 0, .slice none 0 0, .slice none 0 0], .bool false]) (by simp [results, Tryz.results20, go_sem, rq0, rq1, rq2]) rfl ?_
              rw [hno.out]
              exact ⟨rfl, hM8.ex⟩
            | some l' =>
              rw [hpv] at hst hcall
              clear hpv
              have hPv : ∀ v w1 w2, Ext wr w1 → (∃ a' c', v = Value.slice a' l'.length c' ∧ ValsR (up H2 wr w1) (.slice a' l'.length c') l') → Ext w1 w2 → ∃ a' c', v = Value.slice a' l'.length c' ∧ ValsR (up H2 wr w2) (.slice a' l'.length c') l' := fun v w1 w2 hx ⟨a', c', h1, h2⟩ hy => ⟨a', c', h1, h2.mono mono_ValR (up_then hx hy)⟩
              have hPt : ∀ v w1 w2, Ext wr w1 → (∃ a' c', v = Value.tuple #[.slice a' l'.length c', .bool true] ∧ ValsR (up H2 wr w1) (.slice a' l'.length c') l') → Ext w1 w2 → ∃ a' c', v = Value.tuple #[.slice a' l'.length c', .bool true] ∧ ValsR (up H2 wr w2) (.slice a' l'.length c') l' := fun v w1 w2 hx ⟨a', c', h1, h2⟩ hy => ⟨a', c', h1, h2.mono mono_ValR (up_then hx hy)⟩
              replace hPv := Lib.hid hPv
              replace hPt := Lib.hid hPt
              go_upto_region 9 with (fail)
              (refine wp_region_I 13 (by kernel_rfl) (by kernel_rfl) ?_; simp only [List.toList_toArray, List.take_succ_cons, List.take_zero, List.drop_succ_cons, List.drop_zero])
              iterate 7 (refine walkI_is (u := ?_) rfl (by simp) rfl ?_ ?_; rotate_left; (focus (intro A w' hS hA K hK; (simp only [List.map_cons, List.map_nil, knows, Is, Op.operands, Call.operands, List.lookup_cons, List.lookup_nil, Nat.reduceBEq, Bool.false_eq_true, if_false, if_true, Act.eval, Array.getD_eq_getD_getElem?, List.getElem?_toArray, List.getElem?_cons_succ, List.getElem?_cons_zero, Option.getD_some, and_true, true_and, List.append_toArray, List.nil_append, List.cons_append, List.toList_toArray, Array.toList_append, Option.toArray, List.append_nil] at hA); first | fail | (obtain ⟨hSc, hSf, hSs⟩ := hS.cells; go_simp; exact hK _ (by first | exact Ext.rfl' _ | exact Ext.new _ _ | assumption)))); (try simp only [List.nil_append, List.cons_append]))
              (refine walkI_step (fun v w' => ∃ a' c', v = .tuple #[.slice a' l'.length c', .bool true] ∧ ValsR (up H2 wr w') (.slice a' l'.length c') l') rfl (by simp) rfl (hPt.out) ?_ ?_; (focus (intro A w' hS hA K hK; (simp only [List.map_cons, List.map_nil, knows, Is, Op.operands, Call.operands, List.lookup_cons, List.lookup_nil, Nat.reduceBEq, Bool.false_eq_true, if_false, if_true, Act.eval, Array.getD_eq_getD_getElem?, List.getElem?_toArray, List.getElem?_cons_succ, List.getElem?_cons_zero, Option.getD_some, and_true, true_and, List.append_toArray, List.nil_append, List.cons_append, List.toList_toArray, Array.toList_append, Option.toArray, List.append_nil] at hA); (go_simp; refine (hcall.out _ hS).mono ?_; rintro e w6 ⟨a', n', c', b', rfl, h6, rfl, rfl, h4⟩; exact hK _ _ h6 ⟨_, _, rfl, h4.mono mono_ValR (up_sub hM.ple hS)⟩))); (try simp only [List.nil_append, List.cons_append]))
              (refine walkI_step (fun v w' => ∃ a' c', v = .tuple #[.slice a' l'.length c', .bool true] ∧ ValsR (up H2 wr w') (.slice a' l'.length c') l') rfl (by simp) rfl (hPt.out) ?_ ?_; (focus (intro A w' hS hA K hK; (simp only [List.map_cons, List.map_nil, knows, Is, Op.operands, Call.operands, List.lookup_cons, List.lookup_nil, Nat.reduceBEq, Bool.false_eq_true, if_false, if_true, Act.eval, Array.getD_eq_getD_getElem?, List.getElem?_toArray, List.getElem?_cons_succ, List.getElem?_cons_zero, Option.getD_some, and_true, true_and, List.append_toArray, List.nil_append, List.cons_append, List.toList_toArray, Array.toList_append, Option.toArray, List.append_nil] at hA); (obtain ⟨a', c', hA, hA2⟩ := hA; go_simp; exact hK _ _ (Ext.rfl' _) ⟨_, _, rfl, hA2⟩))); (try simp only [List.nil_append, List.cons_append]))
              (refine walkI_step (fun v w' => ∃ a' c', v = .slice a' l'.length c' ∧ ValsR (up H2 wr w') (.slice a' l'.length c') l') rfl (by simp) rfl (hPv.out) ?_ ?_; (focus (intro A w' hS hA K hK; (simp only [List.map_cons, List.map_nil, knows, Is, Op.operands, Call.operands, List.lookup_cons, List.lookup_nil, Nat.reduceBEq, Bool.false_eq_true, if_false, if_true, Act.eval, Array.getD_eq_getD_getElem?, List.getElem?_toArray, List.getElem?_cons_succ, List.getElem?_cons_zero, Option.getD_some, and_true, true_and, List.append_toArray, List.nil_append, List.cons_append, List.toList_toArray, Array.toList_append, Option.toArray, List.append_nil] at hA); (obtain ⟨a', c', hA, hA2⟩ := hA; go_simp; exact hK _ _ (Ext.rfl' _) ⟨_, _, rfl, hA2⟩))); (try simp only [List.nil_append, List.cons_append]))
              (refine walkI_is (u := ?_) rfl (by simp) rfl ?_ ?_; rotate_left; (focus (intro A w' hS hA K hK; (simp only [List.map_cons, List.map_nil, knows, Is, Op.operands, Call.operands, List.lookup_cons, List.lookup_nil, Nat.reduceBEq, Bool.false_eq_true, if_false, if_true, Act.eval, Array.getD_eq_getD_getElem?, List.getElem?_toArray, List.getElem?_cons_succ, List.getElem?_cons_zero, Option.getD_some, and_true, true_and, List.append_toArray, List.nil_append, List.cons_append, List.toList_toArray, Array.toList_append, Option.toArray, List.append_nil] at hA); first | (obtain ⟨a', c', hA, hA2⟩ := hA; go_simp; exact hK _ (Ext.rfl' _)) | (obtain ⟨hSc, hSf, hSs⟩ := hS.cells; go_simp; exact hK _ (by first | exact Ext.rfl' _ | exact Ext.new _ _ | assumption)))); (try simp only [List.nil_append, List.cons_append]))
              (refine walkI_step (fun v w' => ∃ a' c', v = .slice a' l'.length c' ∧ ValsR (up H2 wr w') (.slice a' l'.length c') l') rfl (by simp) rfl (hPv.out) ?_ ?_; (focus (intro A w' hS hA K hK; (simp only [List.map_cons, List.map_nil, knows, Is, Op.operands, Call.operands, List.lookup_cons, List.lookup_nil, Nat.reduceBEq, Bool.false_eq_true, if_false, if_true, Act.eval, Array.getD_eq_getD_getElem?, List.getElem?_toArray, List.getElem?_cons_succ, List.getElem?_cons_zero, Option.getD_some, and_true, true_and, List.append_toArray, List.nil_append, List.cons_append, List.toList_toArray, Array.toList_append, Option.toArray, List.append_nil] at hA); (obtain ⟨a', c', hA, hA2⟩ := hA; go_simp; exact hK _ _ (Ext.rfl' _) ⟨_, _, rfl, hA2⟩))); (try simp only [List.nil_append, List.cons_append]))
              (refine walkI_is (u := ?_) rfl (by simp) rfl ?_ ?_; rotate_left; (focus (intro A w' hS hA K hK; (simp only [List.map_cons, List.map_nil, knows, Is, Op.operands, Call.operands, List.lookup_cons, List.lookup_nil, Nat.reduceBEq, Bool.false_eq_true, if_false, if_true, Act.eval, Array.getD_eq_getD_getElem?, List.getElem?_toArray, List.getElem?_cons_succ, List.getElem?_cons_zero, Option.getD_some, and_true, true_and, List.append_toArray, List.nil_append, List.cons_append, List.toList_toArray, Array.toList_append, Option.toArray, List.append_nil] at hA); first | fail | (obtain ⟨hSc, hSf, hSs⟩ := hS.cells; go_simp; exact hK _ (by first | exact Ext.rfl' _ | exact Ext.new _ _ | assumption)))); (try simp only [List.nil_append, List.cons_append]))
              (refine walkI_nil ?_; simp only [List.nil_append, List.cons_append, fins, Is, forall_eq, Act.put, List.setIfInBounds_toArray, List.set_cons_zero, List.set_cons_succ])
              rintro w2 hx2 v44 - v36 - v45 - v7 ⟨b', d', rfl, hT⟩
              have hHH2 := hH2.trans (ple_up hM.ple (w' := w2))
              replace hM := hM.up hx2
              generalize up H2 wr w2 = H3 at *
              clear hV hm hvl z0 z1 z2 zl y0 y1 y2 yl yf e0 e1 e2 el hcall hx2 hPv hPt
              obtain ⟨y0, y1, y2, yl, yf⟩ := hM.cellsF 2 rfl
              obtain ⟨m', hm'⟩ : ∃ m', l'.length = m' := ⟨_, rfl⟩
              rw [hm'] at hT ⊢
              replace hm' := Lib.hid hm'.symm
              go_wp2_with fail
              go_roundw
              case rel => exact ⟨k + 1, m', l', H3, b', d', by omega, by go_num, hHH2, hM.set 2 rfl 1 (.slice b' m' d'), hm', hst, Lib.hid hT⟩
              case measure => simp [intOf]; omega
          · obtain rfl : k = t.vals.length := by omega
            rw [List.take_length] at hvl
            have hR2 := Lib.hid (hR.out.mono mono_IntR hH2)
            have hHH2 := hHH.trans hH2
            clear hv z0 z1 z2 zl y0 y1 y2 yl yf hlt hk hR hHH hH2
            obtain ⟨z0, z1, z2, zl⟩ := hM.cellsT 0 rfl
            go_wp2_with fail
            go_loopw [9] (fun i wr => ∃ (k r : Nat) (q : List Thing) (H3 : PH) (f : Option Addr) (h : Nat), k ≤ t.parts.length ∧ i = .int .i64 k ∧ PLe H2 H3 ∧ Mem w H [boxT g1 (.slice a1 t.cls.length c1) (.slice a2 t.vals.length c2) (.slice a3 t.parts.length c3), boxT g2 (.slice none 0 0) (.slice none 0 0) (.slice none 0 0), boxT g3 (.slice a n c) (.slice b m d) (.slice f r h)] H3 wr ∧ Hid (r = q.length) ∧ Hid (normTs (t.parts.take k) = some q) ∧ Hid (ThingsR H3 (.slice f r h) (stS cmpT q))) (fun i _ => t.parts.length - (intOf i).toNat)
            case atStart => exact ⟨0, 0, [], H2, none, 0, by omega, rfl, PLe.refl _, hM, Lib.hid rfl, Lib.hid rfl, Lib.hid (SliceRep.nil _ _ _)⟩
            case round =>
              clear hM z0 z1 z2 zl
              obtain ⟨k, r, q, H3, f, hc9, hk, rfl, hH3, hM, hrq, hnq, hT⟩ := hrel
              obtain ⟨z0, z1, z2, zl⟩ := hM.cellsT 0 rfl
              obtain ⟨y0, y1, y2, yl, yf⟩ := hM.cellsF 2 rfl
              by_cases hlt : k < t.parts.length
              · obtain ⟨kb, ko, k1, n1, k2, n2, k3, n3, ek, e0, e1, e2, hE, el⟩ := ThingsR.atH (hp.mono mono_ThingR (hHH2.trans hH3)) hM.ple k hlt
                cases ek
                have hst := Lib.hid (fun y => normTs_step hlt hnq.out (y := y))
                have hstop := Lib.hid (normTs_stop hlt)
                have hpm := List.getElem_mem hlt
                have hpb := Thing.part_le hpm
                have hql := Lib.hid (normTs_len hnq.out)
                have hqb := Lib.hid (normTs_mem hnq.out)
                have hsb := Lib.hid (Thing.bulk_eq t)
                generalize t.parts[k] = x at *
                have hcall := Lib.hid (fun W (e : Ext wr W) => HI.out x hpm H3 _ W (hM.ple.trans e.ple) hE (by omega))
                cases hpn : normT x with
                | none =>
                  rw [hpn] at hcall
                  have hno := Lib.hid (normT_no2 (hstop.out hpn))
                  clear hpn hst hstop
                  go_wp2_with fail
                  refine (hcall.out _ (by with_reducible repeat (first | assumption | exact Ext.rfl' _ | exact Ext.new _ _ | refine Ext.alloc' ?_ _ | refine Ext.drew' ?_ | refine Ext.drewN' ?_ _ | (refine Ext.set' ?_ ?_ _; rotate_left; focus (first | omega | (simp; done) | (simp; omega))) | (refine Ext.then (b := ?_) ?_ ?_; rotate_left; rotate_left; assumption)))).mono ?_
                  rintro e w2 ⟨rfl, hx2⟩
                  replace hM := hM.ext hx2
                  clear z0 z1 z2 zl y0 y1 y2 yl yf e0 e1 e2 el hcall hx2 hR2 hT hE
                  go_upto_region 17 with (fail)
                  have hx5 : Ext w2 _ := Ext.new w2 (.cells #[.slice none 0 0, .slice none 0 0, .slice none 0 0] 27)
                  replace hM := hM.ext hx5
                  generalize World.alloc _ _ = w5 at *
                  clear hx5
                  have rz0 : _ = some (Value.slice none 0 0) := (hM.box 1 rfl).facts.1 0
                  have rz1 : _ = some (Value.slice none 0 0) := (hM.box 1 rfl).facts.1 1
                  have rz2 : _ = some (Value.slice none 0 0) := (hM.box 1 rfl).facts.1 2
                  obtain ⟨-, rzf⟩ := (hM.box 1 rfl).facts
                  have rzl := (hM.box 1 rfl).lt
                  have hM8 := hM.setT 1 rfl (.slice none 0 0) (.slice none 0 0) (.slice none 0 0)
                  simp only [List.set_cons_zero, List.set_cons_succ] at hM8
                  clear hM
                  go_wp2_with fail
                  generalize World.setCell _ _ _ = w9 at *
                  obtain ⟨rq', -⟩ := (hM8.box 1 rfl).facts
                  have rq0 : _ = some (Value.slice none 0 0) := rq' 0
                  have rq1 : _ = some (Value.slice none 0 0) := rq' 1
                  have rq2 : _ = some (Value.slice none 0 0) := rq' 2
                  refine bodyPost_ret (v := .tuple #[.agg #[.slice none 0 0, .slice none 0 0, .slice none 0 0], .bool false]) (by simp [results, Tryz.results20, go_sem, rq0, rq1, rq2]) rfl ?_
                  rw [hno.out]
                  exact ⟨rfl, hM8.ex⟩
                | some u =>
                  rw [hpn] at hcall
                  have hst := Lib.hid (hst.out u hpn)
                  have hub : u.bulk ≤ 1000000 := by have := normT_bulk hpn; omega
                  clear hpn hstop
                  go_wp2_with fail
                  refine (hcall.out _ (by with_reducible repeat (first | assumption | exact Ext.rfl' _ | exact Ext.new _ _ | refine Ext.alloc' ?_ _ | refine Ext.drew' ?_ | refine Ext.drewN' ?_ _ | (refine Ext.set' ?_ ?_ _; rotate_left; focus (first | omega | (simp; done) | (simp; omega))) | (refine Ext.then (b := ?_) ?_ ?_; rotate_left; rotate_left; assumption)))).mono ?_
                  rintro e w2 ⟨cs, rfl, hU, hx2⟩
                  obtain ⟨f1, h1, f2, h2, f3, h3, rfl, -⟩ := hU.form
                  have hH5 := hH3.trans (ple_up hM.ple (w' := w2))
                  have hT2 := hT.out.mono mono_ThingR (ple_up hM.ple (w' := w2))
                  replace hM := hM.up hx2
                  generalize up H3 wr w2 = H5 at *
                  clear z0 z1 z2 zl y0 y1 y2 yl yf e0 e1 e2 el hcall hx2 hT hE
                  go_upto_region 19 with (fail)
                  have ho := Proofs.YtnhcplmcddlgnaaGreat.Own.new w2 #[.slice f1 u.cls.length h1, .slice f2 u.vals.length h2, .slice f3 u.parts.length h3] 27
                  replace hM := hM.ext (Ext.new w2 (.cells #[.slice f1 u.cls.length h1, .slice f2 u.vals.length h2, .slice f3 u.parts.length h3] 27))
                  generalize World.alloc _ _ = w5 at *
                  generalize w2.heap.size = g5 at *
                  have x0 : w5.cell? ⟨g5, 0, none⟩ = some (.slice f1 u.cls.length h1) := ho.facts.1 0
                  have x1 : w5.cell? ⟨g5, 1, none⟩ = some (.slice f2 u.vals.length h2) := ho.facts.1 1
                  have x2 : w5.cell? ⟨g5, 2, none⟩ = some (.slice f3 u.parts.length h3) := ho.facts.1 2
                  have xl := ho.lt
                  obtain ⟨y0, y1, y2, yl, yf⟩ := hM.cellsF 2 rfl
                  have hpc := Lib.hid (rpart_c (H := H5) (stS cmpT q) u (.slice f r hc9) _ w5 hM.ple hT2 hU hub (fun x hx => by have := hqb.out x hx; have := hsb.out; omega) (by rw [stS_lenT]; have := hql.out; rw [List.length_take] at this; omega))
                  rw [← stT_step] at hpc
                  clear ho hT2 hU
                  go_wp2_with fail
                  refine hpc.out.mono ?_
                  rintro e w6 ⟨v6, rfl, hx6, hT6⟩
                  obtain ⟨f6, c6, rfl, -, hT6⟩ := hT6.form
                  replace hH5 := hH5.trans (ple_up hM.ple (w' := w6))
                  replace hM := hM.up hx6
                  generalize up H5 w5 w6 = H6 at *
                  clear hpc hx6 y0 y1 y2 yl yf x0 x1 x2 xl
                  obtain ⟨y0, y1, y2, yl, yf⟩ := hM.cellsF 2 rfl
                  obtain ⟨r', hr'⟩ : ∃ r', (stS cmpT (q ++ [u])).length = r' := ⟨_, rfl⟩
                  rw [hr'] at hT6 ⊢
                  have hr' : Hid (r' = (q ++ [u]).length) := Lib.hid (by rw [← hr', stS_lenT])
                  go_wp2_with fail
                  go_roundw
                  case rel => exact ⟨k + 1, r', q ++ [u], H6, f6, c6, by omega, by go_num, hH5, hM.set 2 rfl 2 (.slice f6 r' c6), hr', hst, Lib.hid hT6⟩
                  case measure => simp [intOf]; omega
              · obtain rfl : k = t.parts.length := by omega
                rw [List.take_length] at hnq
                have hyes := Lib.hid (normT_yes hvl.out hnq.out)
                have hR3 := hR2.out.mono mono_IntR hH3
                have hV3 := hV.out.mono mono_ValR hH3
                have hfin := Lib.hid (thingR_of hR3 hV3 hT.out)
                have hlt := Lib.hid hlt
                clear hp hk hR2 hV hT hR3 hV3 hHH2 hH3
                go_upto_region 20 with (fail)
                clear z0 z1 z2 zl
                obtain ⟨z0, z1, z2, zl, zf⟩ := hM.cellsF 1 rfl
                have hM8 := hM.setT 1 rfl (.slice a n c) (.slice b m d) (.slice f r hc9)
                simp only [List.set_cons_zero, List.set_cons_succ] at hM8
                clear hM
                go_wp2_with fail
                generalize World.setCell _ _ _ = w9 at *
                obtain ⟨rq0, rq1, rq2, -⟩ := hM8.cellsT 1 rfl
                refine bodyPost_ret (v := .tuple #[.agg #[.slice a n c, .slice b m d, .slice f r hc9], .bool true]) (by simp [results, Tryz.results20, go_sem, rq0, rq1, rq2]) rfl ?_
                rw [hyes.out]
                exact ⟨[_, _, _], rfl, mono_ThingR _ _ _ _ hM8.ub hfin.out, hM8.ex⟩
end Go.Proofs.YtnhcplmcddlgnaaGreat
