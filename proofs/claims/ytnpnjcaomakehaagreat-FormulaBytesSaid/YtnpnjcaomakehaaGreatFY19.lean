/- Lemmas for FY, part 20: the law FormulaBytes: the walk, and more. -/
import Derived.Test.YtnpnjcaomakehaaGreatRows
import Derived.ProofKit
import Derived.OpenShut
import Derived.Carry
import Derived.SizedLaws
import Derived.Test.YtnpnjcaomakehaaGreatFY00
import Derived.Test.YtnpnjcaomakehaaGreatFY06
import Derived.Test.YtnpnjcaomakehaaGreatFY15
import Derived.Test.YtnpnjcaomakehaaGreatFY18
set_option linter.unusedSimpArgs false
set_option linter.unusedVariables false
namespace Go.Proofs.YtnpnjcaomakehaaGreat
open Go.RowKit Go.Shelf
set_option maxRecDepth 100000 in
set_option maxHeartbeats 16000000 in
theorem formulaBytes_c (vl : Value) (l : List Int) (at' how by' : Int) (vr : Value) (raw : List UInt8) (x : UInt8) (w : World) (hr : IntsR (ph w) vl l) (ia : I64 at') (ihw : I64 how) (ib : I64 by') (hraw : BytesR (ph w) vr raw) :
    Calls Tryz.prog 4 #[vl, .int .i64 at', .int .i64 how, .int .i64 by', vr, .int .u8 x.toNat] w (RetV w (.bool true)) := by
  have hs := some7_c l vl 6 at' how by' w hr (by omega) (by omega) ia ihw ib
  obtain ⟨xa, xc, rfl, -, -⟩ := hr.form
  obtain ⟨ra, rc, rfl, hrl2, hraw⟩ := hraw.form
  go_enter Tryz.func4, Tryz.ntmps4
  go_wp2_with fail
  refine hs.mono ?_
  rintro e w1 ⟨v, f, g, h, rfl, hx0, ⟨hL, -⟩, hv, hw, hgb, hhb⟩
  have hb := valid_bulk hv
  obtain ⟨a, c, rfl, -, hL⟩ := hL.form
  have hall : Hid (∀ x ∈ [f, g, h], x.bulk ≤ 15000) := by
    intro x hx
    simp only [List.mem_cons, List.not_mem_nil, or_false] at hx
    rcases hx with rfl | rfl | rfl <;> omega
  have h0 : 0 < [f, g, h].length := by simp
  have hv0 : validF ([f, g, h][0]) = 0 := hv
  have hl3 : [f, g, h].length ≤ 3 := by simp
  generalize hLe : [f, g, h] = LL at *
  replace hv0 := Lib.hid hv0
  clear hLe hv hw hgb hhb hb hs
  go_upto_block 0 with (fail)
  go_cut [] (fun wx => Ext w1 wx)
  case first =>
    clear hv0
    go_wp2_with fail
    go_loopw [14] (fun vi wr => ∃ k : Nat, k ≤ LL.length ∧ vi = .int .i64 k ∧ Ext w1 wr) (fun vi _ => LL.length - (intOf vi).toNat)
    case atStart => exact ⟨0, by omega, rfl, Ext.rfl' _⟩
    case round =>
      obtain ⟨k, hk, rfl, hx⟩ := hrel
      by_cases hlt : k < LL.length
      · obtain ⟨jb, jo, e3, f3, e4, f4, rfl, x0, x1, x2, x3, hLA, xl⟩ := FmsR.at (hL.mono mono_FmR hx.ple) k hlt
        have hd1 : decide (k < LL.length) = true := decide_eq_true hlt
        have hbA := hall.out _ (List.getElem_mem hlt)
        generalize LL[k] = LA at *
        have hIA := FmR.i _ _ hLA
        have hlen := bytes_len LA hIA
        have hde := Lib.hid (dec_encF hIA)
        replace hIA := Lib.hid hIA
        have hce := fenc_c LA _ wr hLA (by omega)
        have hre := Lib.hid (fun W (e : Ext wr W) => rfenc_c LA _ W (mono_FmR _ _ _ _ e.ple hLA) (by omega))
        have hrb := Lib.hid (fun W (e : Ext wr W) => rbytes7_c LA _ W (mono_FmR _ _ _ _ e.ple hLA) (by omega))
        have hsA := Lib.hid (fun cs W (e : Ext wr W) (h : FmR (ph W) cs LA) => rsameB_c LA LA cs _ W h (mono_FmR _ _ _ _ e.ple hLA) (by omega) (by omega))
        rw [show B (LA = LA) = true from B_iff.2 rfl] at hsA
        unfold fmC at hce hre hrb hsA
        clear hall hL hLA
        have hx9 := Ext.rfl' wr
        go_wp2_with fail
        refine hce.mono ?_
        rintro e w5 ⟨vb, rfl, ho5, hx5⟩
        have hb5 := ho5.rep mono_ByteR (noH_le _)
        obtain ⟨pb, qb, rfl, -, hb5⟩ := hb5.form
        replace hx9 := hx9.then hx5
        replace x0 := hx5.cell1 x0
        replace x1 := hx5.cell1 x1
        replace x2 := hx5.cell1 x2
        replace x3 := hx5.cell1 x3
        replace xl := cell_lt x0
        clear hx5 ho5 hce
        go_wp2_with fail
        refine (hre.out _ hx9).mono ?_
        rintro e w6 ⟨vc, rfl, ho6, hx6⟩
        have hb6 := ho6.rep mono_ByteR (noH_le _)
        obtain ⟨pc, qc, rfl, -, hb6⟩ := hb6.form
        replace hx9 := hx9.then hx6
        replace x0 := hx6.cell1 x0
        replace x1 := hx6.cell1 x1
        replace x2 := hx6.cell1 x2
        replace x3 := hx6.cell1 x3
        replace xl := cell_lt x0
        replace hb5 := hb5.mono mono_ByteR hx6.ple
        clear hx6 ho6 hre
        go_wp2_with fail
        refine (hrb.out _ hx9).mono ?_
        rintro e w7 ⟨vd, rfl, ho7, hx7⟩
        have hb7 := ho7.rep mono_ByteR (noH_le _)
        replace hx9 := hx9.then hx7
        replace x0 := hx7.cell1 x0
        replace x1 := hx7.cell1 x1
        replace x2 := hx7.cell1 x2
        replace x3 := hx7.cell1 x3
        replace xl := cell_lt x0
        replace hb5 := hb5.mono mono_ByteR hx7.ple
        replace hb6 := hb6.mono mono_ByteR hx7.ple
        clear hx7 hrb
        obtain ⟨pd, qd, rfl, -⟩ := ho7.form
        clear ho7
        go_wp2_with fail
        refine (fdecode_c _ _ _ hb7 (by omega)).mono ?_
        rintro e w8 ⟨b3, d3, b4, d4, rfl, hx8, hD⟩
        replace hD := mono_FmR _ _ _ _ (up_ple (noH_le _) hx8) hD
        replace hx9 := hx9.then hx8
        replace x0 := hx8.cell1 x0
        replace x1 := hx8.cell1 x1
        replace x2 := hx8.cell1 x2
        replace x3 := hx8.cell1 x3
        replace hb5 := hb5.mono mono_ByteR hx8.ple
        replace hb6 := hb6.mono mono_ByteR hx8.ple
        clear hx8 hb7 hlen xl
        have hsb := Lib.hid (fun W (e : Ext w8 W) => sameBytes_c _ _ (encB LA) (encB LA) W (hb5.mono mono_ByteR e.ple) (hb6.mono mono_ByteR e.ple))
        rw [show B (encB LA = encB LA) = true from B_iff.2 rfl] at hsb
        generalize decF (bytesF LA) = DD at *
        obtain ⟨D, ed⟩ := DD
        dsimp only at *
        have hnb := Own.new w8 #[.int .i64 D.op, .int .i64 D.n, .slice b3 D.inn.length d3, .slice b4 D.kids.length d4] 50
        have hnx := Ext.new w8 (.cells #[.int .i64 D.op, .int .i64 D.n, .slice b3 D.inn.length d3, .slice b4 D.kids.length d4] 50)
        unfold fmC at hD
        unfold fmV
        replace hD := mono_FmR _ _ _ _ hnx.ple hD
        replace hsb := Lib.hid (fun W (e : Ext (w8.alloc (.cells #[.int .i64 D.op, .int .i64 D.n, .slice b3 D.inn.length d3, .slice b4 D.kids.length d4] 50)) W) => hsb.out W (hnx.then e))
        replace hx9 := hx9.then hnx
        replace x0 := hnx.cell1 x0
        replace x1 := hnx.cell1 x1
        replace x2 := hnx.cell1 x2
        replace x3 := hnx.cell1 x3
        go_upto_region 8 with (fail)
        generalize w8.alloc _ = w9 at *
        clear hnx hb5 hb6
        obtain ⟨nq, -⟩ := hnb.facts
        have y0 : _ = some (Value.int .i64 D.op) := nq 0
        have y1 : _ = some (Value.int .i64 D.n) := nq 1
        have y2 : _ = some (Value.slice b3 D.inn.length d3) := nq 2
        have y3 : _ = some (Value.slice b4 D.kids.length d4) := nq 3
        have xl := cell_lt x0
        have yl := cell_lt y0
        clear nq hnb
        rcases hde.out with ⟨h1, h2⟩ | ⟨h1, h2⟩
        · cases h2
          have hsm := Lib.hid (fun W (e : Ext w9 W) => hsA.out _ W (hx9.then e) (mono_FmR _ _ _ _ e.ple hD))
          rw [h1]
          clear hde h1 hD hsA
          (refine wp_region_I 40 (by kernel_rfl) (by kernel_rfl) ?_; simp only [List.toList_toArray, List.take_succ_cons, List.take_zero, List.drop_succ_cons, List.drop_zero])
          iterate 4 (refine wiA rfl (by simp) rfl ?_; (try simp only [List.nil_append, List.cons_append]))
          iterate 2 (refine wyA rfl (by simp) rfl rfl rfl ?_; (try simp only [List.nil_append, List.cons_append]))
          (refine walkI_yesis (u := ?_) rfl (by simp) rfl rfl rfl ?_ ?_; rotate_left; (focus (intro A w' hS hA K hK; (simp only [List.map_cons, List.map_nil, knows, Is, Op.operands, Call.operands, List.lookup_cons, List.lookup_nil, Nat.reduceBEq, Bool.false_eq_true, if_false, if_true, Act.eval, Array.getD_eq_getD_getElem?, List.getElem?_toArray, List.getElem?_cons_succ, List.getElem?_cons_zero, Option.getD_some, and_true, true_and, List.append_toArray, List.nil_append, List.cons_append, List.toList_toArray, Array.toList_append, Option.toArray, List.append_nil] at hA); first | (go_simp; refine (hsb.out _ hS).mono ?_; rintro e w6 ⟨rfl, hx6⟩; exact hK _ hx6) | (obtain ⟨hSc, hSf, hSs⟩ := hS.cells; go_simp; exact hK _ xN))); (try simp only [List.nil_append, List.cons_append]))
          (refine wyA rfl (by simp) rfl rfl rfl ?_; (try simp only [List.nil_append, List.cons_append]))
          iterate 2 (refine wiA rfl (by simp) rfl ?_; (try simp only [List.nil_append, List.cons_append]))
          iterate 11 (refine wyA rfl (by simp) rfl rfl rfl ?_; (try simp only [List.nil_append, List.cons_append]))
          (refine walkI_yesis (u := ?_) rfl (by simp) rfl rfl rfl ?_ ?_; rotate_left; (focus (intro A w' hS hA K hK; (simp only [List.map_cons, List.map_nil, knows, Is, Op.operands, Call.operands, List.lookup_cons, List.lookup_nil, Nat.reduceBEq, Bool.false_eq_true, if_false, if_true, Act.eval, Array.getD_eq_getD_getElem?, List.getElem?_toArray, List.getElem?_cons_succ, List.getElem?_cons_zero, Option.getD_some, and_true, true_and, List.append_toArray, List.nil_append, List.cons_append, List.toList_toArray, Array.toList_append, Option.toArray, List.append_nil] at hA); first | (go_simp; refine (hsm.out _ hS).mono ?_; rintro e w6 ⟨rfl, hx6⟩; exact hK _ hx6) | (obtain ⟨hSc, hSf, hSs⟩ := hS.cells; go_simp; exact hK _ xN))); (try simp only [List.nil_append, List.cons_append]))
          iterate 3 (refine wyA rfl (by simp) rfl rfl rfl ?_; (try simp only [List.nil_append, List.cons_append]))
          iterate 2 (refine wiA rfl (by simp) rfl ?_; (try simp only [List.nil_append, List.cons_append]))
          iterate 3 (refine wyA rfl (by simp) rfl rfl rfl ?_; (try simp only [List.nil_append, List.cons_append]))
          iterate 8 (refine walkI_no rfl (by simp) rfl rfl rfl ?_ ?_; (focus (simp [undef]; done)); (try simp only [List.nil_append, List.cons_append]))
          (refine wyA rfl (by simp) rfl rfl rfl ?_; (try simp only [List.nil_append, List.cons_append]))
          (refine wiA rfl (by simp) rfl ?_; (try simp only [List.nil_append, List.cons_append]))
          (refine walkI_nil ?_; simp only [List.nil_append, List.cons_append, fins, Is, forall_eq, Act.put, List.setIfInBounds_toArray, List.set_cons_zero, List.set_cons_succ])
          intro w10 hx10
          go_wp2_with fail
          go_roundw
          case rel => exact ⟨k + 1, by omega, by go_num, hx.then (hx9.then hx10)⟩
          case measure => simp [intOf]; omega
        · cases h2
          have hsn := Lib.hid (fun W (e : Ext w9 W) => rsameB_c noF noF _ _ W (mono_FmR _ _ _ _ e.ple hD) (noF_R _) (by simp [noF, Fm.bulk, fbulks]) (by simp [noF, Fm.bulk, fbulks]))
          rw [show B (noF = noF) = true from B_iff.2 rfl] at hsn
          simp only [noF, Fm.op, Fm.n, Fm.inn, Fm.kids, List.length_nil, fmC] at hsn y0 y1 y2 y3
          have h1b : (validF LA == 0) = false := by simpa using h1
          have h1c : (validF LA != 0) = true := by simpa using h1
          have h1d : (validF LA != validF LA) = false := by simp
          generalize validF LA = er at *
          replace h1 := Lib.hid h1
          clear hde hD hsA
          (refine wp_region_I 40 (by kernel_rfl) (by kernel_rfl) ?_; simp only [List.toList_toArray, List.take_succ_cons, List.take_zero, List.drop_succ_cons, List.drop_zero])
          iterate 4 (refine wiA rfl (by simp) rfl ?_; (try simp only [List.nil_append, List.cons_append]))
          iterate 2 (refine wyA rfl (by simp) rfl rfl rfl ?_; (try simp only [List.nil_append, List.cons_append]))
          (refine walkI_yesis (u := ?_) rfl (by simp) rfl rfl rfl ?_ ?_; rotate_left; (focus (intro A w' hS hA K hK; (simp only [List.map_cons, List.map_nil, knows, Is, Op.operands, Call.operands, List.lookup_cons, List.lookup_nil, Nat.reduceBEq, Bool.false_eq_true, if_false, if_true, Act.eval, Array.getD_eq_getD_getElem?, List.getElem?_toArray, List.getElem?_cons_succ, List.getElem?_cons_zero, Option.getD_some, and_true, true_and, List.append_toArray, List.nil_append, List.cons_append, List.toList_toArray, Array.toList_append, Option.toArray, List.append_nil] at hA); first | (go_simp; refine (hsb.out _ hS).mono ?_; rintro e w6 ⟨rfl, hx6⟩; exact hK _ hx6) | (obtain ⟨hSc, hSf, hSs⟩ := hS.cells; go_simp; exact hK _ xN))); (try simp only [List.nil_append, List.cons_append]))
          (refine wyA rfl (by simp) rfl rfl rfl ?_; (try simp only [List.nil_append, List.cons_append]))
          iterate 2 (refine wiA rfl (by simp) rfl ?_; (try simp only [List.nil_append, List.cons_append]))
          iterate 3 (refine wyA rfl (by simp) rfl rfl rfl ?_; (try simp only [List.nil_append, List.cons_append]))
          iterate 11 (refine walkI_no rfl (by simp) rfl rfl rfl ?_ ?_; (focus (simp [undef]; done)); (try simp only [List.nil_append, List.cons_append]))
          (refine wyA rfl (by simp) rfl rfl rfl ?_; (try simp only [List.nil_append, List.cons_append]))
          iterate 2 (refine wiA rfl (by simp) rfl ?_; (try simp only [List.nil_append, List.cons_append]))
          iterate 8 (refine wyA rfl (by simp) rfl rfl rfl ?_; (try simp only [List.nil_append, List.cons_append]))
          (refine walkI_yesis (u := ?_) rfl (by simp) rfl rfl rfl ?_ ?_; rotate_left; (focus (intro A w' hS hA K hK; (simp only [List.map_cons, List.map_nil, knows, Is, Op.operands, Call.operands, List.lookup_cons, List.lookup_nil, Nat.reduceBEq, Bool.false_eq_true, if_false, if_true, Act.eval, Array.getD_eq_getD_getElem?, List.getElem?_toArray, List.getElem?_cons_succ, List.getElem?_cons_zero, Option.getD_some, and_true, true_and, List.append_toArray, List.nil_append, List.cons_append, List.toList_toArray, Array.toList_append, Option.toArray, List.append_nil] at hA); first | (go_simp; refine (hsn.out _ hS).mono ?_; rintro e w6 ⟨rfl, hx6⟩; exact hK _ hx6) | (obtain ⟨hSc, hSf, hSs⟩ := hS.cells; go_simp; exact hK _ xN))); (try simp only [List.nil_append, List.cons_append]))
          iterate 3 (refine wyA rfl (by simp) rfl rfl rfl ?_; (try simp only [List.nil_append, List.cons_append]))
          (refine wiA rfl (by simp) rfl ?_; (try simp only [List.nil_append, List.cons_append]))
          (refine walkI_nil ?_; simp only [List.nil_append, List.cons_append, fins, Is, forall_eq, Act.put, List.setIfInBounds_toArray, List.set_cons_zero, List.set_cons_succ])
          intro w10 hx10
          go_wp2_with fail
          go_roundw
          case rel => exact ⟨k + 1, by omega, by go_num, hx.then (hx9.then hx10)⟩
          case measure => simp [intOf]; omega
      · obtain rfl : k = LL.length := by omega
        have hd1 : decide (LL.length < LL.length) = false := by simp
        go_wp2_with fail
        go_meet
        case rel => exact hx
  case rest =>
    replace hx0 := hx0.then hcut
    obtain ⟨jb, jo, e3, f3, e4, f4, rfl, x0, x1, x2, x3, hF, xl⟩ := FmsR.at (hL.mono mono_FmR hcut.ple) 0 h0
    rw [Nat.zero_mul, Nat.add_zero] at x0 x1 x2 x3
    generalize LL[0] = F0 at *
    have hlL : 0 < LL.length := h0
    have hIF := FmR.i _ _ hF
    have hFb := valid_bulk hv0.out
    have hrawX := hraw.mono mono_ByteR hx0.ple
    have hEi := Lib.hid (int_bytesF hIF)
    have hEp : 1 ≤ (bytesF F0).length := by
      have := encI_pos F0.op
      rw [bytesF_eq, List.length_append]; omega
    have hEl := bytes_len F0 hIF
    have hEm : (bytesF F0).length ≤ 2000000 := by omega
    have hE : encB F0 = bytesF F0 := by unfold encB; rw [if_pos hv0.out]
    have hce := fenc_c F0 _ _ hF (by omega)
    unfold EncQ at hce
    rw [hE, hv0.out] at hce
    clear hcut hall hraw hE hEl hIF hL hFb
    unfold fmC at hce hF
    replace hce := Lib.hid hce
    replace hv0 := hv0
    generalize bytesF F0 = E at *
    replace hEi := Lib.hid hEi.out
    go_wp2_with fail
    refine hce.out.mono ?_
    rintro e w12 ⟨vb, rfl, ho, hx12⟩
    have hB := ho.rep mono_ByteR (noH_le _)
    replace hx0 := hx0.then hx12
    replace hrawX := hrawX.mono mono_ByteR hx12.ple
    replace x0 := hx12.cell1 x0
    replace xl := cell_lt x0
    clear ho hx12 hce hF
    obtain ⟨ab, cb, rfl, -, hB⟩ := hB.form
    obtain ⟨L, hL⟩ : ∃ L, E.length = L := ⟨_, rfl⟩
    rw [hL] at hEp hB hEm ⊢
    replace hL := Lib.hid hL
    obtain ⟨bb, ob, rfl⟩ : ∃ bb ob, ab = some ⟨bb, ob, none⟩ := by
      obtain ⟨b, o, e, -, -⟩ := BytesR.at hB 0 (by rw [hL.out]; omega)
      exact ⟨b, o, e⟩
    have hcl : L ≤ cb := by obtain ⟨_, _, e, h1, -⟩ := hB; cases e; rw [hL.out] at h1; exact h1
    have hrd := rread_c _ E _ hB (by rw [hL.out]; omega)
    go_wp2_with fail
    refine hrd.mono ?_
    rintro e w13 ⟨HR, g, rfl, hg, hR, hx13⟩
    have hg3 := hR.lt
    have hLz : (L == 0) = false := by simp; omega
    have hLz2 : ((L : Int) == 0) = false := by simp; omega
    clear hrd
    go_upto_region 12 with (fail)
    (refine Ph.wp_region_I 20 (S := rdSys HR [] w13.heap.size g w13 [13] (fun c => match c with | 0 => some E | _ => (intS (some E)).2)) ?h0 (by kernel_rfl) (by kernel_rfl) (by kernel_rfl) ?_; (case h0 => (exact ⟨(MemX.start w13).step (fun w0 m => m.ext xE), hR.keep xE, (Ext.drew' (Ext.rfl' _)).toW g none⟩)); simp only [List.toList_toArray, List.take_succ_cons, List.take_zero, List.drop_succ_cons, List.drop_zero])
    iterate 3 (refine Ph.walkI_is (u := ?_) rfl (by simp) rfl ?_ ?_ (by simp) (by simp [rdSys]); rotate_left; (focus (intro A w' cc hG hA K hK; (simp only [List.map_cons, List.map_nil, knows, Is, Op.operands, Call.operands, List.lookup_cons, List.lookup_nil, Nat.reduceBEq, Bool.false_eq_true, if_false, if_true, Act.eval, Array.getD_eq_getD_getElem?, List.getElem?_toArray, List.getElem?_cons_succ, List.getElem?_cons_zero, Option.getD_some, and_true, true_and, List.append_toArray, List.nil_append, List.cons_append, List.toList_toArray, Array.toList_append, Option.toArray, List.append_nil] at hA); first | fail | (go_simp; exact hK _ xE))); (try simp only [List.nil_append, List.cons_append]))
    iterate 3 (refine Ph.walkI_yesis (u := ?_) rfl (by simp) rfl rfl rfl ?_ ?_ (by simp) (by simp [rdSys]); rotate_left; (focus (intro A w' cc hG hA K hK; (simp only [List.map_cons, List.map_nil, knows, Is, Op.operands, Call.operands, List.lookup_cons, List.lookup_nil, Nat.reduceBEq, Bool.false_eq_true, if_false, if_true, Act.eval, Array.getD_eq_getD_getElem?, List.getElem?_toArray, List.getElem?_cons_succ, List.getElem?_cons_zero, Option.getD_some, and_true, true_and, List.append_toArray, List.nil_append, List.cons_append, List.toList_toArray, Array.toList_append, Option.toArray, List.append_nil] at hA); first | fail | (go_simp; exact hK _ (Ext.rfl' _)))); (try simp only [List.nil_append, List.cons_append]))
    iterate 2 (refine Ph.walkI_is (u := ?_) rfl (by simp) rfl ?_ ?_ (by simp) (by simp [rdSys]); rotate_left; (focus (intro A w' cc hG hA K hK; (simp only [List.map_cons, List.map_nil, knows, Is, Op.operands, Call.operands, List.lookup_cons, List.lookup_nil, Nat.reduceBEq, Bool.false_eq_true, if_false, if_true, Act.eval, Array.getD_eq_getD_getElem?, List.getElem?_toArray, List.getElem?_cons_succ, List.getElem?_cons_zero, Option.getD_some, and_true, true_and, List.append_toArray, List.nil_append, List.cons_append, List.toList_toArray, Array.toList_append, Option.toArray, List.append_nil] at hA); first | fail | (go_simp; exact hK _ xE))); (try simp only [List.nil_append, List.cons_append]))
    iterate 2 (refine Ph.walkI_yesis (u := ?_) rfl (by simp) rfl rfl rfl ?_ ?_ (by simp) (by simp [rdSys]); rotate_left; (focus (intro A w' cc hG hA K hK; (simp only [List.map_cons, List.map_nil, knows, Is, Op.operands, Call.operands, List.lookup_cons, List.lookup_nil, Nat.reduceBEq, Bool.false_eq_true, if_false, if_true, Act.eval, Array.getD_eq_getD_getElem?, List.getElem?_toArray, List.getElem?_cons_succ, List.getElem?_cons_zero, Option.getD_some, and_true, true_and, List.append_toArray, List.nil_append, List.cons_append, List.toList_toArray, Array.toList_append, Option.toArray, List.append_nil] at hA); first | fail | (go_simp; exact hK _ (Ext.rfl' _)))); (try simp only [List.nil_append, List.cons_append]))
    iterate 2 (refine Ph.walkI_is (u := ?_) rfl (by simp) rfl ?_ ?_ (by simp) (by simp [rdSys]); rotate_left; (focus (intro A w' cc hG hA K hK; (simp only [List.map_cons, List.map_nil, knows, Is, Op.operands, Call.operands, List.lookup_cons, List.lookup_nil, Nat.reduceBEq, Bool.false_eq_true, if_false, if_true, Act.eval, Array.getD_eq_getD_getElem?, List.getElem?_toArray, List.getElem?_cons_succ, List.getElem?_cons_zero, Option.getD_some, and_true, true_and, List.append_toArray, List.nil_append, List.cons_append, List.toList_toArray, Array.toList_append, Option.toArray, List.append_nil] at hA); first | fail | (go_simp; exact hK _ xE))); (try simp only [List.nil_append, List.cons_append]))
    (refine Ph.walkI_yesis (u := ?_) rfl (by simp) rfl rfl rfl ?_ ?_ (by simp) (by simp [rdSys]); rotate_left; (focus (intro A w' cc hG hA K hK; (simp only [List.map_cons, List.map_nil, knows, Is, Op.operands, Call.operands, List.lookup_cons, List.lookup_nil, Nat.reduceBEq, Bool.false_eq_true, if_false, if_true, Act.eval, Array.getD_eq_getD_getElem?, List.getElem?_toArray, List.getElem?_cons_succ, List.getElem?_cons_zero, Option.getD_some, and_true, true_and, List.append_toArray, List.nil_append, List.cons_append, List.toList_toArray, Array.toList_append, Option.toArray, List.append_nil] at hA); first | fail | (go_simp; exact hK _ (Ext.rfl' _)))); (try simp only [List.nil_append, List.cons_append]))
    (refine Ph.walkI_chainY (u := ?_) 0 rfl rfl (by simp) rfl rfl rfl ?_ ?_; rotate_left; (focus (intro A w' hG hA K hK; (simp only [List.map_cons, List.map_nil, knows, Is, Op.operands, Call.operands, List.lookup_cons, List.lookup_nil, Nat.reduceBEq, Bool.false_eq_true, if_false, if_true, Act.eval, Array.getD_eq_getD_getElem?, List.getElem?_toArray, List.getElem?_cons_succ, List.getElem?_cons_zero, Option.getD_some, and_true, true_and, List.append_toArray, List.nil_append, List.cons_append, List.toList_toArray, Array.toList_append, Option.toArray, List.append_nil] at hA); (go_simp; refine (rint_c g (some E) _ hG.2.1).mono ?_; rintro e w'' ⟨rfl, hR'', hX''⟩; rw [hEi.out]; exact hK _ hX'' ⟨hG.1.reader hX'' hg3, hR'', hG.2.2.then hX'' (fun i hi => by cases hi)⟩))); (try simp only [List.nil_append, List.cons_append]))
    iterate 3 (refine Ph.walkI_yesis (u := ?_) rfl (by simp) rfl rfl rfl ?_ ?_ (by simp) (by simp [rdSys]); rotate_left; (focus (intro A w' cc hG hA K hK; (simp only [List.map_cons, List.map_nil, knows, Is, Op.operands, Call.operands, List.lookup_cons, List.lookup_nil, Nat.reduceBEq, Bool.false_eq_true, if_false, if_true, Act.eval, Array.getD_eq_getD_getElem?, List.getElem?_toArray, List.getElem?_cons_succ, List.getElem?_cons_zero, Option.getD_some, and_true, true_and, List.append_toArray, List.nil_append, List.cons_append, List.toList_toArray, Array.toList_append, Option.toArray, List.append_nil] at hA); first | fail | (go_simp; exact hK _ (Ext.rfl' _)))); (try simp only [List.nil_append, List.cons_append]))
    (refine Ph.walkI_yesis (u := ?_) rfl (by simp) rfl rfl rfl ?_ ?_ (by simp) (by simp [rdSys]); rotate_left; (focus (intro A w' cc hG hA K hK; (simp only [List.map_cons, List.map_nil, knows, Is, Op.operands, Call.operands, List.lookup_cons, List.lookup_nil, Nat.reduceBEq, Bool.false_eq_true, if_false, if_true, Act.eval, Array.getD_eq_getD_getElem?, List.getElem?_toArray, List.getElem?_cons_succ, List.getElem?_cons_zero, Option.getD_some, and_true, true_and, List.append_toArray, List.nil_append, List.cons_append, List.toList_toArray, Array.toList_append, Option.toArray, List.append_nil] at hA); first | (have hE : Ext w12 w' := hG.2.2.toExt hx13 hg (fun i hi => by cases hi); have q1 := hE.cell1 x0; have q2 := cell_lt q1; go_simp; exact hK _ (Ext.rfl' _)) | (go_simp; exact hK _ (Ext.rfl' _)))); (try simp only [List.nil_append, List.cons_append]))
    (refine Ph.walkI_yesis (u := ?_) rfl (by simp) rfl rfl rfl ?_ ?_ (by simp) (by simp [rdSys]); rotate_left; (focus (intro A w' cc hG hA K hK; (simp only [List.map_cons, List.map_nil, knows, Is, Op.operands, Call.operands, List.lookup_cons, List.lookup_nil, Nat.reduceBEq, Bool.false_eq_true, if_false, if_true, Act.eval, Array.getD_eq_getD_getElem?, List.getElem?_toArray, List.getElem?_cons_succ, List.getElem?_cons_zero, Option.getD_some, and_true, true_and, List.append_toArray, List.nil_append, List.cons_append, List.toList_toArray, Array.toList_append, Option.toArray, List.append_nil] at hA); first | fail | (go_simp; exact hK _ (Ext.rfl' _)))); (try simp only [List.nil_append, List.cons_append]))
    (refine Ph.walkI_is (u := ?_) rfl (by simp) rfl ?_ ?_ (by simp) (by simp [rdSys]); rotate_left; (focus (intro A w' cc hG hA K hK; (simp only [List.map_cons, List.map_nil, knows, Is, Op.operands, Call.operands, List.lookup_cons, List.lookup_nil, Nat.reduceBEq, Bool.false_eq_true, if_false, if_true, Act.eval, Array.getD_eq_getD_getElem?, List.getElem?_toArray, List.getElem?_cons_succ, List.getElem?_cons_zero, Option.getD_some, and_true, true_and, List.append_toArray, List.nil_append, List.cons_append, List.toList_toArray, Array.toList_append, Option.toArray, List.append_nil] at hA); first | fail | (go_simp; exact hK _ xE))); (try simp only [List.nil_append, List.cons_append]))
    (refine Ph.walkI_nil ?_; simp only [List.nil_append, List.cons_append, fins, Is, forall_eq, Act.put, List.setIfInBounds_toArray, List.set_cons_zero, List.set_cons_succ])
    rintro w14 ⟨-, -, hX14⟩
    have hx14 : Ext w12 w14 := hX14.toExt hx13 hg (fun i hi => by cases hi)
    replace hx0 := hx0.then hx14
    replace hrawX := hrawX.mono mono_ByteR hx14.ple
    replace hB := hB.mono mono_ByteR hx14.ple
    clear hR hX14 hx14 hx13 hg hg3 x0 x1 x2 x3 xl
    have hfe := fewC_c _ E L w14 hB (by omega)
    rw [List.take_of_length_le (by rw [hL.out]; exact Nat.le_refl _)] at hfe
    go_wp2_with fail
    refine hfe.mono ?_
    rintro e w16 ⟨v16, rfl, ho16, hx16⟩
    have hA16 := AnyB.ofOwn ho16
    rw [hL.out] at hA16
    clear hfe ho16
    obtain ⟨a16, c16, rfl⟩ := hA16.form
    obtain ⟨hn0, hn1⟩ := aroundV_range (n := at') (m := (L : Int)) ia (by omega)
    have har := around_c at' (L : Int) w16 ia (by omega) (by omega)
    obtain ⟨q, hq⟩ : ∃ q : Nat, aroundV at' (L : Int) = q := ⟨_, (Int.toNat_of_nonneg hn0).symm⟩
    rw [hq] at hn0 hn1 har
    clear hq
    go_wp2_with fail
    refine RetV_at har ?_
    intro w17 hx17
    replace hA16 := hA16.keep (Lb.ofExt hx17)
    replace hx16 := hx16.then hx17
    clear hx17 har
    obtain ⟨g16, rfl, hg1, hg2, ⟨u16, hu16⟩, hf16, hA17⟩ := hA16.set q (by omega) x
    have hxW2 : Ext w14 (w17.setCell ⟨g16, q, none⟩ (byteV x)) := hx16.set' hg1 _
    clear hA16
    unfold byteV at hA17 hxW2
    have hqL : (q : Int) < L := hn1
    have hqL2 : q < L := by omega
    go_upto_region 16 with (fail)
    generalize w17.setCell _ _ = W2 at *
    replace hB := hB.mono mono_ByteR hxW2.ple
    replace hrawX := hrawX.mono mono_ByteR hxW2.ple
    replace hx0 := hx0.then hxW2
    clear hu16 hf16 hg2 hx16
    obtain ⟨i0, hi0, hz0, hz1, hz2⟩ := infoB'
    have hwL : IntKind.i64.wrap ((L : Int) - 1) = ((L - 1 : Nat) : Int) := by rw [IntKind.wrap_i64]; omega
    have hwL2 : IntKind.i64.wrap ((L : Int) + -1) = ((L - 1 : Nat) : Int) := by rw [IntKind.wrap_i64]; omega
    have hL1c : (((L - 1 : Nat) : Int) ≤ (cb : Int)) = True := by simp; omega
    have hTk : BytesR (ph W2) (.slice (some ⟨bb, ob, none⟩) (L - 1) cb) (E.take (L - 1)) := hB.pre (L - 1) (by rw [hL.out]; omega)
    have hTl : (E.take (L - 1)).length = L - 1 := by rw [List.length_take, hL.out]; omega
    obtain ⟨m40, hm40⟩ : ∃ m, m = (raw.take 40).length := ⟨_, rfl⟩
    have hm2 : m40 ≤ 40 := by rw [hm40, List.length_take]; omega
    have hfr := Lib.hid (fun W (e : Ext W2 W) => fewC_c _ raw 40 W (hrawX.mono mono_ByteR e.ple) (by omega))
    have hfE := Lib.hid (fun W (e : Ext W2 W) => fewC_c _ E L W (hB.mono mono_ByteR e.ple) (by omega))
    rw [List.take_of_length_le (by rw [hL.out]; exact Nat.le_refl _)] at hfE
    replace hTk := Lib.hid hTk
    replace hTl := Lib.hid hTl
    replace hm40 := Lib.hid hm40
    (refine Ph.wp_region_I 15 (S := byteSys W2) ?h0 (by kernel_rfl) (by kernel_rfl) (by kernel_rfl) ?_; (case h0 => (exact Ext.drew' (Ext.rfl' _))); simp only [List.toList_toArray, List.take_succ_cons, List.take_zero, List.drop_succ_cons, List.drop_zero])
    (refine Ph.walkI_is (u := ?_) rfl (by simp) rfl ?_ ?_ (by simp) (by simp [byteSys]); rotate_left; (focus (intro A w' cc hG hA K hK; (simp only [List.map_cons, List.map_nil, knows, Is, Op.operands, Call.operands, List.lookup_cons, List.lookup_nil, Nat.reduceBEq, Bool.false_eq_true, if_false, if_true, Act.eval, Array.getD_eq_getD_getElem?, List.getElem?_toArray, List.getElem?_cons_succ, List.getElem?_cons_zero, Option.getD_some, and_true, true_and, List.append_toArray, List.nil_append, List.cons_append, List.toList_toArray, Array.toList_append, Option.toArray, List.append_nil] at hA); first | fail | (go_simp; exact hK _ xE))); (try simp only [List.nil_append, List.cons_append]))
    (refine Ph.walkI_step (fun v w' => AnyB W2.heap.size m40 v w') rfl (by simp) rfl (fun c v a b _ q1 hL => q1.keep hL) ?_ ?_ (by simp) (by simp [byteSys]); (focus (intro A w' cc hG hA K hK; (simp only [List.map_cons, List.map_nil, knows, Is, Op.operands, Call.operands, List.lookup_cons, List.lookup_nil, Nat.reduceBEq, Bool.false_eq_true, if_false, if_true, Act.eval, Array.getD_eq_getD_getElem?, List.getElem?_toArray, List.getElem?_cons_succ, List.getElem?_cons_zero, Option.getD_some, and_true, true_and, List.append_toArray, List.nil_append, List.cons_append, List.toList_toArray, Array.toList_append, Option.toArray, List.append_nil] at hA); (have hG' : Ext W2 w' := hG; go_simp; refine (hfr.out w' hG').mono ?_; rintro e w5 ⟨v, rfl, ho, hx⟩; exact hK _ _ hx (by rw [hm40.out]; exact AnyB.ofOwn (ho.base hG'.size))))); (try simp only [List.nil_append, List.cons_append]))
    iterate 9 (refine Ph.walkI_is (u := ?_) rfl (by simp) rfl ?_ ?_ (by simp) (by simp [byteSys]); rotate_left; (focus (intro A w' cc hG hA K hK; (simp only [List.map_cons, List.map_nil, knows, Is, Op.operands, Call.operands, List.lookup_cons, List.lookup_nil, Nat.reduceBEq, Bool.false_eq_true, if_false, if_true, Act.eval, Array.getD_eq_getD_getElem?, List.getElem?_toArray, List.getElem?_cons_succ, List.getElem?_cons_zero, Option.getD_some, and_true, true_and, List.append_toArray, List.nil_append, List.cons_append, List.toList_toArray, Array.toList_append, Option.toArray, List.append_nil] at hA); first | fail | (go_simp; exact hK _ xE))); (try simp only [List.nil_append, List.cons_append]))
    (refine Ph.walkI_step (fun v w' => AnyB W2.heap.size L v w') rfl (by simp) rfl (fun c v a b _ q1 hL => q1.keep hL) ?_ ?_ (by simp) (by simp [byteSys]); (focus (intro A w' cc hG hA K hK; (simp only [List.map_cons, List.map_nil, knows, Is, Op.operands, Call.operands, List.lookup_cons, List.lookup_nil, Nat.reduceBEq, Bool.false_eq_true, if_false, if_true, Act.eval, Array.getD_eq_getD_getElem?, List.getElem?_toArray, List.getElem?_cons_succ, List.getElem?_cons_zero, Option.getD_some, and_true, true_and, List.append_toArray, List.nil_append, List.cons_append, List.toList_toArray, Array.toList_append, Option.toArray, List.append_nil] at hA); (have hG' : Ext W2 w' := hG; go_simp; refine (hfE.out w' hG').mono ?_; rintro e w5 ⟨v, rfl, ho, hx⟩; exact hK _ _ hx (by have h9 := AnyB.ofOwn (ho.base hG'.size); rw [hL.out] at h9; exact h9)))); (try simp only [List.nil_append, List.cons_append]))
    (refine Ph.walkI_is (u := ?_) rfl (by simp) rfl ?_ ?_ (by simp) (by simp [byteSys]); rotate_left; (focus (intro A w' cc hG hA K hK; (simp only [List.map_cons, List.map_nil, knows, Is, Op.operands, Call.operands, List.lookup_cons, List.lookup_nil, Nat.reduceBEq, Bool.false_eq_true, if_false, if_true, Act.eval, Array.getD_eq_getD_getElem?, List.getElem?_toArray, List.getElem?_cons_succ, List.getElem?_cons_zero, Option.getD_some, and_true, true_and, List.append_toArray, List.nil_append, List.cons_append, List.toList_toArray, Array.toList_append, Option.toArray, List.append_nil] at hA); first | fail | (go_simp; exact hK _ xE))); (try simp only [List.nil_append, List.cons_append]))
    (refine Ph.walkI_step (fun v w' => ∃ g, v = .slice (some ⟨g, 0, none⟩) 1 1 ∧ AnyB W2.heap.size 1 v w') rfl (by simp) rfl (fun c v a b _ ⟨g, q1, q2⟩ hL => ⟨g, q1, q2.keep hL⟩) ?_ ?_ (by simp) (by simp [byteSys]); (focus (intro A w' cc hG hA K hK; (simp only [List.map_cons, List.map_nil, knows, Is, Op.operands, Call.operands, List.lookup_cons, List.lookup_nil, Nat.reduceBEq, Bool.false_eq_true, if_false, if_true, Act.eval, Array.getD_eq_getD_getElem?, List.getElem?_toArray, List.getElem?_cons_succ, List.getElem?_cons_zero, Option.getD_some, and_true, true_and, List.append_toArray, List.nil_append, List.cons_append, List.toList_toArray, Array.toList_append, Option.toArray, List.append_nil] at hA); (have hG' : Ext W2 w' := hG; go_simp; exact hK _ _ (Ext.new _ _) ⟨_, rfl, .inr ⟨_, 1, #[.int .u8 x.toNat], rfl, hG'.size, Own.new _ _ _, by omega, by simp [maxLen], rfl, fun j hj => ⟨x, by obtain rfl : j = 0 := (by omega); rfl⟩⟩⟩))); (try simp only [List.nil_append, List.cons_append]))
    (refine Ph.walkI_stepL (fun v w' => AnyB W2.heap.size (L + 1) v w') rfl (by simp) rfl (fun c v a b _ q1 hL => q1.keep hL) ?_ ?_ (by simp) (by simp [byteSys]); (focus (intro A w' cc hG hA K hK; (simp only [List.map_cons, List.map_nil, knows, Is, Op.operands, Call.operands, List.lookup_cons, List.lookup_nil, Nat.reduceBEq, Bool.false_eq_true, if_false, if_true, Act.eval, Array.getD_eq_getD_getElem?, List.getElem?_toArray, List.getElem?_cons_succ, List.getElem?_cons_zero, Option.getD_some, and_true, true_and, List.append_toArray, List.nil_append, List.cons_append, List.toList_toArray, Array.toList_append, Option.toArray, List.append_nil] at hA); (have hG' : Ext W2 w' := hG; obtain ⟨h156, g', hA1, hA2⟩ := hA; obtain ⟨ys, hyl, hys⟩ := hA2.own; refine oper_append_any (.tmp 157) (.tmp 159) 23 rfl i0 Tryz.underlying23 hi0 hz0 hz1 hz2 (v := A.tmps[157]?.getD undef) (vx := A.tmps[159]?.getD undef) (n := L) (ys := ys) (by simp [Act.eval]) (by simp [Act.eval]) h156 (Src.ofOwn hys) hG'.size (by omega) ?_; intro v' w'' h1 h2; exact hK _ _ h2 (Lb.ext hG' h2) (by rw [hyl] at h1; exact h1)))); (try simp only [List.nil_append, List.cons_append]))
    (refine Ph.walkI_nil ?_; simp only [List.nil_append, List.cons_append, fins, Is, forall_eq, Act.put, List.setIfInBounds_toArray, List.set_cons_zero, List.set_cons_succ])
    rintro w22 hG22 v146 h146 v156 - v158 - v159 h159
    have hx22 : Ext W2 w22 := hG22
    obtain ⟨z0, hz0l, hz0r⟩ := h146.rep
    obtain ⟨z1, hz1l, hz1r⟩ := (hA17.keep (Lb.ofExt hx22)).rep
    have hz2r := hTk.out.mono mono_ByteR hx22.ple
    obtain ⟨z3, hz3l, hz3r⟩ := h159.rep
    obtain ⟨a146, c146, rfl⟩ := h146.form
    obtain ⟨a159, c159, rfl⟩ := h159.form
    have hz2l := hTl.out
    have hall : ∀ j, j < 4 → ∃ a n cp zs, (#[.slice a146 m40 c146, .slice (some ⟨g16, 0, none⟩) L c16, .slice (some ⟨bb, ob, none⟩) (L - 1) cb, .slice a159 (L + 1) c159] : Array Value)[j]? = some (.slice a n cp) ∧ BytesR (ph w22) (.slice a n cp) zs ∧ n = zs.length ∧ zs.length ≤ 2000001 := by
      intro j hj
      match j, hj with
      | 0, _ => exact ⟨_, _, _, z0, rfl, hz0r, hz0l.symm, by omega⟩
      | 1, _ => exact ⟨_, _, _, z1, rfl, hz1r, hz1l.symm, by omega⟩
      | 2, _ => exact ⟨_, _, _, _, rfl, hz2r, hz2l.symm, by omega⟩
      | 3, _ => exact ⟨_, _, _, z3, rfl, hz3r, hz3l.symm, by omega⟩
    replace hall := Lib.hid hall
    have hT := Own.new w22 #[.slice a146 m40 c146, .slice (some ⟨g16, 0, none⟩) L c16, .slice (some ⟨bb, ob, none⟩) (L - 1) cb, .slice a159 (L + 1) c159] 23
    have hx23 := Ext.new w22 (.cells #[.slice a146 m40 c146, .slice (some ⟨g16, 0, none⟩) L c16, .slice (some ⟨bb, ob, none⟩) (L - 1) cb, .slice a159 (L + 1) c159] 23)
    replace hx0 := hx0.then (hx22.then hx23)
    clear hz0l hz0r hz1l hz1r hz2l hz2r hz3l hz3r hA17 h146 h159 hB hrawX hx22 hG22 hTk hTl hfr hfE hxW2
    go_wp2_with fail
    generalize w22.heap.size = gT at *
    generalize w22.alloc _ = W4 at *
    go_loopw [26] (fun i wq => ∃ j : Nat, j ≤ 4 ∧ i = .int .i64 j ∧ Ext W4 wq) (fun i _ => 4 - (intOf i).toNat)
    case atStart => exact ⟨0, by omega, rfl, Ext.rfl' _⟩
    case round =>
      obtain ⟨j, hj, rfl, hxq⟩ := hrel
      rcases (Decidable.em (j < 4)).symm with hj4 | hj4
      · have hja : decide ((j : Int) < 4) = false := by simp; omega
        have hli := Lib.hid (lives07_c wr)
        go_wp2_with fail
        refine RetV_at hli.out ?_
        intro w8 hx8
        go_wp2_with fail
        go_ret
        exact ⟨rfl, hx0.then (hxq.then hx8)⟩
      · have hja : decide ((j : Int) < 4) = true := by simp; omega
        have hja2 : decide (j < 4) = true := decide_eq_true hj4
        have hj4' : (j : Int) < 4 := by omega
        obtain ⟨a, n', cp, zs, hc, hzr, rfl, hzl⟩ := hall.out j hj4
        have hLq := hT.keep hxq
        have hcj := hLq.facts.1 j
        rw [hc] at hcj
        replace hzr := hzr.mono mono_ByteR (hx23.then hxq).ple
        have hlj := cell_lt hcj
        clear hLq hc
        go_wp2_with fail
        refine (fdecode_c _ zs _ hzr (by omega)).mono ?_
        rintro e w24 ⟨b3, d3, b4, d4, rfl, hx24, hd⟩
        replace hd := mono_FmR _ _ _ _ (up_ple (noH_le _) hx24) hd
        have hcase := Lib.hid (decF_any zs)
        generalize decF zs = DD at *
        obtain ⟨D, ed⟩ := DD
        dsimp only at *
        replace hcj := hx24.cell1 hcj
        replace hzr := hzr.mono mono_ByteR hx24.ple
        replace hxq := hxq.then hx24
        clear hx24 hlj
        have hnb := Own.new w24 #[.int .i64 D.op, .int .i64 D.n, .slice b3 D.inn.length d3, .slice b4 D.kids.length d4] 50
        have hnx := Ext.new w24 (.cells #[.int .i64 D.op, .int .i64 D.n, .slice b3 D.inn.length d3, .slice b4 D.kids.length d4] 50)
        unfold fmC at hd
        unfold fmV
        replace hd := mono_FmR _ _ _ _ hnx.ple hd
        replace hcj := hnx.cell1 hcj
        replace hzr := hzr.mono mono_ByteR hnx.ple
        replace hxq := hxq.then hnx
        have hbk : Hid (D.bulk ≤ 3168) := by
          show _ ≤ _
          rcases hcase.out with ⟨h1, h2, h3⟩ | h1
          · exact valid_bulk h2
          · cases h1; simp [noF, Fm.bulk, fbulks]
        go_upto_region 21 with (fail)
        generalize w24.alloc _ = w25 at *
        clear hnx
        obtain ⟨nq, -⟩ := hnb.facts
        have y0 : _ = some (Value.int .i64 D.op) := nq 0
        have y1 : _ = some (Value.int .i64 D.n) := nq 1
        have y2 : _ = some (Value.slice b3 D.inn.length d3) := nq 2
        have y3 : _ = some (Value.slice b4 D.kids.length d4) := nq 3
        have yl := cell_lt y0
        have hlj := cell_lt hcj
        clear nq hnb
        have hby := Lib.hid (rbytes7_c D _ _ hd (by have := hbk.out; omega))
        go_wp2_with fail
        refine hby.out.mono ?_
        rintro e w26 ⟨vo, rfl, hoo, hx26⟩
        have hbo := hoo.rep mono_ByteR (noH_le _)
        obtain ⟨po, qo, rfl, -, hbo⟩ := hbo.form
        replace y0 := hx26.cell1 y0
        replace y1 := hx26.cell1 y1
        replace y2 := hx26.cell1 y2
        replace y3 := hx26.cell1 y3
        replace yl := cell_lt y0
        replace hcj := hx26.cell1 hcj
        replace hlj := cell_lt hcj
        replace hzr := hzr.mono mono_ByteR hx26.ple
        replace hd := mono_FmR _ _ _ _ hx26.ple hd
        replace hxq := hxq.then hx26
        clear hx26 hoo hby
        rcases hcase.out with ⟨h1, h2, h3⟩ | h1
        · subst h1
          have hVa := Lib.hid (fvalid_c D _ _ hd (by have := hbk.out; omega))
          rw [h2] at hVa
          rw [h3] at hbo
          have hsb := Lib.hid (fun W (e : Ext w26 W) => sameBytes_c _ _ zs zs W (hbo.mono mono_ByteR e.ple) (hzr.mono mono_ByteR e.ple))
          rw [show B (zs = zs) = true from B_iff.2 rfl] at hsb
          rw [h3]
          clear h2 h3 hd hzr hcase hbo hbk
          generalize zs.length = zl at *
          go_wp2_with fail
          refine RetV_at hVa.out ?_
          intro w27 hx27
          replace hcj := hx27.cell1 hcj
          replace hlj := cell_lt hcj
          go_wp2_with fail
          refine RetV_at (hsb.out _ hx27) ?_
          intro w28 hx28
          go_wp2_with fail
          go_roundw
          case rel => exact ⟨j + 1, by omega, by go_num, hxq.then (hx27.then hx28)⟩
          case measure => simp [intOf]; omega
        · cases h1
          have hsn := Lib.hid (rsameB_c noF noF _ _ _ hd (noF_R _) (by simp [noF, Fm.bulk, fbulks]) (by simp [noF, Fm.bulk, fbulks]))
          rw [show B (noF = noF) = true from B_iff.2 rfl] at hsn
          simp only [noF, Fm.op, Fm.n, Fm.inn, Fm.kids, List.length_nil, fmC] at hsn y0 y1 y2 y3
          clear hd hzr hcase hbo hbk
          generalize zs.length = zl at *
          go_wp2_with fail
          refine RetV_at hsn.out ?_
          intro w27 hx27
          go_wp2_with fail
          go_roundw
          case rel => exact ⟨j + 1, by omega, by go_num, hxq.then hx27⟩
          case measure => simp [intOf]; omega
theorem formulaBytesLaw (vl vr : Value) (l : List Int) (at' how by' : Int) (raw : List UInt8) (x : UInt8) (w : World) (hr : IntsR (ph w) vl l) (hraw : BytesR (ph w) vr raw) (_ : l.length ≤ 140737488355328) (_ : raw.length ≤ 140737488355328) (ia : I64 at') (ihw : I64 how) (ib : I64 by') :
    Calls Tryz.prog 4 #[vl, .int .i64 at', .int .i64 how, .int .i64 by', vr, .int .u8 x.toNat] w (RetV w (.bool true)) := formulaBytes_c vl l at' how by' vr raw x w hr ia ihw ib hraw
end Go.Proofs.YtnpnjcaomakehaaGreat
namespace Go.Proofs.YtnpnjcaomakehaaGreat
open Go.ChangeShapes Go.WideShapes Go.ChangeAt Go.RowKit
theorem post_of_ext {H : Type} {enc : TypeId × Value → H} {P : Program} {f : Func} {s : ChangeSpec} {apart fresh handsOn : Bool} {W W' : World} {args : Array Value} {v : Value} {ds gs : List (DataW H)} {before pa pv : List MemPlace}
    (hW : DataW.Whole enc P f.params.toList s.vars apart W args.toList ds gs before)
    (hres : ∀ (b : Nat) (sp : Nat → Bool) (hd : Bool), DataW.TrodAll enc P W' b sp hd f.resultTypes.toList (v.resultList f.resultTypes.size) (s.fn H (ds ++ gs)).results [])
    (hargs : ∀ sp : Nat → Bool, (∀ p ∈ before, sp p.block = true) → DataW.TrodAll enc P W' 0 sp true f.params.toList args.toList (s.fn H (ds ++ gs)).args pa)
    (hvars : ∀ sp : Nat → Bool, (∀ p ∈ before, sp p.block = true) → DataW.TrodVars enc P W' sp s.vars (s.fn H (ds ++ gs)).vars pv)
    (hps : before = pa ++ pv) (he : Ext W W') : s.post enc P f apart fresh handsOn false W args v W' := by
  have hold : ∀ p ∈ before, (fun b => decide (b < W.heap.size)) p.block = true := fun p hp => by simpa using hW.lt p hp
  exact ⟨ds, gs, before, [], pa, pv, hW, hres _ _ _, hargs _ hold, hvars _ hold, he.frame _, fun h => by cases h⟩
theorem wf_i64 {a : Int} (h : (Lit.int .i64 a).wf = true) : I64 a := by
  simpa [Lit.wf, IntKind.min, IntKind.max, IntKind.signed, IntKind.bits, I64] using h
end Go.Proofs.YtnpnjcaomakehaaGreat
namespace Go.Proofs.YtnpnjcaomakehaaGreat
open Go.ChangeShapes Go.WideShapes Go.ChangeAt Go.RowKit
section
variable {H : Type} {enc : TypeId × Value → H} {P : Program}
theorem trodAll_back (hl : laidOutB P = true) {W W' : World} (hb : Ext W W') : ∀ {ts : List TypeId} {vs : List Value} {ds : List (DataW H)} {ps : List MemPlace}, (∀ t ∈ ts, P.readableRec t = true ∧ t < P.types.size) →
    DataW.TrodAll enc P W 0 (fun _ => true) true ts vs ds ps → (∀ x ∈ ps, x.block < W.heap.size) → DataW.TrodAll enc P W' 0 (fun b => decide (b < W.heap.size)) true ts vs ds ps
  | [], [], [], ps, _, h, _ => h
  | t :: ts, v :: vs, d :: ds, ps, hr, h, hlt => by
    obtain ⟨p, q, h1, h2, rfl⟩ := h
    exact ⟨p, q, Below.trod hl (hr t (by simp)).1 (hr t (by simp)).2 h1 hb (fun x hx => hlt x (by simp [hx])), trodAll_back hl hb (fun t ht => hr t (by simp [ht])) h2 (fun x hx => hlt x (by simp [hx])), rfl⟩
  | [], _ :: _, _, _, _, h, _ => h.elim
  | [], [], _ :: _, _, _, h, _ => h.elim
  | _ :: _, [], _, _, _, h, _ => h.elim
  | _ :: _, _ :: _, [], _, _, h, _ => h.elim
theorem post_law {f : Func} {s : ChangeSpec} {apart fresh handsOn : Bool} {W W' : World} {args : Array Value} {v : Value} {ds gs : List (DataW H)} {before : List MemPlace}
    (hW : DataW.Whole enc P f.params.toList s.vars apart W args.toList ds gs before) (hv : s.vars = [])
    (hres : ∀ (b : Nat) (sp : Nat → Bool) (hd : Bool), DataW.TrodAll enc P W' b sp hd f.resultTypes.toList (v.resultList f.resultTypes.size) (s.fn H (ds ++ gs)).results [])
    (hargs : (s.fn H (ds ++ gs)).args = ds) (hvs : (s.fn H (ds ++ gs)).vars = []) (hl : laidOutB P = true) (hr : ∀ t ∈ f.params.toList, P.readableRec t = true ∧ t < P.types.size) (he : Ext W W') : s.post enc P f apart fresh handsOn false W args v W' := by
  have hold : ∀ p ∈ before, p.block < W.heap.size := fun p hp => hW.lt p hp
  have hW' := hW
  obtain ⟨p, q, hA, hV, rfl, -, -⟩ := hW
  rw [hv] at hV
  obtain ⟨rfl, rfl⟩ : gs = [] ∧ q = [] := by
    cases gs with
    | nil => exact ⟨rfl, hV⟩
    | cons _ _ => exact hV.elim
  refine ⟨ds, [], p ++ [], [], p, [], hW', hres _ _ _, ?_, ?_, he.frame _, fun h => by cases h⟩
  · rw [hargs]; exact trodAll_back hl he hr hA fun x hx => hold x (by simp [hx])
  · rw [hv, hvs]; rfl
theorem wf_i64m {n : Int} (h : (Lit.int .i64 n).wf = true) : I64 n := wf_i64 h
theorem openI {t e : TypeId} {v : Value} {d : DataW H} {p : List MemPlace} {W : World} {base : Nat} (ht : P.underlying t = some (.slice e)) (he : P.underlying e = some (.int .i64)) (hc : P.cellsOf e = 1) (hby : P.bytesOf e = 8)
    (hval : Value.okWide P W .any base t v) (h : DataW.Trod enc P W 0 (fun _ => true) true t v d p) {ts : List TypeId} {ds : List (DataW H)} (hsz : (DataW.weightsEach P ts ds).all (· ≤ reachBytes) = true) (j : Nat) (hj : ts[j]? = some t) (hd : ds[j]? = some d) :
    ∃ l : List Int, IntsR (ph W) v l ∧ l.length ≤ 17592186043904 := by
  obtain ⟨a0, len, cap, rfl⟩ := okWide_slice ht hval
  obtain ⟨fuel, hf⟩ := h
  rcases open_ints ht he hc hf with ⟨hcs, hx⟩ | ⟨a, len', cap', zs, hcs, _, hl, hm, hz, hx, hcell, hwz⟩
  · simp [Value.cells] at hcs
    obtain ⟨rfl, rfl, rfl⟩ := hcs
    exact ⟨[], SliceRep.nil _ _ _, by simp⟩
  · simp [Value.cells] at hcs
    obtain ⟨rfl, rfl, rfl⟩ := hcs
    simp only [Prod.mk.injEq] at hx
    obtain ⟨rfl, -⟩ := hx
    simp only [if_true] at hz
    have hreach : len * 8 ≤ 140737488351232 := by
      have := sized_slice hsz (j := j) hj hd ht
      rw [hby] at this
      simp only [lits, List.length_map, List.length_take, List.length_drop, reachBytes] at this
      omega
    have hlen : (zs.take len).length = len := by rw [List.length_take]; omega
    refine ⟨zs.take len, ⟨some a, cap, by rw [hlen], by omega, hm, ?_⟩, by omega⟩
    by_cases h0 : len = 0
    · left; rw [h0]; rfl
    · right
      obtain ⟨b, off, spot⟩ := a
      have hspot : spot = none := by simpa [Addr.add] using World.cell?_spot (hcell 0 (by omega))
      subst hspot
      refine ⟨b, off, rfl, RowRep.of fun i hi => ?_⟩
      rw [hlen] at hi
      have h1 := hcell i (by omega)
      have h2 : zs.getD i 0 = (zs.take len)[i]'(by omega) := by
        rw [List.getElem_take]; simp [List.getD, show i < zs.length by omega]
      refine ⟨[.int .i64 ((zs.take len)[i]'(by omega))], rfl, fun j hj => ?_, rfl, wf_i64m (hwz _ ?_)⟩
      · obtain rfl : j = 0 := by omega
        rw [addo, cell_ph, h2] at h1
        simpa using h1
      · rw [List.getElem_take]; exact List.getElem_mem _
theorem wf_u8 {n : Int} (h : (Lit.int .u8 n).wf = true) : 0 ≤ n ∧ n < 256 := by
  have := bounds_u8 h; omega
theorem openB {t e : TypeId} {v : Value} {d : DataW H} {p : List MemPlace} {W : World} {base : Nat} (ht : P.underlying t = some (.slice e)) (he : P.underlying e = some (.int .u8)) (hc : P.cellsOf e = 1) (hby : P.bytesOf e = 1)
    (hval : Value.okWide P W .any base t v) (h : DataW.Trod enc P W 0 (fun _ => true) true t v d p) {ts : List TypeId} {ds : List (DataW H)} (hsz : (DataW.weightsEach P ts ds).all (· ≤ reachBytes) = true) (j : Nat) (hj : ts[j]? = some t) (hd : ds[j]? = some d) :
    ∃ l : List UInt8, BytesR (ph W) v l ∧ l.length ≤ 140737488351232 := by
  obtain ⟨a0, len, cap, rfl⟩ := okWide_slice ht hval
  obtain ⟨fuel, hf⟩ := h
  rcases open_ints ht he hc hf with ⟨hcs, hx⟩ | ⟨a, len', cap', zs, hcs, _, hl, hm, hz, hx, hcell, hwz⟩
  · simp [Value.cells] at hcs
    obtain ⟨rfl, rfl, rfl⟩ := hcs
    exact ⟨[], SliceRep.nil _ _ _, by simp⟩
  · simp [Value.cells] at hcs
    obtain ⟨rfl, rfl, rfl⟩ := hcs
    simp only [Prod.mk.injEq] at hx
    obtain ⟨rfl, -⟩ := hx
    simp only [if_true] at hz
    have hreach : len * 1 ≤ 140737488351232 := by
      have := sized_slice hsz (j := j) hj hd ht
      rw [hby] at this
      simp only [lits, List.length_map, List.length_take, List.length_drop, reachBytes] at this
      omega
    have hlen : ((zs.take len).map fun n => UInt8.ofNat n.toNat).length = len := by rw [List.length_map, List.length_take]; omega
    refine ⟨(zs.take len).map fun n => UInt8.ofNat n.toNat, ⟨some a, cap, by rw [hlen], by omega, hm, ?_⟩, by omega⟩
    by_cases h0 : len = 0
    · left; rw [h0]; rfl
    · right
      obtain ⟨b, off, spot⟩ := a
      have hspot : spot = none := by simpa [Addr.add] using World.cell?_spot (hcell 0 (by omega))
      subst hspot
      refine ⟨b, off, rfl, RowRep.of fun i hi => ?_⟩
      rw [hlen] at hi
      have h1 := hcell i (by omega)
      have h2 : zs.getD i 0 = zs[i]'(by omega) := by simp [List.getD, show i < zs.length by omega]
      have h3 := wf_u8 (hwz (zs[i]'(by omega)) (List.getElem_mem _))
      refine ⟨[.int .u8 (zs[i]'(by omega))], rfl, fun j hj => ?_, ?_⟩
      · obtain rfl : j = 0 := by omega
        rw [addo, cell_ph, h2] at h1
        simpa using h1
      · simp only [ByteR, List.getElem_map, List.getElem_take, List.cons.injEq, and_true]
        refine val_int ?_
        have h4 : (zs[i]'(by omega)).toNat < 256 := by omega
        rw [UInt8.toNat_ofNat_of_lt' (by simpa using h4)]
        omega
end
end Go.Proofs.YtnpnjcaomakehaaGreat
