/- priorart/priorartlaw07.FormulaBytes: at every input it returns true, and its arguments read as before. No condition. -/
import Derived.Test.YtnpnjcaomakehaaGreatRows
import Derived.Test.YtnpnjcaomakehaaGreatFY19
import Derived.Test.YtnpnjcaomakehaaGreatFY19
import Derived.WalkKit
import Derived.ProofKit
import Derived.OpenShut
import Derived.SizedLaws
namespace Go.Proofs.YtnpnjcaomakehaaGreat.formulaBytes
open Go.ChangeShapes Go.WideShapes Go.ChangeAt Go.RowKit
set_option linter.unusedVariables false
theorem wf_u8 {a : Int} (h : (Lit.int .u8 a).wf = true) : ∃ x : UInt8, a = x.toNat := by
  have h1 : 0 ≤ a ∧ a ≤ 255 := by simpa [Lit.wf, IntKind.min, IntKind.max, IntKind.signed, IntKind.bits] using h
  exact ⟨UInt8.ofNat a.toNat, by rw [UInt8.toNat_ofNat']; omega⟩
theorem own : ownKnob Tryz.prog.godebug = none := by kernel_rfl
theorem laid : laidOutB Tryz.prog = true := by kernel_rfl
theorem cellsL : Tryz.prog.cellsOf 3 = 1 := by kernel_rfl
theorem bytesL : Tryz.prog.bytesOf 3 = 8 := by kernel_rfl
theorem cellsY : Tryz.prog.cellsOf 5 = 1 := by kernel_rfl
theorem bytesY : Tryz.prog.bytesOf 5 = 1 := by kernel_rfl
theorem readableI : Tryz.prog.readableRec 3 = true := by kernel_rfl
theorem rowI : 3 < Tryz.prog.types.size := of_decide_eq_true (by kernel_rfl)
theorem readableL : Tryz.prog.readableRec 22 = true := by kernel_rfl
theorem rowL : 22 < Tryz.prog.types.size := of_decide_eq_true (by kernel_rfl)
theorem readableU : Tryz.prog.readableRec 5 = true := by kernel_rfl
theorem rowU : 5 < Tryz.prog.types.size := of_decide_eq_true (by kernel_rfl)
theorem readableY : Tryz.prog.readableRec 23 = true := by kernel_rfl
theorem rowY : 23 < Tryz.prog.types.size := of_decide_eq_true (by kernel_rfl)
set_option maxRecDepth 100000 in
theorem lifted (os : Os) (started : os.Started) (H : Type) (enc : TypeId × Value → H) :
    ReturnsInHanded {} Tryz.checked os 4 .any (Rows.formulaBytesSpec.pre6 enc Tryz.prog Tryz.f4 Rows.formulaBytesRow.domain false) (Rows.formulaBytesSpec.post enc Tryz.prog Tryz.f4 false true false false) := by
  refine returnsInHanded_of_change_sized (C := Tryz.checked) own started (by kernel_rfl) Tryz.func4
    (ChangeSpec.witness6 (enc := enc) (C := Tryz.checked) false ⟨#[], #[.slice none 0 0, .int .i64 0, .int .i64 0, .int .i64 0, .slice none 0 0, .int .u8 0], []⟩ 8 (by kernel_rfl) (by kernel_rfl) (by kernel_rfl) (by kernel_rfl)) ?_
  intro W base args ds gs before hval0 hW hcnd hsz0 _
  have hval : ∀ (j : Nat) t v, Tryz.f4.params[j]? = some t → args[j]? = some v → Value.okWide Tryz.prog W .any base t v := hval0
  have hsz : (DataW.weightsEach Tryz.prog (Tryz.f4.params.toList ++ Rows.formulaBytesSpec.plain.varTypes Tryz.prog) (ds ++ gs)).all (· ≤ reachBytes) = true := hsz0
  clear hsz0
  have hW' := hW
  obtain ⟨p, q, hA0, hV, rfl, hfz, hnd⟩ := hW
  have hA : DataW.TrodAll enc Tryz.prog W 0 (fun _ => true) true Tryz.f4.params.toList args.toList ds p := hA0
  rw [Tryz.params4] at hA hval hsz
  obtain ⟨v0, vs0, d0, ds0, p0, q0, hargs, rfl, rfl, h0, r0⟩ := trodAll_cons hA
  obtain ⟨v1, vs1, d1, ds1, p1, q1, rfl, rfl, rfl, h1, r1⟩ := trodAll_cons r0
  obtain ⟨v2, vs2, d2, ds2, p2, q2, rfl, rfl, rfl, h2, r2⟩ := trodAll_cons r1
  obtain ⟨v3, vs3, d3, ds3, p3, q3, rfl, rfl, rfl, h3, r3⟩ := trodAll_cons r2
  obtain ⟨v4, vs4, d4, ds4, p4, q4, rfl, rfl, rfl, h4, r4⟩ := trodAll_cons r3
  obtain ⟨v5, vs5, d5, ds5, p5, q5, rfl, rfl, rfl, h5, r5⟩ := trodAll_cons r4
  obtain ⟨rfl, rfl, rfl⟩ := trodAll_nil r5
  obtain rfl : args = #[v0, v1, v2, v3, v4, v5] := by cases args; simp_all
  obtain ⟨rfl, rfl⟩ := trodVars_none hV
  obtain ⟨a0, e0, w0⟩ := openI Tryz.underlying22 Tryz.underlying3 cellsL bytesL (hval 0 22 v0 rfl rfl) h0 hsz 0 rfl rfl
  obtain ⟨a1, rfl, rfl, rfl, w1⟩ := open_int Tryz.underlying3 (hval 1 3 v1 rfl rfl) h1
  obtain ⟨a2, rfl, rfl, rfl, w2⟩ := open_int Tryz.underlying3 (hval 2 3 v2 rfl rfl) h2
  obtain ⟨a3, rfl, rfl, rfl, w3⟩ := open_int Tryz.underlying3 (hval 3 3 v3 rfl rfl) h3
  obtain ⟨a4, e4, w4⟩ := openB Tryz.underlying23 Tryz.underlying5 cellsY bytesY (hval 4 23 v4 rfl rfl) h4 hsz 4 rfl rfl
  obtain ⟨a5, rfl, rfl, rfl, w5⟩ := open_int Tryz.underlying5 (hval 5 5 v5 rfl rfl) h5
  obtain ⟨a5, rfl⟩ := wf_u8 w5
  clear hA0 hval0
  refine (formulaBytesLaw v0 v4 a0 a1 a2 a3 a4 a5 W e0 e4 (by omega) (by omega) (wf_i64 w1) (wf_i64 w2) (wf_i64 w3) ).mono fun e W' ⟨he, hg⟩ => ?_
  subst he
  exact ⟨_, rfl, post_law hW' rfl (fun _ _ _ => trodAll_cons_mk (shut_bool Tryz.underlying4 _) trodAll_mk0) rfl rfl laid (by rw [Tryz.params4]; intro t ht; simp only [List.mem_cons, List.not_mem_nil, or_false] at ht; rcases ht with rfl | rfl | rfl | rfl | rfl | rfl <;> first | exact ⟨readableI, rowI⟩ | exact ⟨readableL, rowL⟩ | exact ⟨readableU, rowU⟩ | exact ⟨readableY, rowY⟩) hg⟩
theorem over : Rows.formulaBytesRow.holds Tryz.pinned (OpenSpec.ofChange Rows.formulaBytesSpec) :=
  OpenClaim.holds_of_wide 4 Tryz.f4 rfl rfl rfl rfl rfl rfl rfl ⟨rfl, rfl, rfl, rfl, rfl⟩ rfl rfl rfl rfl rfl (by kernel_rfl) Tryz.func4 (by kernel_rfl)
    (of_decide_eq_true (by kernel_rfl)) (by unfold Func.isWrapper; first | (rw [if_pos (by decide +kernel)]; kernel_rfl) | (rw [if_neg (by decide +kernel)]; exact ⟨rfl, rfl⟩))
    (fun os started H enc _ => lifted os started H enc)
theorem proved : Rows.FormulaBytesSaid :=
  over
#print axioms proved
end Go.Proofs.YtnpnjcaomakehaaGreat.formulaBytes
