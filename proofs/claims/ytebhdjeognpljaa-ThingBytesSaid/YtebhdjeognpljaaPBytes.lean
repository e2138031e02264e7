/- priorart/priorartlaw06.ThingBytes: at every input it returns true, and its arguments read as before. No condition. -/
import Derived.Test.YtebhdjeognpljaaRows
import Derived.Test.YtebhdjeognpljaaLift2
import Derived.Test.YtebhdjeognpljaaLawBytes
import Derived.WalkKit
import Derived.ProofKit
import Derived.OpenShut
import Derived.SizedLaws
namespace Go.Proofs.Ytebhdjeognpljaa.thingBytes
open Go.ChangeShapes Go.WideShapes Go.ChangeAt Go.RowKit
set_option linter.unusedVariables false
theorem wf_u8 {a : Int} (h : (Lit.int .u8 a).wf = true) : ∃ x : UInt8, a = x.toNat := by
  have h1 : 0 ≤ a ∧ a ≤ 255 := by simpa [Lit.wf, IntKind.min, IntKind.max, IntKind.signed, IntKind.bits] using h
  exact ⟨UInt8.ofNat a.toNat, by rw [UInt8.toNat_ofNat']; omega⟩
theorem own : ownKnob Try.prog.godebug = none := by kernel_rfl
theorem laid : laidOutB Try.prog = true := by kernel_rfl
theorem cellsL : Try.prog.cellsOf 3 = 1 := by kernel_rfl
theorem bytesL : Try.prog.bytesOf 3 = 8 := by kernel_rfl
theorem cellsY : Try.prog.cellsOf 5 = 1 := by kernel_rfl
theorem bytesY : Try.prog.bytesOf 5 = 1 := by kernel_rfl
theorem readableI : Try.prog.readableRec 3 = true := by kernel_rfl
theorem rowI : 3 < Try.prog.types.size := of_decide_eq_true (by kernel_rfl)
theorem readableL : Try.prog.readableRec 22 = true := by kernel_rfl
theorem rowL : 22 < Try.prog.types.size := of_decide_eq_true (by kernel_rfl)
theorem readableU : Try.prog.readableRec 5 = true := by kernel_rfl
theorem rowU : 5 < Try.prog.types.size := of_decide_eq_true (by kernel_rfl)
theorem readableY : Try.prog.readableRec 46 = true := by kernel_rfl
theorem rowY : 46 < Try.prog.types.size := of_decide_eq_true (by kernel_rfl)
set_option maxRecDepth 100000 in
theorem lifted (os : Os) (started : os.Started) (H : Type) (enc : TypeId × Value → H) :
    ReturnsInHanded {} Try.checked os 7 .any (Rows.thingBytesSpec.pre6 enc Try.prog Try.f7 Rows.thingBytesRow.domain false) (Rows.thingBytesSpec.post enc Try.prog Try.f7 false true false false) := by
  refine returnsInHanded_of_change_sized (C := Try.checked) own started (by kernel_rfl) Try.func7
    (ChangeSpec.witness6 (enc := enc) (C := Try.checked) false ⟨#[], #[.slice none 0 0, .slice none 0 0, .int .i64 0, .int .i64 0, .int .i64 0, .int .u8 0, .slice none 0 0], []⟩ 8 (by kernel_rfl) (by kernel_rfl) (by kernel_rfl) (by kernel_rfl)) ?_
  intro W base args ds gs before hval0 hW hcnd hsz0 _
  have hval : ∀ (j : Nat) t v, Try.f7.params[j]? = some t → args[j]? = some v → Value.okWide Try.prog W .any base t v := hval0
  have hsz : (DataW.weightsEach Try.prog (Try.f7.params.toList ++ Rows.thingBytesSpec.plain.varTypes Try.prog) (ds ++ gs)).all (· ≤ reachBytes) = true := hsz0
  clear hsz0
  have hW' := hW
  obtain ⟨p, q, hA0, hV, rfl, hfz, hnd⟩ := hW
  have hA : DataW.TrodAll enc Try.prog W 0 (fun _ => true) true Try.f7.params.toList args.toList ds p := hA0
  rw [Try.params7] at hA hval hsz
  obtain ⟨v0, vs0, d0, ds0, p0, q0, hargs, rfl, rfl, h0, r0⟩ := trodAll_cons hA
  obtain ⟨v1, vs1, d1, ds1, p1, q1, rfl, rfl, rfl, h1, r1⟩ := trodAll_cons r0
  obtain ⟨v2, vs2, d2, ds2, p2, q2, rfl, rfl, rfl, h2, r2⟩ := trodAll_cons r1
  obtain ⟨v3, vs3, d3, ds3, p3, q3, rfl, rfl, rfl, h3, r3⟩ := trodAll_cons r2
  obtain ⟨v4, vs4, d4, ds4, p4, q4, rfl, rfl, rfl, h4, r4⟩ := trodAll_cons r3
  obtain ⟨v5, vs5, d5, ds5, p5, q5, rfl, rfl, rfl, h5, r5⟩ := trodAll_cons r4
  obtain ⟨v6, vs6, d6, ds6, p6, q6, rfl, rfl, rfl, h6, r6⟩ := trodAll_cons r5
  obtain ⟨rfl, rfl, rfl⟩ := trodAll_nil r6
  obtain rfl : args = #[v0, v1, v2, v3, v4, v5, v6] := by cases args; simp_all
  obtain ⟨rfl, rfl⟩ := trodVars_none hV
  obtain ⟨a0, e0, w0⟩ := openI Try.underlying22 Try.underlying3 cellsL bytesL (hval 0 22 v0 rfl rfl) h0 hsz 0 rfl rfl
  obtain ⟨a1, e1, w1⟩ := openI Try.underlying22 Try.underlying3 cellsL bytesL (hval 1 22 v1 rfl rfl) h1 hsz 1 rfl rfl
  obtain ⟨a2, rfl, rfl, rfl, w2⟩ := open_int Try.underlying3 (hval 2 3 v2 rfl rfl) h2
  obtain ⟨a3, rfl, rfl, rfl, w3⟩ := open_int Try.underlying3 (hval 3 3 v3 rfl rfl) h3
  obtain ⟨a4, rfl, rfl, rfl, w4⟩ := open_int Try.underlying3 (hval 4 3 v4 rfl rfl) h4
  obtain ⟨a5, rfl, rfl, rfl, w5⟩ := open_int Try.underlying5 (hval 5 5 v5 rfl rfl) h5
  obtain ⟨a5, rfl⟩ := wf_u8 w5
  obtain ⟨a6, e6, w6⟩ := openB Try.underlying46 Try.underlying5 cellsY bytesY (hval 6 46 v6 rfl rfl) h6 hsz 6 rfl rfl
  clear hA0 hval0
  refine (bytesLaw_c v0 v1 v6 a0 a1 a2 a3 a4 a5 a6 W e0 e1 e6 (by omega) (by omega) (by omega) (wf_i64 w2) (wf_i64 w3) (wf_i64 w4) ).mono fun e W' ⟨he, hg⟩ => ?_
  subst he
  exact ⟨_, rfl, post_law hW' rfl (fun _ _ _ => trodAll_cons_mk (shut_bool Try.underlying4 _) trodAll_mk0) rfl rfl laid (by rw [Try.params7]; intro t ht; simp only [List.mem_cons, List.not_mem_nil, or_false] at ht; rcases ht with rfl | rfl | rfl | rfl | rfl | rfl | rfl <;> first | exact ⟨readableI, rowI⟩ | exact ⟨readableL, rowL⟩ | exact ⟨readableU, rowU⟩ | exact ⟨readableY, rowY⟩) hg⟩
theorem over : Rows.thingBytesRow.holds Try.pinned (OpenSpec.ofChange Rows.thingBytesSpec) :=
  OpenClaim.holds_of_wide 7 Try.f7 rfl rfl rfl rfl rfl rfl rfl ⟨rfl, rfl, rfl, rfl, rfl⟩ rfl rfl rfl rfl rfl (by kernel_rfl) Try.func7 (by kernel_rfl)
    (of_decide_eq_true (by kernel_rfl)) (by unfold Func.isWrapper; first | (rw [if_pos (by decide +kernel)]; kernel_rfl) | (rw [if_neg (by decide +kernel)]; exact ⟨rfl, rfl⟩))
    (fun os started H enc _ => lifted os started H enc)
theorem proved : Rows.ThingBytesSaid :=
  over
#print axioms proved
end Go.Proofs.Ytebhdjeognpljaa.thingBytes
