/- what the condition on the table of lengths gives. -/
import Derived.Test.YtcmdekhhclgdcaaDoorCivil
import Derived.Test.YtcmdekhhclgdcaaDoorLift2
import Derived.LaidMore
import Derived.MakeChecks
namespace Go.Proofs.YtcmdekhhclgdcaaDoor
open Go.ChangeShapes Go.WideShapes Go.ChangeAt Go.RowKit
set_option linter.unusedVariables false
abbrev laidL : List (String × DataW Unit) := [("priorart/civil.lengths", Rows.laid_priorart_civil_lengths)]
theorem gLen : Tryd.prog.globalNamed "priorart/civil.lengths" = some 1 := by kernel_rfl
theorem tLen : (Tryd.prog.globals[1]?).map (·.type) = some 140 := by kernel_rfl
theorem cellsInt : Tryd.prog.cellsOf 3 = 1 := by kernel_rfl
theorem lens_at (n : Int) (j : Nat) (u : Value) (hu : lenT[j]? = some u)
    (hm : ([DataW.lit (Lit.int .i64 31), .lit (.int .i64 28), .lit (.int .i64 31), .lit (.int .i64 30), .lit (.int .i64 31), .lit (.int .i64 30), .lit (.int .i64 31), .lit (.int .i64 31), .lit (.int .i64 30), .lit (.int .i64 31), .lit (.int .i64 30), .lit (.int .i64 31)] : List (DataW Unit))[j]? = some (.lit (.int .i64 n))) : u = .int .i64 n := by
  match j with
  | 0 | 1 | 2 | 3 | 4 | 5 | 6 | 7 | 8 | 9 | 10 | 11 => simp [lenT] at hu hm; subst hu; subst hm; rfl
  | j + 12 => simp [lenT] at hu
theorem of_laid {W : World} (h : laidMetH Tryd.prog laidL W) : VL (ph W) := by
  rw [MakeChecks.laidMetH_plain _ _ _ (by kernel_rfl)] at h
  obtain ⟨ps, ⟨g0, t0, cs0, f0, p0, q0, hg0, ht0, hv0, hd0, -, -⟩, -, -⟩ := h
  obtain rfl := Option.some.inj (gLen.symm.trans hg0)
  obtain rfl := Option.some.inj (tLen.symm.trans ht0)
  obtain ⟨xs, m1, rfl, hx, hlen, hn, hel⟩ := DataW.trod_array Tryd.underlying140 hd0
  simp only [Prod.mk.injEq] at hx
  obtain ⟨hx1, -⟩ := hx
  have hx2 : _ = xs.map (·.1) := DataW.agg.inj hx1
  intro j u hu
  have hj : j < 12 := by
    have h := (Array.getElem?_eq_some_iff.1 hu).1
    exact h
  rw [← cell_ph, World.var?_cell hg0 hv0 j]
  have h0 := hel j hj
  have hjx : j < xs.length := by omega
  rw [List.getElem?_eq_getElem hjx, cellsInt] at h0
  obtain ⟨n, e1, e2, -⟩ := DataW.trod_int Tryd.underlying3 h0
  have hm : (xs.map (·.1))[j]? = some (.lit (.int .i64 n)) := by
    rw [List.getElem?_map, List.getElem?_eq_getElem hjx, e2]; rfl
  rw [← hx2] at hm
  have hu2 := lens_at n j u hu hm
  have e3 := congrArg (fun l => l[0]?) e1
  simp at e3
  rw [hu2]
  simpa using e3
theorem door_met (os : Os) (args : Array Value) : laidMetH Tryd.prog laidL ((World.doorLaid Tryd.prog 400 os).forCall (fun _ _ => 0) ⟨#[], args, []⟩).memory :=
  laidMetH_of_parts3 (fuel := 8) (laidMet_of_run' 8 (by kernel_rfl) (by kernel_rfl)) (by kernel_rfl) (by kernel_rfl)
end Go.Proofs.YtcmdekhhclgdcaaDoor
