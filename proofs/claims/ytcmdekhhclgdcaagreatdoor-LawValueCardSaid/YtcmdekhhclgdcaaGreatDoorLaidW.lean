/- what the conditions on the tables of lengths and of ranges give. -/
import Derived.Test.YtcmdekhhclgdcaaGreatDoorLiftA
import Derived.Test.YtcmdekhhclgdcaaGreatDoorLVal
import Derived.ChangeSame
namespace Go.Proofs.YtcmdekhhclgdcaaGreatDoor
open Go.ChangeShapes Go.WideShapes Go.ChangeAt Go.RowKit
set_option linter.unusedVariables false
abbrev laidL2 : List (String × DataW Unit) := [("priorart/civil.lengths", Rows.laid_priorart_civil_lengths), ("priorart/law.ranges", Rows.laid_priorart_law_ranges)]
theorem gRng : Tryz.prog.globalNamed "priorart/law.ranges" = some 0 := by kernel_rfl
theorem tRng : (Tryz.prog.globals[0]?).map (·.type) = some 90 := by kernel_rfl
theorem cellsLim : Tryz.prog.cellsOf 86 = 2 := by kernel_rfl
theorem rng_at (a b : Int) (q : Nat) (hm : ([DataW.agg [.lit (.int .i64 0), .lit (.int .i64 120)], .agg [.lit (.int .i64 0), .lit (.int .i64 120)], .agg [.lit (.int .i64 0), .lit (.int .i64 120)], .agg [.lit (.int .i64 0), .lit (.int .i64 120)], .agg [.lit (.int .i64 0), .lit (.int .i64 120)], .agg [.lit (.int .i64 0), .lit (.int .i64 120)], .agg [.lit (.int .i64 0), .lit (.int .i64 120)], .agg [.lit (.int .i64 1), .lit (.int .i64 100)], .agg [.lit (.int .i64 1), .lit (.int .i64 100)], .agg [.lit (.int .i64 0), .lit (.int .i64 1099511627776)], .agg [.lit (.int .i64 0), .lit (.int .i64 1099511627776)], .agg [.lit (.int .i64 0), .lit (.int .i64 1099511627776)], .agg [.lit (.int .i64 0), .lit (.int .i64 1099511627776)], .agg [.lit (.int .i64 0), .lit (.int .i64 1099511627776)], .agg [.lit (.int .i64 0), .lit (.int .i64 1099511627776)], .agg [.lit (.int .i64 0), .lit (.int .i64 1099511627776)], .agg [.lit (.int .i64 0), .lit (.int .i64 1099511627776)], .agg [.lit (.int .i64 0), .lit (.int .i64 100)], .agg [.lit (.int .i64 0), .lit (.int .i64 100)]] : List (DataW Unit))[q]? = some (.agg [.lit (.int .i64 a), .lit (.int .i64 b)])) :
    rngT[q * 2]? = some (.int .i64 a) ∧ rngT[q * 2 + 1]? = some (.int .i64 b) := by
  match q with
  | 0 | 1 | 2 | 3 | 4 | 5 | 6 | 7 | 8 | 9 | 10 | 11 | 12 | 13 | 14 | 15 | 16 | 17 | 18 => simp at hm; obtain ⟨rfl, rfl⟩ := hm; exact ⟨rfl, rfl⟩
  | q + 19 => simp at hm
theorem of_laid2 {W : World} (h : laidMetH Tryz.prog laidL2 W) : VL (ph W) ∧ VR (ph W) := by
  rw [MakeChecks.laidMetH_plain _ _ _ (by kernel_rfl)] at h
  obtain ⟨ps, ⟨g0, t0, cs0, f0, p0, q0, hg0, ht0, hv0, hd0, ⟨g1, t1, cs1, f1, p1, q1, hg1, ht1, hv1, hd1, -, -⟩, -⟩, -, -⟩ := h
  constructor
  · obtain rfl := Option.some.inj (gLen.symm.trans hg0)
    obtain rfl := Option.some.inj (tLen.symm.trans ht0)
    obtain ⟨xs, m1, rfl, hx, hlen, hn, hel⟩ := DataW.trod_array Tryz.underlying153 hd0
    simp only [Prod.mk.injEq] at hx
    obtain ⟨hx1, -⟩ := hx
    have hx2 : _ = xs.map (·.1) := DataW.agg.inj hx1
    intro j u hu
    have hj : j < 12 := by
      have h := (Array.getElem?_eq_some_iff.1 hu).1
      exact h
    rw [← cell_ph, World.var?_cell hg0 hv0 j]
    have h0 := hel j hj
    have hjx : j < xs.length := by omega
    rw [List.getElem?_eq_getElem hjx, cellsInt] at h0
    obtain ⟨n, e1, e2, -⟩ := DataW.trod_int Tryz.underlying3 h0
    have hm : (xs.map (·.1))[j]? = some (.lit (.int .i64 n)) := by
      rw [List.getElem?_map, List.getElem?_eq_getElem hjx, e2]; rfl
    rw [← hx2] at hm
    have hu2 := lens_at n j u hu hm
    have e3 := congrArg (fun l => l[0]?) e1
    simp at e3
    rw [hu2]
    simpa using e3
  · obtain rfl := Option.some.inj (gRng.symm.trans hg1)
    obtain rfl := Option.some.inj (tRng.symm.trans ht1)
    obtain ⟨xs, m1, rfl, hx, hlen, hn, hel⟩ := DataW.trod_array Tryz.underlying90 hd1
    simp only [Prod.mk.injEq] at hx
    obtain ⟨hx1, -⟩ := hx
    have hx2 : _ = xs.map (·.1) := DataW.agg.inj hx1
    have hcell : ∀ q, q < 19 → ∃ a b, cs1[q * 2]? = some (.int .i64 a) ∧ cs1[q * 2 + 1]? = some (.int .i64 b) ∧ rngT[q * 2]? = some (.int .i64 a) ∧ rngT[q * 2 + 1]? = some (.int .i64 b) := by
      intro q hq
      have h0 := hel q hq
      have hqx : q < xs.length := by omega
      rw [List.getElem?_eq_getElem hqx, cellsLim] at h0
      obtain ⟨y0, y1, n, e1, hcl, d0, d1⟩ := trod_struct2 Tryz.underlying86 h0
      rw [cellsInt] at d0 d1
      obtain ⟨a, u1, u2, -⟩ := DataW.trod_int Tryz.underlying3 d0
      obtain ⟨b, v1, v2, -⟩ := DataW.trod_int Tryz.underlying3 d1
      have hm : (xs.map (·.1))[q]? = some (.agg [.lit (.int .i64 a), .lit (.int .i64 b)]) := by
        rw [List.getElem?_map, List.getElem?_eq_getElem hqx, e1, u2, v2]; rfl
      rw [← hx2] at hm
      obtain ⟨r1, r2⟩ := rng_at a b q hm
      have e3 := congrArg (fun l => l[0]?) u1
      have e4 := congrArg (fun l => l[0]?) v1
      simp at e3 e4
      refine ⟨a, b, ?_, ?_, r1, r2⟩
      · simpa using e3
      · simpa using e4
    intro j u hu
    have hj : j < 38 := by
      have h := (Array.getElem?_eq_some_iff.1 hu).1
      exact h
    rw [← cell_ph, World.var?_cell hg1 hv1 j]
    obtain ⟨a, b, c1, c2, c3, c4⟩ := hcell (j / 2) (by omega)
    rcases Nat.mod_two_eq_zero_or_one j with e | e
    · rw [show j / 2 * 2 = j by omega] at c1 c3
      rw [c3] at hu
      rw [← hu]
      simpa using c1
    · rw [show j / 2 * 2 + 1 = j by omega] at c2 c4
      rw [c4] at hu
      rw [← hu]
      simpa using c2
theorem door_met2 (os : Os) (args : Array Value) : laidMetH Tryz.prog laidL2 ((World.doorLaid Tryz.prog 400 os).forCall (fun _ _ => 0) ⟨#[], args, []⟩).memory :=
  laidMetH_of_parts3 (fuel := 8) (laidMet_of_run' 8 (by kernel_rfl) (by kernel_rfl)) (by kernel_rfl) (by kernel_rfl)
end Go.Proofs.YtcmdekhhclgdcaaGreatDoor
