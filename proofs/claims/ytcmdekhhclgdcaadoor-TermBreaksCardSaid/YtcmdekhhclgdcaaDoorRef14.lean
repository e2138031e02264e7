/- package priorartref01: Has. Package priorartref14: Valid. -/
import Derived.Test.YtcmdekhhclgdcaaDoorCalX
namespace Go.Proofs.YtcmdekhhclgdcaaDoor
open Go.RowKit Go.Shelf
set_option linter.unusedSimpArgs false
set_option linter.unusedVariables false
set_option maxHeartbeats 1000000 in
theorem has_c (xs : List Int) (n : Int) (v : Value) (w : World) (hr : IntsR (ph w) v xs) : Calls Tryd.prog 49 #[v, .int .i64 n] w (RetP w (.bool (decide (n ∈ xs)))) := by
  obtain ⟨a, c, rfl, hlen, hr⟩ := hr.form
  go_enter Tryd.func49, Tryd.ntmps49
  go_wp2_with fail
  go_loopw [5] (fun i wr => ∃ k : Nat, k ≤ xs.length ∧ i = .int .i64 k ∧ Hid (∀ x ∈ xs.take k, x ≠ n) ∧ wr = w) (fun i _ => xs.length - (intOf i).toNat)
  case atStart => exact ⟨0, by omega, rfl, Lib.hid (by simp), rfl⟩
  case round =>
    obtain ⟨k, hk, rfl, hno, rfl⟩ := hrel
    by_cases hlt : k < xs.length
    · obtain ⟨gb, go, rfl, gc, gi, gl⟩ := IntsR.at hr k hlt
      have hyes : xs[k] = n → Hid (n ∈ xs) := fun h => Lib.hid (h ▸ List.getElem_mem hlt)
      have hno' : xs[k] ≠ n → Hid (∀ x ∈ xs.take (k + 1), x ≠ n) := fun h => Lib.hid (take_all (p := fun x => x ≠ n) hlt h hno.out)
      clear hno
      generalize xs[k] = x at *
      by_cases h : x = n
      · have hb : (x == n) = true := by rw [beq_iff_eq]; exact h
        have hm := hyes h
        clear hyes hno' h
        go_wp2_with fail
        go_ret
        exact ⟨ret_bool (by simp; exact hm.out), rfl⟩
      · have hb : (x == n) = false := by rw [beq_eq_false_iff_ne]; exact h
        have hm := hno' h
        clear hyes hno' h
        go_wp2_with fail
        go_roundw
        case rel => exact ⟨k + 1, by omega, rfl, hm, trivial⟩
        case measure => simp [intOf]; omega
    · have hm : Hid (n ∉ xs) := by
        show _
        intro hmem
        exact take_done (p := fun x => x ≠ n) (by omega) hno.out n hmem rfl
      clear hno
      go_wp2_with fail
      go_ret
      exact ⟨ret_bool (by simp; exact hm.out), rfl⟩
end Go.Proofs.YtcmdekhhclgdcaaDoor
