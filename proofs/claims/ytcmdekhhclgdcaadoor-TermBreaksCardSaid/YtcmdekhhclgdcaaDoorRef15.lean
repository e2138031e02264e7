/- package priorartref15: Broken, many. -/
import Derived.Test.YtcmdekhhclgdcaaDoorGenT
namespace Go.Proofs.YtcmdekhhclgdcaaDoor
open Go.RowKit Go.Shelf
set_option linter.unusedSimpArgs false
set_option linter.unusedVariables false
set_option maxHeartbeats 1000000 in
theorem rbroken_c (file day : Int) (xs : List Ac) (va : Value) (w : World) (hA : ActsR (ph w) va xs) : Calls Tryd.prog 26 #[.int .i64 file, va, .int .i64 day] w (RetP w (.bool (brokB file xs day))) := by
  obtain ⟨xa, xc, rfl, xlen, hA⟩ := hA.form
  go_enter Tryd.func26, Tryd.ntmps26
  go_wp2_with fail
  go_loopw [7] (fun i wr => ∃ k : Nat, k ≤ xs.length ∧ i = .int .i64 k ∧ Hid (∀ x ∈ xs.take k, brkB file day x = false) ∧ wr = w) (fun i _ => xs.length - (intOf i).toNat)
  case atStart => exact ⟨0, by omega, rfl, Lib.hid (by simp), rfl⟩
  case round =>
    obtain ⟨n, hn, rfl, hno, rfl⟩ := hrel
    by_cases hlt2 : n < xs.length
    · (obtain ⟨gb, go, rfl, g0, g1, g2, g3, g4, g5, g6, g7, g8, g9, g10, g11, g12, g13, g14, g15, g16, g17, g18, gl, gi⟩ := ActsR.at hA n hlt2)
      have hyes : brkB file day xs[n] = true → brokB file xs day = true := fun h => List.any_eq_true.2 ⟨_, List.getElem_mem hlt2, h⟩
      have hno' : brkB file day xs[n] = false → Hid (∀ x ∈ xs.take (n + 1), brkB file day x = false) := fun h => Lib.hid (take_all (p := fun x => brkB file day x = false) hlt2 h hno.out)
      clear gi hno g2 g4 g5 g6 g8 g9 g10 g11 g12 g13 g14 g15 g16 g17 g18
      generalize xs[n] = x at *
      by_cases h1 : x.kind = 9
      · have b1 : (x.kind == 9) = true := by rw [beq_iff_eq]; exact h1
        by_cases h2 : x.file = file
        · have b2 : (x.file == file) = true := by rw [beq_iff_eq]; exact h2
          by_cases h3 : x.day ≤ day
          · have b3 : decide (x.day ≤ day) = true := by simpa using h3
            by_cases h4 : day ≤ x.number
            · have b4 : decide (day ≤ x.number) = true := by simpa using h4
              have hr := Lib.hid (hyes (by unfold brkB; rw [b1, b2, b3, b4]; rfl))
              clear hyes hno' h1 h2
              go_wp2_with fail
              go_ret
              exact ⟨ret_bool hr.out.symm, rfl⟩
            · have b4 : decide (day ≤ x.number) = false := by simpa using h4
              have hr := hno' (by unfold brkB; rw [b4]; simp)
              clear hyes hno' h1 h2
              go_wp2_with fail
              go_roundw
              case rel => exact ⟨n + 1, by omega, rfl, hr, trivial⟩
              case measure => simp [intOf]; omega
          · have b3 : decide (x.day ≤ day) = false := by simpa using h3
            have hr := hno' (by unfold brkB; rw [b3]; simp)
            clear hyes hno' h1 h2
            go_wp2_with fail
            go_roundw
            case rel => exact ⟨n + 1, by omega, rfl, hr, trivial⟩
            case measure => simp [intOf]; omega
        · have b2 : (x.file == file) = false := by rw [beq_eq_false_iff_ne]; exact h2
          have hr := hno' (by unfold brkB; rw [b2]; simp)
          clear hyes hno' h1 h2
          go_wp2_with fail
          go_roundw
          case rel => exact ⟨n + 1, by omega, rfl, hr, trivial⟩
          case measure => simp [intOf]; omega
      · have b1 : (x.kind == 9) = false := by rw [beq_eq_false_iff_ne]; exact h1
        have hr := hno' (by unfold brkB; rw [b1]; simp)
        clear hyes hno' h1
        go_wp2_with fail
        go_roundw
        case rel => exact ⟨n + 1, by omega, rfl, hr, trivial⟩
        case measure => simp [intOf]; omega
    · have hr : Hid (brokB file xs day = false) := by
        show _ = _
        unfold brokB
        rw [List.any_eq_false]
        intro x hx
        have := take_done (p := fun x => brkB file day x = false) (by omega) hno.out x hx
        simp [this]
      clear hno
      go_wp2_with fail
      go_ret
      exact ⟨ret_bool hr.out.symm, rfl⟩
set_option maxHeartbeats 1000000 in
theorem rmany_c (file a b : Int) (xs : List Ac) (va : Value) (w : World) (hA : ActsR (ph w) va xs) (ha : -1000000 ≤ a) (ha' : a ≤ 1000000) (hb : -1000000 ≤ b) (hb' : b ≤ 1000000) :
    Calls Tryd.prog 59 #[.int .i64 file, va, .int .i64 a, .int .i64 b] w (RetP w (.int .i64 (many (brokB file xs) a b))) := by
  have hbc := fun d => rbroken_c file d xs va w hA
  have hM : Hid (many (brokB file xs) a b = cnt (brokB file xs) a (b - a + 1).toNat) := rfl
  generalize brokB file xs = p at *
  obtain ⟨xa, xc, rfl, xlen, hA⟩ := hA.form
  go_enter Tryd.func59, Tryd.ntmps59
  go_wp2_with fail
  go_loopw [9, 10] (fun c d wr => ∃ k : Nat, (k = 0 ∨ a + k ≤ b + 1) ∧ d = .int .i64 (a + k) ∧ c = .int .i64 (cnt p a k) ∧ wr = w) (fun _ d _ => (2000001 - intOf d).toNat)
  case atStart => exact ⟨0, .inl rfl, by congr 1; omega, rfl, rfl⟩
  case round =>
    obtain ⟨k, hk, rfl, rfl, rfl⟩ := hrel
    have hc := cnt_le p a k
    have hs : cnt p a (k + 1) = cnt p a k + if p (a + k) then 1 else 0 := rfl
    have hbc2 := hbc (a + k)
    by_cases hd : a + k ≤ b
    · replace hs := Lib.hid hs
      generalize cnt p a k = c at *
      obtain ⟨q, hq⟩ : ∃ q, p (a + k) = q := ⟨_, rfl⟩
      rw [hq] at hbc2 hs
      clear hq hbc hM
      cases q with
      | true =>
        go_wp2_with fail
        refine RetP_at hbc2 ?_
        go_wp2_with fail
        go_roundw
        case rel => exact ⟨k + 1, .inr (by omega), by congr 1; omega, by congr 1; rw [hs.out]; rfl, trivial⟩
        case measure => simp [intOf]; omega
      | false =>
        go_wp2_with fail
        refine RetP_at hbc2 ?_
        go_wp2_with fail
        go_roundw
        case rel => exact ⟨k + 1, .inr (by omega), by congr 1; omega, by congr 1; rw [hs.out]; simp, trivial⟩
        case measure => simp [intOf]; omega
    · have hkk : (b - a + 1).toNat = k := by omega
      rw [hkk] at hM
      generalize cnt p a k = c at *
      clear hs hbc2 hbc
      go_wp2_with fail
      go_ret
      exact ⟨ret_int hM.out.symm, rfl⟩
end Go.Proofs.YtcmdekhhclgdcaaDoor
