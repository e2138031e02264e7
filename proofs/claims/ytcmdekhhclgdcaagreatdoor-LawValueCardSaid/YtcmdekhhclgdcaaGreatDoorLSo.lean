/- priorartref14.Some: what it makes is new. -/
import Derived.Test.YtcmdekhhclgdcaaGreatDoorTSome
namespace Go.Proofs.YtcmdekhhclgdcaaGreatDoor
open Go.RowKit Go.Shelf
set_option linter.unusedSimpArgs false
set_option linter.unusedVariables false
def SomeU (w : World) (e : Ending) (w' : World) : Prop := ∃ v c, e = .returned v ∧ Ext w w' ∧ CalR (up noH w w') v c ∧ calE c = 0
set_option maxRecDepth 100000 in
set_option maxHeartbeats 4000000 in
theorem someU_c (l : List Int) (vl : Value) (w : World) (hl : IntsR (ph w) vl l) : Calls Tryz.prog 20 #[vl] w (SomeU w) := by
  obtain ⟨la, lc, rfl, llen, hl⟩ := hl.form
  have hM0 := (((Mem.start w noH (noH_le _)).new #[.slice none 0 0, .slice none 0 0] 53).new' #[.slice none 0 0, .slice none 0 0] 53 (n := w.heap.size + 1) (by simp)).nil mono_IntR 1 3
  simp only [List.nil_append, List.cons_append] at hM0
  have hpk := fun i m w (hl : IntsR (ph w) (.slice la l.length lc) l) hi hm hm' => pick_c l _ i m w hl hi hm hm'
  have hln := fun m w => rlength_c 2000 m w (by omega) (by omega)
  replace hpk := Lib.hid hpk
  replace hln := Lib.hid hln
  go_enter Tryz.func20, Tryz.ntmps20
  go_wp2_with fail
  generalize (w.alloc _).alloc _ = W at *
  go_loopw [4] (fun i wr => ∃ k : Nat, k ≤ 7 ∧ i = .int .i64 k ∧ ∃ v1 ws, Hid (GoodW ws k) ∧ ws.length ≤ 6 ∧ Mem w noH [box w.heap.size #[.slice none 0 0, .slice none 0 0] 53, box (w.heap.size + 1) #[v1, .slice none 0 0] 53, own mono_IntR 1 3 v1 ws] noH wr) (fun i _ => 7 - (intOf i).toNat)
  case atStart => exact ⟨0, by omega, rfl, _, [], Lib.hid GoodW.nil, by simp, hM0⟩
  case round =>
    clear hM0
    obtain ⟨k, hk, rfl, v1, ws, hg, hws, hM⟩ := hrel
    obtain ⟨wa, wc, rfl, -⟩ := hM.form 2 rfl
    by_cases hlt : k < 7
    · have hlt' : (k : Int) < 7 := by omega
      go_wp2_with fail
      refine (hpk.out k 4 wr (hl.mono mono_IntR hM.ex.ple) (by unfold I64; omega) (by omega) (by omega)).mono ?_
      rintro e w2 ⟨r, rfl, r0, r1, hx2⟩
      have hM2 := hM.ext hx2
      have c1 : _ = some (Value.slice wa ws.length wc) := (hM2.box 1 rfl).facts.1 0
      have f1 := (hM2.box 1 rfl).facts.2 0
      by_cases hr : r = 0
      · subst hr
        by_cases h6 : ws.length < 6
        · have h6' : (ws.length : Int) < 6 := by omega
          have hM3 := hM2.allocN (.cells #[.int .i64 k] 3)
          have hS := Src.lit1 (w := w2.alloc (.cells #[.int .i64 k] 3)) (b := w2.heap.size) (sz := 1) (E := IntR) (H := noH) (x := (k : Int)) (cs := [.int .i64 k]) ⟨rfl, by unfold I64; omega⟩ rfl (fun j => by rw [(Proofs.YtcmdekhhclgdcaaGreatDoor.Own.new w2 #[.int .i64 k] 3).facts.1 j]; simp)
          have hg2 := Lib.hid (hg.out.snoc (by omega) (by omega))
          clear hg
          go_wp2_with (first | (at_builtin; refine wpList_append_M 2 rfl _ _ 22 rfl Tryz.underlying22 infoInt rfl rfl rfl (hM3) rfl (hS) one_IntR ?c3 ?c4 ?c5))
          case c3 => simp; omega
          case c4 => simp; omega
          case c5 =>
            intro v' w6 hM4
            try simp only [List.set_cons_succ, List.set_cons_zero] at hM4
            have hM5 := hM4.set 1 rfl 0 v'
            simp only [List.set_cons_succ, List.set_cons_zero, List.setIfInBounds_toArray] at hM5
            obtain ⟨na, nc, rfl, -⟩ := hM4.form 2 rfl
            have c6 : _ = some (Value.slice wa ws.length wc) := (hM4.box 1 rfl).facts.1 0
            have f6 := (hM4.box 1 rfl).facts.2 0
            go_wp2_with fail
            go_roundw
            case rel => exact ⟨k + 1, by omega, rfl, .slice na (ws.length + 1) nc, ws ++ [(k : Int)], Lib.hid (by simpa using hg2.out), by simp; omega, by simpa using hM5⟩
            case measure => simp [intOf]; omega
        · have h6' : ¬ (ws.length : Int) < 6 := by omega
          have hg2 := Lib.hid (hg.out.up)
          clear hg
          go_wp2_with fail
          go_roundw
          case rel => exact ⟨k + 1, by omega, rfl, _, ws, Lib.hid (by simpa using hg2.out), by omega, hM2⟩
          case measure => simp [intOf]; omega
      · have hrb : (r == 0) = false := by simpa using hr
        have hg2 := Lib.hid (hg.out.up)
        clear hg hr
        go_wp2_with fail
        go_roundw
        case rel => exact ⟨k + 1, by omega, rfl, _, ws, Lib.hid (by simpa using hg2.out), by omega, hM2⟩
        case measure => simp [intOf]; omega
    · have hlt' : ¬ (k : Int) < 7 := by omega
      have hM0 := hM.nil mono_DateR 3 81
      simp only [List.nil_append, List.cons_append] at hM0
      clear hM
      go_wp2_with fail
      go_loopw [5] (fun i wr => ∃ m : Nat, 1 ≤ m ∧ m ≤ 13 ∧ i = .int .i64 m ∧ ∃ v2 hs, Hid (GoodH hs m) ∧ Mem w noH [box w.heap.size #[.slice none 0 0, .slice none 0 0] 53, box (w.heap.size + 1) #[.slice wa ws.length wc, v2] 53, own mono_IntR 1 3 (.slice wa ws.length wc) ws, own mono_DateR 3 81 v2 hs] noH wr) (fun i _ => 13 - (intOf i).toNat)
      case atStart => exact ⟨1, by omega, by omega, rfl, _, [], Lib.hid GoodH.nil, hM0⟩
      case round =>
        clear hM0
        obtain ⟨m, hm0, hm, rfl, v2, hs, hgh, hM⟩ := hrel
        obtain ⟨ha, hc, rfl, -⟩ := hM.form 3 rfl
        have hhl : hs.length ≤ 12 := by have := hgh.out.2.2; omega
        by_cases hlt : m < 13
        · have hlt' : (m : Int) ≤ 12 := by omega
          go_wp2_with fail
          refine (hpk.out (6 + m) 70 wr (hl.mono mono_IntR hM.ex.ple) (by unfold I64; omega) (by omega) (by omega)).mono ?_
          rintro e w2 ⟨r, rfl, r0, r1, hx2⟩
          have hM2 := hM.ext hx2
          have c1 : _ = some (Value.slice ha hs.length hc) := (hM2.box 1 rfl).facts.1 1
          have f1 := (hM2.box 1 rfl).facts.2 1
          have hL := hln.out m w2
          have hlv : lenV 2000 m = (lenM 2000 m, 0) := if_pos (by omega)
          rw [hlv] at hL
          have l0 := lenM_28b 2000 m
          have l1 : lenM 2000 m ≤ 31 := by unfold lenM; split <;> (try split) <;> omega
          have hgs := fun k h1 h2 => hgh.out.snoc (k := k) (by omega) (by omega) h1 h2
          have hgu := Lib.hid hgh.out.up
          generalize lenM 2000 m = n at *
          replace hgs := Lib.hid hgs
          dsimp only [two] at hL
          clear hlv hgh
          by_cases h1 : r < n
          · have hM3 := hM2.allocN (.cells #[.int .i64 0, .int .i64 m, .int .i64 (r + 1)] 81)
            have hS := Src.lit1 (w := w2.alloc (.cells #[.int .i64 0, .int .i64 m, .int .i64 (r + 1)] 81)) (b := w2.heap.size) (sz := 3) (E := DateR) (H := noH) (x := (0, (m : Int), r + 1)) (cs := [.int .i64 0, .int .i64 m, .int .i64 (r + 1)]) ⟨rfl, by unfold I64; dsimp only; omega⟩ rfl (fun j => by rw [(Proofs.YtcmdekhhclgdcaaGreatDoor.Own.new w2 #[.int .i64 0, .int .i64 m, .int .i64 (r + 1)] 81).facts.1 j]; simp)
            have hg2 := Lib.hid (hgs.out (r + 1) (by omega) (by omega))
            have h50 : ¬ 50 < r := by omega
            clear hgs
            go_wp2_with fail
            refine RetP_at hL ?_
            go_wp2_with (first | (at_builtin; refine wpList_append_M 3 rfl _ _ 51 rfl Tryz.underlying51 infoDat rfl rfl rfl hM3 rfl hS one_DateR ?e3 ?e4 ?e5))
            case e3 => simp; omega
            case e4 => simp; omega
            case e5 =>
              intro v' w6 hM4
              try simp only [List.set_cons_succ, List.set_cons_zero] at hM4
              have hM5 := hM4.set 1 rfl 1 v'
              simp only [List.set_cons_succ, List.set_cons_zero, List.setIfInBounds_toArray] at hM5
              obtain ⟨na, nc, rfl, -⟩ := hM4.form 3 rfl
              have c6 : _ = some (Value.slice ha hs.length hc) := (hM4.box 1 rfl).facts.1 1
              have f6 := (hM4.box 1 rfl).facts.2 1
              go_wp2_with fail
              go_roundw
              case rel => exact ⟨m + 1, by omega, by omega, rfl, .slice na (hs.length + 1) nc, hs ++ [(0, (m : Int), r + 1)], Lib.hid (by simpa using hg2.out), by simpa using hM5⟩
              case measure => simp [intOf]; omega
          · by_cases h2 : 50 < r ∧ r < n + 20
            · omega
            · have h5 : (¬ 50 < r) ∨ (50 < r ∧ ¬ r < n + 20) := by omega
              clear h2 hgs
              rcases h5 with h5 | ⟨h5, h6⟩
              all_goals
                go_wp2_with fail
                refine RetP_at hL ?_
                go_wp2_with fail
                go_roundw
                case rel => exact ⟨m + 1, by omega, by omega, rfl, _, hs, Lib.hid (by simpa using hgu.out), hM2⟩
                case measure => simp [intOf]; omega
        · have hlt' : ¬ (m : Int) ≤ 12 := by omega
          obtain rfl : m = 13 := by omega
          have c1 : _ = some (Value.slice wa ws.length wc) := (hM.box 1 rfl).facts.1 0
          have c2 : _ = some (Value.slice ha hs.length hc) := (hM.box 1 rfl).facts.1 1
          have hM2 := (hM.set 0 rfl 0 (.slice wa ws.length wc)).set 0 rfl 1 (.slice ha hs.length hc)
          simp only [List.set_cons_succ, List.set_cons_zero, List.setIfInBounds_toArray] at hM2
          have d0 := (hM.box 0 rfl).facts.2 0
          have d1 := (hM.box 0 rfl).facts.2 1
          have e0 : _ = some (Value.slice none 0 0) := (hM.box 0 rfl).facts.1 0
          have e1 : _ = some (Value.slice none 0 0) := (hM.box 0 rfl).facts.1 1
          have z0 : _ = some (Value.slice wa ws.length wc) := (hM2.box 0 rfl).facts.1 0
          have z1 : _ = some (Value.slice ha hs.length hc) := (hM2.box 0 rfl).facts.1 1
          go_wp2_with fail
          refine bodyPost_ret (v := .agg #[.slice wa ws.length wc, .slice ha hs.length hc]) (by simp [results, Tryz.results20, go_sem, z0, z1]) rfl ?_
          exact ⟨_, (ws, hs), rfl, hM2.ex, ⟨_, _, rfl, hM2.repUp 2 rfl, hM2.repUp 3 rfl⟩, good_cal hg.out hws hgh.out⟩
end Go.Proofs.YtcmdekhhclgdcaaGreatDoor
