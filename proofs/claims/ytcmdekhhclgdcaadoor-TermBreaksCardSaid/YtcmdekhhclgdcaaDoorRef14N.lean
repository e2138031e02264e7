/- package priorartref14: Next. -/
import Derived.Test.YtcmdekhhclgdcaaDoorRef14O
namespace Go.Proofs.YtcmdekhhclgdcaaDoor
open Go.RowKit Go.Shelf
set_option linter.unusedSimpArgs false
set_option linter.unusedVariables false
set_option maxHeartbeats 1000000 in
theorem rnext_c (c : Cal) (xs : List Ac) (office day : Int) (v va : Value) (w : World) (hr : CalR (ph w) v c) (hA : ActsR (ph w) va xs) :
    Calls Tryd.prog 60 #[v, .int .i64 office, va, .int .i64 day] w (RetV w (two (nextE c xs office day).1 (nextE c xs office day).2)) := by
  have hcc := fun w hr => rcheck_c c office day v w hr
  have hop := fun n w hr hA h1 h2 => ropen_c c xs office n v va w hr hA h1 h2
  have hE : Hid (nextE c xs office day = if checkE c office day = 0 then nextF (opB c xs office) 4096 day else (0, checkE c office day)) := rfl
  have hok := fun h => checkE_ok (c := c) (office := office) (day := day) h
  obtain ⟨a, b, rfl, hW, hH⟩ := id hr
  obtain ⟨wa, wc, rfl, wlen, -⟩ := hW.form
  obtain ⟨ha, hc, rfl, hlen, -⟩ := hH.form
  obtain ⟨xa, xc, rfl, xlen, -⟩ := hA.form
  generalize checkE c office day = ce at *
  by_cases h0 : ce = 0
  · obtain ⟨k0, -, k1, k2⟩ := hok h0
    subst h0
    have hE2 : Hid (nextE c xs office day = nextF (opB c xs office) 4096 day) := hE.out
    clear hE hok
    go_enter Tryd.func60, Tryd.ntmps60
    go_wp2_with fail
    refine RetV_at (hcc _ (hr.mono (Ext.ple (by repeat (first | (with_reducible assumption) | (with_reducible exact Ext.rfl' _) | (with_reducible exact Ext.new _ _) | (with_reducible refine Ext.alloc' ?_ _) | (with_reducible refine Ext.drew' ?_) | (with_reducible refine Ext.drewN' ?_ _) | (with_reducible refine Ext.set' ?_ ?_ _; rotate_left; (focus (first | omega | (simp; done) | (simp; omega)))) | (with_reducible refine Ext.then (b := ?_) ?_ ?_; rotate_left; rotate_left; (with_reducible assumption))))))) ?_
    intro w2 hx2
    have hx : Ext w w2 := (by repeat (first | (with_reducible assumption) | (with_reducible exact Ext.rfl' _) | (with_reducible exact Ext.new _ _) | (with_reducible refine Ext.alloc' ?_ _) | (with_reducible refine Ext.drew' ?_) | (with_reducible refine Ext.drewN' ?_ _) | (with_reducible refine Ext.set' ?_ ?_ _; rotate_left; (focus (first | omega | (simp; done) | (simp; omega)))) | (with_reducible refine Ext.then (b := ?_) ?_ ?_; rotate_left; rotate_left; (with_reducible assumption))))
    have hO := (Own.new w #[.slice wa c.1.length wc, .slice ha c.2.length hc] 41).keep hx2
    clear hcc
    go_wp2_with fail
    generalize opB c xs office = p at *
    go_loopw [11] (fun i wr => ∃ k : Nat, k ≤ 4096 ∧ day + k ≤ 131073 ∧ i = .int .i64 (day + k) ∧ Hid (nextF p 4096 day = nextF p (4096 - k) (day + k)) ∧ Ext w2 wr) (fun i _ => 140000 - (intOf i).toNat)
    case atStart => exact ⟨0, by omega, by omega, by congr 1; omega, Lib.hid (by simp), Ext.rfl' _⟩
    case round =>
      obtain ⟨k, hk, hk2, rfl, hn, hxr⟩ := hrel
      obtain ⟨oc, of⟩ := (hO.keep hxr).facts
      have hxW : Ext w wr := hx.then hxr
      by_cases hd : day + k ≤ 131072
      · by_cases hlt : k < 4096
        · have hn2 : Hid (nextF p 4096 day = if p (day + k) then (day + k, 0) else nextF p (4096 - (k + 1)) (day + (k + 1 : Nat))) := by
            show _ = _
            rw [hn.out, show 4096 - k = (4096 - (k + 1)) + 1 by omega, nextF, if_neg (by omega), show day + ((k + 1 : Nat) : Int) = day + k + 1 by omega]
          have hop2 := hop (day + k) wr (hr.mono hxW.ple) (hA.mono mono_ActR hxW.ple) (by omega) hd
          have hb : (day + (k : Int) == day + 4096) = false := by rw [beq_eq_false_iff_ne]; omega
          obtain ⟨q, hq⟩ : ∃ q, p (day + k) = q := ⟨_, rfl⟩
          rw [hq] at hop2
          cases q with
          | true =>
            have hE3 : Hid (nextE c xs office day = (day + k, 0)) := by show _ = _; rw [hE2.out, hn2.out, hq]; rfl
            clear hn2 hE2 hop hq hn
            go_wp2_with fail
            refine RetV_at hop2 ?_
            intro w6 hx6
            go_wp2_with fail
            go_ret2
            rw [hE3.out]
            exact ⟨rfl, hxW.then hx6⟩
          | false =>
            have hn3 : Hid (nextF p 4096 day = nextF p (4096 - (k + 1)) (day + (k + 1 : Nat))) := by show _ = _; rw [hn2.out, hq]; rfl
            clear hn2 hop hq hn
            go_wp2_with fail
            refine RetV_at hop2 ?_
            intro w6 hx6
            go_wp2_with fail
            go_roundw
            case rel => exact ⟨k + 1, by omega, by omega, by congr 1; omega, hn3, hxr.then hx6⟩
            case measure => simp [intOf]; omega
        · obtain rfl : k = 4096 := by omega
          have hE3 : Hid (nextE c xs office day = (0, 4)) := by show _ = _; rw [hE2.out, hn.out]; rfl
          have hb : (day + ((4096 : Nat) : Int) == day + 4096) = true := by rw [beq_iff_eq]; omega
          clear hn hE2 hop
          go_wp2_with fail
          go_ret2
          rw [hE3.out]
          exact ⟨rfl, hxW⟩
      · by_cases hlt : day ≤ 126977
        · obtain rfl : k = 4096 := by omega
          have hE3 : Hid (nextE c xs office day = (0, 4)) := by show _ = _; rw [hE2.out, hn.out]; rfl
          clear hn hE2 hop
          go_wp2_with fail
          go_ret2
          rw [hE3.out]
          exact ⟨rfl, hxW⟩
        · have hE3 : Hid (nextE c xs office day = (0, 5)) := by
            show _ = _
            rw [hE2.out, hn.out, show 4096 - k = (4096 - (k + 1)) + 1 by omega, nextF, if_pos (by omega)]
          clear hn hE2 hop
          go_wp2_with fail
          go_ret2
          rw [hE3.out]
          exact ⟨rfl, hxW⟩
  · have hE2 : Hid (nextE c xs office day = (0, ce)) := by show _ = _; rw [hE.out, if_neg h0]
    have hb : (ce != 0) = true := by rw [bne_iff_ne]; exact h0
    clear hE h0 hok hop
    go_enter Tryd.func60, Tryd.ntmps60
    go_wp2_with fail
    refine RetV_at (hcc _ (hr.mono (Ext.ple (by repeat (first | (with_reducible assumption) | (with_reducible exact Ext.rfl' _) | (with_reducible exact Ext.new _ _) | (with_reducible refine Ext.alloc' ?_ _) | (with_reducible refine Ext.drew' ?_) | (with_reducible refine Ext.drewN' ?_ _) | (with_reducible refine Ext.set' ?_ ?_ _; rotate_left; (focus (first | omega | (simp; done) | (simp; omega)))) | (with_reducible refine Ext.then (b := ?_) ?_ ?_; rotate_left; rotate_left; (with_reducible assumption))))))) ?_
    intro w2 hx2
    have hx : Ext w w2 := (by repeat (first | (with_reducible assumption) | (with_reducible exact Ext.rfl' _) | (with_reducible exact Ext.new _ _) | (with_reducible refine Ext.alloc' ?_ _) | (with_reducible refine Ext.drew' ?_) | (with_reducible refine Ext.drewN' ?_ _) | (with_reducible refine Ext.set' ?_ ?_ _; rotate_left; (focus (first | omega | (simp; done) | (simp; omega)))) | (with_reducible refine Ext.then (b := ?_) ?_ ?_; rotate_left; rotate_left; (with_reducible assumption))))
    go_wp2_with fail
    go_ret2
    rw [hE2.out]
    exact ⟨rfl, hx⟩
end Go.Proofs.YtcmdekhhclgdcaaDoor
