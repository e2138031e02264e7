/- package calendar: Next. -/
import Derived.Test.YtcmdekhhclgdcaaDoorCalN
namespace Go.Proofs.YtcmdekhhclgdcaaDoor
open Go.RowKit Go.Shelf
set_option linter.unusedSimpArgs false
set_option linter.unusedVariables false
attribute [local go_sem] run_store_fn
/-- the first open day from a day on, within so many days -/
def nextF (p : Int → Bool) : Nat → Int → Int × Int
  | 0, _ => (0, 4)
  | f + 1, d => if 131072 < d then (0, 5) else if p d then (d, 0) else nextF p f (d + 1)
noncomputable def nextE (c : Cal) (xs : List Ac) (office day : Int) : Int × Int := if checkE c office day = 0 then nextF (opB c xs office) 4096 day else (0, checkE c office day)
set_option maxRecDepth 100000 in
set_option maxHeartbeats 1000000 in
theorem calNext_c (c : Cal) (xs : List Ac) (office day : Int) (v va : Value) (w : World) (hr : CalR (ph w) v c) (hA : ActsR (ph w) va xs) (hV : VL (ph w)) :
    Calls Tryd.prog 25 #[v, .int .i64 office, va, .int .i64 day] w (RetV w (two (nextE c xs office day).1 (nextE c xs office day).2)) := by
  have hcc := fun w hr hV => check_c c office day v w hr hV
  have hE : Hid (nextE c xs office day = if checkE c office day = 0 then nextF (opB c xs office) 4096 day else (0, checkE c office day)) := rfl
  have hok := fun h => checkE_ok (c := c) (office := office) (day := day) h
  obtain ⟨a, b, rfl, hW, hH⟩ := id hr
  obtain ⟨wa, wc, rfl, wlen, -⟩ := hW.form
  obtain ⟨ha, hc, rfl, hlen, -⟩ := hH.form
  obtain ⟨xa, xc, rfl, xlen, -⟩ := hA.form
  generalize checkE c office day = ce at *
  by_cases h0 : ce = 0
  · obtain ⟨k0, -, k1, k2⟩ := hok h0
    have hbd := (calE_ok k0).1.bd
    subst h0
    have hE2 : Hid (nextE c xs office day = nextF (opB c xs office) 4096 day) := hE.out
    clear hE hok
    go_enter Tryd.func25, Tryd.ntmps25
    go_wp2_with fail
    refine RetV_at (hcc _ (hr.mono (Ext.ple (by repeat (first | (with_reducible assumption) | (with_reducible exact Ext.rfl' _) | (with_reducible exact Ext.new _ _) | (with_reducible refine Ext.alloc' ?_ _) | (with_reducible refine Ext.drew' ?_) | (with_reducible refine Ext.drewN' ?_ _) | (with_reducible refine Ext.set' ?_ ?_ _; rotate_left; (focus (first | omega | (simp; done) | (simp; omega)))) | (with_reducible refine Ext.then (b := ?_) ?_ ?_; rotate_left; rotate_left; (with_reducible assumption)))))) (hV.mono (Ext.ple (by repeat (first | (with_reducible assumption) | (with_reducible exact Ext.rfl' _) | (with_reducible exact Ext.new _ _) | (with_reducible refine Ext.alloc' ?_ _) | (with_reducible refine Ext.drew' ?_) | (with_reducible refine Ext.drewN' ?_ _) | (with_reducible refine Ext.set' ?_ ?_ _; rotate_left; (focus (first | omega | (simp; done) | (simp; omega)))) | (with_reducible refine Ext.then (b := ?_) ?_ ?_; rotate_left; rotate_left; (with_reducible assumption))))))) ?_
    intro w2 hx2
    have hx : Ext w w2 := (by repeat (first | (with_reducible assumption) | (with_reducible exact Ext.rfl' _) | (with_reducible exact Ext.new _ _) | (with_reducible refine Ext.alloc' ?_ _) | (with_reducible refine Ext.drew' ?_) | (with_reducible refine Ext.drewN' ?_ _) | (with_reducible refine Ext.set' ?_ ?_ _; rotate_left; (focus (first | omega | (simp; done) | (simp; omega)))) | (with_reducible refine Ext.then (b := ?_) ?_ ?_; rotate_left; rotate_left; (with_reducible assumption))))
    have hO := (Own.new w #[.slice wa c.1.length wc, .slice ha c.2.length hc] 39).keep hx2
    obtain ⟨oc, -⟩ := hO.facts
    go_wp2_with fail
    refine (of_c c.1 office _ _ _ _ (hW.mono mono_IntR (Ext.ple (by repeat (first | (with_reducible assumption) | (with_reducible exact Ext.rfl' _) | (with_reducible exact Ext.new _ _) | (with_reducible refine Ext.alloc' ?_ _) | (with_reducible refine Ext.drew' ?_) | (with_reducible refine Ext.drewN' ?_ _) | (with_reducible refine Ext.set' ?_ ?_ _; rotate_left; (focus (first | omega | (simp; done) | (simp; omega)))) | (with_reducible refine Ext.then (b := ?_) ?_ ?_; rotate_left; rotate_left; (with_reducible assumption)))))) hbd ⟨_, _, _, rfl⟩ ⟨_, _, _, rfl⟩).mono ?_
    rintro e w3 ⟨u, rfl, hx3, hof⟩
    have hx4 : Ext w w3 := (by repeat (first | (with_reducible assumption) | (with_reducible exact Ext.rfl' _) | (with_reducible exact Ext.new _ _) | (with_reducible refine Ext.alloc' ?_ _) | (with_reducible refine Ext.drew' ?_) | (with_reducible refine Ext.drewN' ?_ _) | (with_reducible refine Ext.set' ?_ ?_ _; rotate_left; (focus (first | omega | (simp; done) | (simp; omega)))) | (with_reducible refine Ext.then (b := ?_) ?_ ?_; rotate_left; rotate_left; (with_reducible assumption))))
    have hop := fun w5 (hx5 : Ext w3 w5) n h1 h2 => open_c c xs office n u _ _ _ w5 (hof.mono (Ext.ple hx5)) (hH.mono mono_DateR (Ext.ple (hx4.then hx5))) (hA.mono mono_ActR (Ext.ple (hx4.then hx5))) (hV.mono (Ext.ple (hx4.then hx5))) h1 h2
    obtain ⟨g3, g4, g5, g7, hu, -⟩ := hof
    subst hu
    clear oc hO
    go_wp2_with fail
    have hB := Own.new w3 #[.func (.func 79) #[] #[.pointer (some ⟨g7, 0, none⟩)], .func (.func 80) #[] #[.pointer (some ⟨g3, 0, none⟩)], .func (.func 81) #[] #[.pointer (some ⟨g5, 0, none⟩), .pointer (some ⟨g4, 0, none⟩)]] 109
    have hxB := Ext.new w3 (.cells #[.func (.func 79) #[] #[.pointer (some ⟨g7, 0, none⟩)], .func (.func 80) #[] #[.pointer (some ⟨g3, 0, none⟩)], .func (.func 81) #[] #[.pointer (some ⟨g5, 0, none⟩), .pointer (some ⟨g4, 0, none⟩)]] 109)
    generalize w3.alloc _ = W at *
    generalize opB c xs office = p at *
    go_loopw [24] (fun i wr => ∃ k : Nat, k ≤ 4096 ∧ i = .int .i64 k ∧ Hid (nextF p 4096 day = nextF p (4096 - k) (day + k)) ∧ Ext W wr) (fun i _ => 5000 - (intOf i).toNat)
    case atStart => exact ⟨0, by omega, rfl, Lib.hid (by simp), Ext.rfl' _⟩
    case round =>
      obtain ⟨k, hk, rfl, hn, hxr⟩ := hrel
      obtain ⟨bc, -⟩ := (hB.keep hxr).facts
      by_cases hlt : k < 4096
      · have hn2 : Hid (nextF p 4096 day = if 131072 < day + k then (0, 5) else if p (day + k) then (day + k, 0) else nextF p (4096 - (k + 1)) (day + (k + 1 : Nat))) := by
          show _ = _
          rw [hn.out, show 4096 - k = (4096 - (k + 1)) + 1 by omega, nextF, show day + ((k + 1 : Nat) : Int) = day + k + 1 by omega]
        clear hn
        by_cases hd : 131072 < day + k
        · have hE3 : Hid (nextE c xs office day = (0, 5)) := by show _ = _; rw [hE2.out, hn2.out, if_pos hd]
          clear hn2 hE2 hop
          go_wp2_with fail
          go_ret2
          rw [hE3.out]
          exact ⟨rfl, (by repeat (first | (with_reducible assumption) | (with_reducible exact Ext.rfl' _) | (with_reducible exact Ext.new _ _) | (with_reducible refine Ext.alloc' ?_ _) | (with_reducible refine Ext.drew' ?_) | (with_reducible refine Ext.drewN' ?_ _) | (with_reducible refine Ext.set' ?_ ?_ _; rotate_left; (focus (first | omega | (simp; done) | (simp; omega)))) | (with_reducible refine Ext.then (b := ?_) ?_ ?_; rotate_left; rotate_left; (with_reducible assumption))))⟩
        · have hop2 := hop wr (hxB.then hxr) (day + k) (by omega) (by omega)
          obtain ⟨q, hq⟩ : ∃ q, p (day + k) = q := ⟨_, rfl⟩
          rw [hq] at hop2
          cases q with
          | true =>
            have hE3 : Hid (nextE c xs office day = (day + k, 0)) := by show _ = _; rw [hE2.out, hn2.out, if_neg hd, hq]; rfl
            clear hn2 hE2 hop hq
            go_wp2_with fail
            refine RetV_at hop2 ?_
            intro w6 hx6
            go_wp2_with fail
            go_ret2
            rw [hE3.out]
            exact ⟨rfl, (by repeat (first | (with_reducible assumption) | (with_reducible exact Ext.rfl' _) | (with_reducible exact Ext.new _ _) | (with_reducible refine Ext.alloc' ?_ _) | (with_reducible refine Ext.drew' ?_) | (with_reducible refine Ext.drewN' ?_ _) | (with_reducible refine Ext.set' ?_ ?_ _; rotate_left; (focus (first | omega | (simp; done) | (simp; omega)))) | (with_reducible refine Ext.then (b := ?_) ?_ ?_; rotate_left; rotate_left; (with_reducible assumption))))⟩
          | false =>
            have hn3 : Hid (nextF p 4096 day = nextF p (4096 - (k + 1)) (day + (k + 1 : Nat))) := by show _ = _; rw [hn2.out, if_neg hd, hq]; rfl
            clear hn2 hop hq
            go_wp2_with fail
            refine RetV_at hop2 ?_
            intro w6 hx6
            go_wp2_with fail
            go_roundw
            case rel => exact ⟨k + 1, by omega, rfl, hn3, (by repeat (first | (with_reducible assumption) | (with_reducible exact Ext.rfl' _) | (with_reducible exact Ext.new _ _) | (with_reducible refine Ext.alloc' ?_ _) | (with_reducible refine Ext.drew' ?_) | (with_reducible refine Ext.drewN' ?_ _) | (with_reducible refine Ext.set' ?_ ?_ _; rotate_left; (focus (first | omega | (simp; done) | (simp; omega)))) | (with_reducible refine Ext.then (b := ?_) ?_ ?_; rotate_left; rotate_left; (with_reducible assumption))))⟩
            case measure => simp [intOf]; omega
      · obtain rfl : k = 4096 := by omega
        have hE3 : Hid (nextE c xs office day = (0, 4)) := by show _ = _; rw [hE2.out, hn.out]; rfl
        clear hn hE2 hop
        go_wp2_with fail
        go_ret2
        rw [hE3.out]
        exact ⟨rfl, (by repeat (first | (with_reducible assumption) | (with_reducible exact Ext.rfl' _) | (with_reducible exact Ext.new _ _) | (with_reducible refine Ext.alloc' ?_ _) | (with_reducible refine Ext.drew' ?_) | (with_reducible refine Ext.drewN' ?_ _) | (with_reducible refine Ext.set' ?_ ?_ _; rotate_left; (focus (first | omega | (simp; done) | (simp; omega)))) | (with_reducible refine Ext.then (b := ?_) ?_ ?_; rotate_left; rotate_left; (with_reducible assumption))))⟩
  · have hE2 : Hid (nextE c xs office day = (0, ce)) := by show _ = _; rw [hE.out, if_neg h0]
    have hb : (ce != 0) = true := by rw [bne_iff_ne]; exact h0
    clear hE h0 hok
    go_enter Tryd.func25, Tryd.ntmps25
    go_wp2_with fail
    refine RetV_at (hcc _ (hr.mono (Ext.ple (by repeat (first | (with_reducible assumption) | (with_reducible exact Ext.rfl' _) | (with_reducible exact Ext.new _ _) | (with_reducible refine Ext.alloc' ?_ _) | (with_reducible refine Ext.drew' ?_) | (with_reducible refine Ext.drewN' ?_ _) | (with_reducible refine Ext.set' ?_ ?_ _; rotate_left; (focus (first | omega | (simp; done) | (simp; omega)))) | (with_reducible refine Ext.then (b := ?_) ?_ ?_; rotate_left; rotate_left; (with_reducible assumption)))))) (hV.mono (Ext.ple (by repeat (first | (with_reducible assumption) | (with_reducible exact Ext.rfl' _) | (with_reducible exact Ext.new _ _) | (with_reducible refine Ext.alloc' ?_ _) | (with_reducible refine Ext.drew' ?_) | (with_reducible refine Ext.drewN' ?_ _) | (with_reducible refine Ext.set' ?_ ?_ _; rotate_left; (focus (first | omega | (simp; done) | (simp; omega)))) | (with_reducible refine Ext.then (b := ?_) ?_ ?_; rotate_left; rotate_left; (with_reducible assumption))))))) ?_
    intro w2 hx2
    have hx : Ext w w2 := (by repeat (first | (with_reducible assumption) | (with_reducible exact Ext.rfl' _) | (with_reducible exact Ext.new _ _) | (with_reducible refine Ext.alloc' ?_ _) | (with_reducible refine Ext.drew' ?_) | (with_reducible refine Ext.drewN' ?_ _) | (with_reducible refine Ext.set' ?_ ?_ _; rotate_left; (focus (first | omega | (simp; done) | (simp; omega)))) | (with_reducible refine Ext.then (b := ?_) ?_ ?_; rotate_left; rotate_left; (with_reducible assumption))))
    go_wp2_with fail
    go_ret2
    rw [hE2.out]
    exact ⟨rfl, hx⟩
end Go.Proofs.YtcmdekhhclgdcaaDoor
