/- slices.Clone at acts. -/
import Derived.Test.YtcmdekhhclgdcaaGreatDoorLDel
namespace Go.Proofs.YtcmdekhhclgdcaaGreatDoor
open Go.RowKit Go.Shelf
set_option linter.unusedSimpArgs false
set_option linter.unusedVariables false
def CloneP (w : World) (xs : List Ac) (e : Ending) (w' : World) : Prop := ∃ v', e = .returned v' ∧ Ext w w' ∧ OwnS w.heap.size noH w' ActR 19 67 v' xs
set_option maxRecDepth 100000 in
set_option maxHeartbeats 1000000 in
theorem cloneAct_c (v : Value) (xs : List Ac) (w : World) (hA : ActsR (ph w) v xs) (hlen : xs.length ≤ 100000) : Calls Tryz.prog 37 #[v] w (CloneP w xs) := by
  obtain ⟨a, c, rfl, -, hA⟩ := hA.form
  have hq := fun w => Lib.run_eql_slice_nil (P := Tryz.prog) w 31 67 a xs.length c 0 0 Tryz.underlying31
  cases a with
  | none =>
    have hx : xs = [] := by
      cases xs with
      | nil => rfl
      | cons x r =>
        obtain ⟨b, o, h, -⟩ := ActsR.row hA 0 (by simp)
        cases h
    subst hx
    simp only [List.length_nil, Option.isNone_none] at hq ⊢
    go_enter Tryz.func37, Tryz.ntmps37
    go_wp2_with fail
    go_ret
    exact ⟨_, rfl, (by repeat (first | (with_reducible assumption) | (with_reducible exact Ext.rfl' _) | (with_reducible exact Ext.new _ _) | (with_reducible refine Ext.alloc' ?_ _) | (with_reducible refine Ext.drew' ?_) | (with_reducible refine Ext.drewN' ?_ _) | (with_reducible refine Ext.set' ?_ ?_ _; rotate_left; (focus (first | omega | (simp; done) | (simp; omega)))) | (with_reducible refine Ext.then (b := ?_) ?_ ?_; rotate_left; rotate_left; (with_reducible assumption)))), .inl ⟨rfl, rfl⟩⟩
  | some ad =>
    have hM0 := ((Mem.start w noH (noH_le _)).new #[] 67).asOwn (xs := ([] : List Ac)) (E := ActR) (sz := 19) 0 rfl mono_ActR (n := 0) (by simp) (by decide) rfl rfl
    simp only [List.nil_append, List.set_cons_zero] at hM0
    have hS := (Src.ofRep (w := w.alloc (.cells #[] 67)) (hA.mono mono_ActR (Ext.new _ _).ple) (PLe.refl _)).free (H' := noH) fun _ _ h => h
    clear hA
    simp only [Option.isNone_some] at hq
    go_enter Tryz.func37, Tryz.ntmps37
    go_wp2_with (first | (at_builtin; refine wpList_append_M 0 rfl _ _ 31 rfl Tryz.underlying31 infoAct rfl rfl rfl hM0 rfl hS one_ActR (by simp; omega) (by simp; omega) ?c5))
    case c5 =>
      intro v' w' hM
      try simp only [List.nil_append, List.set_cons_zero] at hM
      obtain ⟨na, nc, rfl, -⟩ := hM.form 0 rfl
      go_wp2_with fail
      go_ret
      exact ⟨_, rfl, hM.ex, hM.ownS 0 rfl⟩
end Go.Proofs.YtcmdekhhclgdcaaGreatDoor
