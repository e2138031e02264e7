/- the reference of package claims: Meaning.; Meaning of both, where what is read is told. -/
import Derived.Test.YtdpdpjimmfajgaaClMA
namespace Go.Proofs.Ytdpdpjimmfajgaa
open Go.RowKit
set_option linter.unusedSimpArgs false
set_option linter.unusedVariables false
set_option maxHeartbeats 1000000 in
theorem rMeaning_c (v : Value) (l : List Cl) (i : Int) (w : World) (hr : ClsR (ph w) v l) (hs : ∀ c ∈ l, c.body.bulk ≤ 900000) : Calls Try.prog 9 #[v, .int .i64 i] w (FmE w (meaningE l i)) := by
  have hr' := hr
  obtain ⟨a, c, rfl, hlen, -⟩ := hr.form
  go_enter Try.func9, Try.ntmps9
  go_wp2_with fail
  refine RetV_at (rccheck_c _ l i _ (hr'.mono mono_ClR (Ext.ple (by repeat (first | (with_reducible assumption) | (with_reducible exact Ext.rfl' _) | (with_reducible exact Ext.new _ _) | (with_reducible refine Ext.alloc' ?_ _) | (with_reducible refine Ext.drew' ?_) | (with_reducible refine Ext.drewN' ?_ _) | (with_reducible refine Ext.set' ?_ ?_ _; rotate_left; (focus (first | omega | (simp; done) | (simp; omega)))) | (with_reducible refine Ext.then (b := ?_) ?_ ?_; rotate_left; rotate_left; (with_reducible assumption)))))) hs) ?_
  intro w1 hx1
  have ho : Own w1 w.heap.size #[.int .i64 0, .int .i64 0, .slice none 0 0, .slice none 0 0] 30 := (by repeat (first | (with_reducible assumption) | (with_reducible exact Own.new _ _ _) | (with_reducible refine Own.new' _ _ _ ?_; (focus (simp; done))) | (with_reducible refine Own.alloc ?_ _) | (with_reducible refine Own.drew ?_) | (with_reducible refine Own.drewN ?_ _) | (with_reducible refine Own.keep (w := ?_) ?_ ?_; rotate_left; (with_reducible assumption); (exact (by repeat (first | (with_reducible assumption) | (with_reducible exact Ext.rfl' _) | (with_reducible exact Ext.new _ _) | (with_reducible refine Ext.alloc' ?_ _) | (with_reducible refine Ext.drew' ?_) | (with_reducible refine Ext.drewN' ?_ _) | (with_reducible refine Ext.set' ?_ ?_ _; rotate_left; (focus (first | omega | (simp; done) | (simp; omega)))) | (with_reducible refine Ext.then (b := ?_) ?_ ?_; rotate_left; rotate_left; (with_reducible assumption)))))) | (with_reducible refine Own.keep (w := ?_) ?_ ?_; rotate_left; rotate_left; (with_reducible assumption))))
  have hx : Ext w w1 := (by repeat (first | (with_reducible assumption) | (with_reducible exact Ext.rfl' _) | (with_reducible exact Ext.new _ _) | (with_reducible refine Ext.alloc' ?_ _) | (with_reducible refine Ext.drew' ?_) | (with_reducible refine Ext.drewN' ?_ _) | (with_reducible refine Ext.set' ?_ ?_ _; rotate_left; (focus (first | omega | (simp; done) | (simp; omega)))) | (with_reducible refine Ext.then (b := ?_) ?_ ?_; rotate_left; rotate_left; (with_reducible assumption))))
  have hwl : w.heap.size < w1.heap.size := ho.lt
  obtain ⟨hoc, hof⟩ := ho.facts
  have hol := ho.lt
  by_cases he : checkC l i = 0
  · obtain ⟨hv, h0, h1⟩ := checkC_0 he
    have hm : Hid (meaningE l i = match meanC l i.toNat with | some f => (f, 0) | none => (noF, 4)) := by show _ = _; unfold meaningE; rw [if_neg (by simpa using he)]; rfl
    obtain ⟨n, rfl⟩ : ∃ n : Nat, i = (n : Int) := ⟨i.toNat, by omega⟩
    rw [he]
    clear he hoc hof hol
    go_wp2_with fail
    refine (rmeaning_c (H0 := ph w) _ l hv n _ hx.ple hr' (by omega)).mono ?_
    rintro e w2 ⟨g, p3, e3, p4, e4, rfl, hx2, gR, hgf⟩
    have hle : PLe (up (ph w) w1 w2) (ph w2) := up_ple hx.ple hx2
    have hHb : up (ph w) w1 w2 w.heap.size = none := by unfold up; rw [if_pos hwl]; simp [ph]
    replace ho := ho.keep hx2
    replace hx := hx.then hx2
    obtain ⟨hoc, hof⟩ := ho.facts
    have hol := ho.lt
    replace hm := hm.out
    rw [Int.toNat_natCast] at hm
    clear hr hr' hx1 hx2
    generalize up (ph w) w1 w2 = H at *
    cases hq : meanC l n with
    | some f =>
      obtain rfl := hgf f hq
      rw [hq] at hm
      replace hm : meaningE l n = (g, 0) := hm
      have hE := Lib.hid hm
      clear hm hq hgf
      go_wp2_with fail
      have o9 := ((((ho.set 0 (.int .i64 g.op)).set 1 (.int .i64 g.n)).set 2 (.slice p3 g.inn.length e3)).set 3 (.slice p4 g.kids.length e4)).alloc (.cells #[.int .i64 g.op, .int .i64 g.n, .slice p3 g.inn.length e3, .slice p4 g.kids.length e4] 30)
      simp only [List.setIfInBounds_toArray, List.set_cons_succ, List.set_cons_zero] at o9
      have hl9 := ((((hle.setC hHb 0 (.int .i64 g.op)).setC hHb 1 (.int .i64 g.n)).setC hHb 2 (.slice p3 g.inn.length e3)).setC hHb 3 (.slice p4 g.kids.length e4)).trans (Ext.ple (Ext.new _ (.cells #[.int .i64 g.op, .int .i64 g.n, .slice p3 g.inn.length e3, .slice p4 g.kids.length e4] 30)))
      obtain ⟨q, -⟩ := o9.facts
      have q0 : _ = some (Value.int .i64 g.op) := q 0
      have q1 : _ = some (Value.int .i64 g.n) := q 1
      have q2 : _ = some (Value.slice p3 g.inn.length e3) := q 2
      have q3 : _ = some (Value.slice p4 g.kids.length e4) := q 3
      have hx9 : Ext w _ := ((((hx.set' (p := ⟨w.heap.size, 0, none⟩) (Nat.le_refl _) (.int .i64 g.op)).set' (p := ⟨w.heap.size, 1, none⟩) (Nat.le_refl _) (.int .i64 g.n)).set' (p := ⟨w.heap.size, 2, none⟩) (Nat.le_refl _) (.slice p3 g.inn.length e3)).set' (p := ⟨w.heap.size, 3, none⟩) (Nat.le_refl _) (.slice p4 g.kids.length e4)).alloc' (.cells #[.int .i64 g.op, .int .i64 g.n, .slice p3 g.inn.length e3, .slice p4 g.kids.length e4] 30)
      generalize World.alloc _ _ = w9 at *
      refine bodyPost_ret (v := .tuple #[fmV g p3 e3 p4 e4, .int .i64 0]) (by simp [results, Try.results9, go_sem, q0, q1, q2, q3]) rfl ?_
      exact ⟨p3, e3, p4, e4, by rw [hE.out], hx9, by rw [hE.out]; exact mono_FmR _ _ _ _ hl9 gR⟩
    | none =>
      rw [hq] at hm
      replace hm : meaningE l n = (noF, 4) := hm
      have hE := Lib.hid hm
      clear hm hq hgf
      go_wp2_with fail
      have o9 := ((((ho.set 0 (.int .i64 0)).set 1 (.int .i64 0)).set 2 (.slice none 0 0)).set 3 (.slice none 0 0)).alloc (.cells #[.int .i64 g.op, .int .i64 g.n, .slice p3 g.inn.length e3, .slice p4 g.kids.length e4] 30)
      simp only [List.setIfInBounds_toArray, List.set_cons_succ, List.set_cons_zero] at o9
      obtain ⟨q, -⟩ := o9.facts
      have q0 : _ = some (Value.int .i64 0) := q 0
      have q1 : _ = some (Value.int .i64 0) := q 1
      have q2 : _ = some (Value.slice none 0 0) := q 2
      have q3 : _ = some (Value.slice none 0 0) := q 3
      have hx9 : Ext w _ := ((((hx.set' (p := ⟨w.heap.size, 0, none⟩) (Nat.le_refl _) (.int .i64 0)).set' (p := ⟨w.heap.size, 1, none⟩) (Nat.le_refl _) (.int .i64 0)).set' (p := ⟨w.heap.size, 2, none⟩) (Nat.le_refl _) (.slice none 0 0)).set' (p := ⟨w.heap.size, 3, none⟩) (Nat.le_refl _) (.slice none 0 0)).alloc' (.cells #[.int .i64 g.op, .int .i64 g.n, .slice p3 g.inn.length e3, .slice p4 g.kids.length e4] 30)
      generalize World.alloc _ _ = w9 at *
      refine bodyPost_ret (v := .tuple #[zeroFv, .int .i64 4]) (by simp [results, Try.results9, go_sem, q0, q1, q2, q3]) rfl ?_
      exact ⟨none, 0, none, 0, by rw [hE.out]; rfl, hx9, by rw [hE.out]; exact noF_R _⟩
  · have hm : meaningE l i = (noF, checkC l i) := by unfold meaningE; rw [if_pos he]
    have hE := Lib.hid hm
    have b3 : (checkC l i == 0) = false := by simpa using he
    generalize checkC l i = e at *
    clear he hm
    go_wp2_with fail
    have o9 := ((((ho.set 0 (.int .i64 0)).set 1 (.int .i64 0)).set 2 (.slice none 0 0)).set 3 (.slice none 0 0))
    simp only [List.setIfInBounds_toArray, List.set_cons_succ, List.set_cons_zero] at o9
    obtain ⟨q, -⟩ := o9.facts
    have q0 : _ = some (Value.int .i64 0) := q 0
    have q1 : _ = some (Value.int .i64 0) := q 1
    have q2 : _ = some (Value.slice none 0 0) := q 2
    have q3 : _ = some (Value.slice none 0 0) := q 3
    have hx9 : Ext w _ := ((((hx.set' (p := ⟨w.heap.size, 0, none⟩) (Nat.le_refl _) (.int .i64 0)).set' (p := ⟨w.heap.size, 1, none⟩) (Nat.le_refl _) (.int .i64 0)).set' (p := ⟨w.heap.size, 2, none⟩) (Nat.le_refl _) (.slice none 0 0)).set' (p := ⟨w.heap.size, 3, none⟩) (Nat.le_refl _) (.slice none 0 0))
    refine bodyPost_ret (v := .tuple #[zeroFv, .int .i64 e]) (by simp [results, Try.results9, go_sem, q0, q1, q2, q3]) rfl ?_
    exact ⟨none, 0, none, 0, by rw [hE.out]; rfl, hx9, by rw [hE.out]; exact noF_R _⟩
end Go.Proofs.Ytdpdpjimmfajgaa
namespace Go.Proofs.Ytdpdpjimmfajgaa
open Go.RowKit
set_option linter.unusedSimpArgs false
set_option linter.unusedVariables false
theorem up_in {H H0 : PH} {w w9 : World} (h9 : PLe H (ph w9)) (hb : ∀ k o, H k = some o → k < w.heap.size → H0 k = some o) : PLe H (up H0 w w9) := by
  intro k o hk
  unfold up
  split
  · rename_i h; exact hb k o hk h
  · exact h9 k o hk
/-- a formula and an error; what is read lies in what was read, or is new -/
def FmEH (w : World) (H0 : PH) (r : Fm × Int) (e : Ending) (w' : World) : Prop := ∃ b3 d3 b4 d4, e = .returned (.tuple #[fmV r.1 b3 d3 b4 d4, .int .i64 r.2]) ∧ Ext w w' ∧ FmR (up H0 w w') (fmC r.1 b3 d3 b4 d4) r.1
set_option maxHeartbeats 1000000 in
theorem meaning_h {H0 : PH} (v : Value) (l : List Cl) (i : Int) (w : World) (hH : PLe H0 (ph w)) (hr : ClsR H0 v l) (hs : ∀ c ∈ l, c.body.bulk ≤ 900000) : Calls Try.prog 8 #[v, .int .i64 i] w (FmEH w H0 (meaningE l i)) := by
  have hr' := hr
  obtain ⟨a, c, rfl, hlen, -⟩ := hr.form
  go_enter Try.func8, Try.ntmps8
  go_wp2_with fail
  refine RetV_at (ccheck_c _ l i _ (hr'.mono mono_ClR (hH.trans (Ext.ple (by repeat (first | (with_reducible assumption) | (with_reducible exact Ext.rfl' _) | (with_reducible exact Ext.new _ _) | (with_reducible refine Ext.alloc' ?_ _) | (with_reducible refine Ext.drew' ?_) | (with_reducible refine Ext.drewN' ?_ _) | (with_reducible refine Ext.set' ?_ ?_ _; rotate_left; (focus (first | omega | (simp; done) | (simp; omega)))) | (with_reducible refine Ext.then (b := ?_) ?_ ?_; rotate_left; rotate_left; (with_reducible assumption))))))) hs) ?_
  intro w1 hx1
  have ho : Own w1 w.heap.size #[.int .i64 0, .int .i64 0, .slice none 0 0, .slice none 0 0] 30 := (by repeat (first | (with_reducible assumption) | (with_reducible exact Own.new _ _ _) | (with_reducible refine Own.new' _ _ _ ?_; (focus (simp; done))) | (with_reducible refine Own.alloc ?_ _) | (with_reducible refine Own.drew ?_) | (with_reducible refine Own.drewN ?_ _) | (with_reducible refine Own.keep (w := ?_) ?_ ?_; rotate_left; (with_reducible assumption); (exact (by repeat (first | (with_reducible assumption) | (with_reducible exact Ext.rfl' _) | (with_reducible exact Ext.new _ _) | (with_reducible refine Ext.alloc' ?_ _) | (with_reducible refine Ext.drew' ?_) | (with_reducible refine Ext.drewN' ?_ _) | (with_reducible refine Ext.set' ?_ ?_ _; rotate_left; (focus (first | omega | (simp; done) | (simp; omega)))) | (with_reducible refine Ext.then (b := ?_) ?_ ?_; rotate_left; rotate_left; (with_reducible assumption)))))) | (with_reducible refine Own.keep (w := ?_) ?_ ?_; rotate_left; rotate_left; (with_reducible assumption))))
  have hx : Ext w w1 := (by repeat (first | (with_reducible assumption) | (with_reducible exact Ext.rfl' _) | (with_reducible exact Ext.new _ _) | (with_reducible refine Ext.alloc' ?_ _) | (with_reducible refine Ext.drew' ?_) | (with_reducible refine Ext.drewN' ?_ _) | (with_reducible refine Ext.set' ?_ ?_ _; rotate_left; (focus (first | omega | (simp; done) | (simp; omega)))) | (with_reducible refine Ext.then (b := ?_) ?_ ?_; rotate_left; rotate_left; (with_reducible assumption))))
  obtain ⟨hoc, hof⟩ := ho.facts
  have hol := ho.lt
  by_cases he : checkC l i = 0
  · obtain ⟨hv, h0, h1⟩ := checkC_0 he
    have hm : Hid (meaningE l i = match meanC l i.toNat with | some f => (f, 0) | none => (noF, 4)) := by show _ = _; unfold meaningE; rw [if_neg (by simpa using he)]; rfl
    obtain ⟨n, rfl⟩ : ∃ n : Nat, i = (n : Int) := ⟨i.toNat, by omega⟩
    rw [he]
    clear he hoc hof hol
    go_wp2_with fail
    refine (meanings_c (H0 := H0) _ l n _ (hH.trans hx.ple) hr' hv (by omega)).mono ?_
    rintro e w2 ⟨b, acc, H, rfl, hM, hA⟩
    have hx2 := hM.ex
    have hwl : w.heap.size ≤ w1.heap.size := hx.size
    have hbd : ∀ k o, H k = some o → k < w.heap.size → H0 k = some o := fun k o hk hlt => by
      have := hM.ub k o hk
      unfold Proofs.Ytdpdpjimmfajgaa.up at this
      rwa [if_pos (by omega)] at this
    replace ho := ho.keep hx2
    replace hx := hx.then hx2
    obtain ⟨hoc, hof⟩ := ho.facts
    have hol := ho.lt
    obtain ⟨g, p3, e3, p4, e4, g1, g2, g3, gR⟩ := hA.get (n : Int)
    have hat : at? (meansL (l.take (n + 1))) (n : Int) = meanC l n := by
      unfold meanC meansL
      rw [tabl_take, at?_take _ _ _ (by omega) (by omega)]
    rw [hat] at g1 g3
    replace hm := hm.out
    rw [Int.toNat_natCast] at hm
    have hHb : H w.heap.size = none := hM.H_none (by have := (Own.new w #[.int .i64 0, .int .i64 0, .slice none 0 0, .slice none 0 0] 30).lt; have := hx1.size; omega) (fresh_none hH (Nat.le_refl _))
    clear hr hr' hx1 hx2
    cases hq : meanC l n with
    | some f =>
      rw [hq] at g1 g3 hm
      simp only [Option.getD_some] at g1
      subst g1
      replace hm : meaningE l n = (f, 0) := hm
      have hE := Lib.hid hm
      clear hm hat hq
      go_wp2_with (at_lookup; refine wpList_look_T 0 rfl _ _ 54 30 rfl Try.underlying54 (zeroFm _) rfl hM rfl rfl (by omega) (by omega) g2 g3 ?_)
      have o9 := ((((ho.set 0 (.int .i64 f.op)).set 1 (.int .i64 f.n)).set 2 (.slice p3 f.inn.length e3)).set 3 (.slice p4 f.kids.length e4)).alloc (.cells #[.int .i64 f.op, .int .i64 f.n, .slice p3 f.inn.length e3, .slice p4 f.kids.length e4] 30)
      simp only [List.setIfInBounds_toArray, List.set_cons_succ, List.set_cons_zero] at o9
      have hl9 := ((((hM.ple.setC hHb 0 (.int .i64 f.op)).setC hHb 1 (.int .i64 f.n)).setC hHb 2 (.slice p3 f.inn.length e3)).setC hHb 3 (.slice p4 f.kids.length e4)).trans (Ext.ple (Ext.new _ (.cells #[.int .i64 f.op, .int .i64 f.n, .slice p3 f.inn.length e3, .slice p4 f.kids.length e4] 30)))
      obtain ⟨q, -⟩ := o9.facts
      have q0 : _ = some (Value.int .i64 f.op) := q 0
      have q1 : _ = some (Value.int .i64 f.n) := q 1
      have q2 : _ = some (Value.slice p3 f.inn.length e3) := q 2
      have q3 : _ = some (Value.slice p4 f.kids.length e4) := q 3
      have hx9 : Ext w _ := ((((hx.set' (p := ⟨w.heap.size, 0, none⟩) (Nat.le_refl _) (.int .i64 f.op)).set' (p := ⟨w.heap.size, 1, none⟩) (Nat.le_refl _) (.int .i64 f.n)).set' (p := ⟨w.heap.size, 2, none⟩) (Nat.le_refl _) (.slice p3 f.inn.length e3)).set' (p := ⟨w.heap.size, 3, none⟩) (Nat.le_refl _) (.slice p4 f.kids.length e4)).alloc' (.cells #[.int .i64 f.op, .int .i64 f.n, .slice p3 f.inn.length e3, .slice p4 f.kids.length e4] 30)
      generalize World.alloc _ _ = w9 at *
      refine bodyPost_ret (v := .tuple #[fmV f p3 e3 p4 e4, .int .i64 0]) (by simp [results, Try.results8, go_sem, q0, q1, q2, q3]) rfl ?_
      exact ⟨p3, e3, p4, e4, by rw [hE.out], hx9, by rw [hE.out]; exact mono_FmR _ _ _ _ (up_in hl9 hbd) gR⟩
    | none =>
      rw [hq] at g1 g3 hm
      replace hm : meaningE l n = (noF, 4) := hm
      have hE := Lib.hid hm
      clear hm hat hq
      go_wp2_with (at_lookup; refine wpList_look_T 0 rfl _ _ 54 30 rfl Try.underlying54 (zeroFm _) rfl hM rfl rfl (by omega) (by omega) g2 g3 ?_)
      have o9 := ((((ho.set 0 (.int .i64 0)).set 1 (.int .i64 0)).set 2 (.slice none 0 0)).set 3 (.slice none 0 0)).alloc (.cells #[.int .i64 g.op, .int .i64 g.n, .slice p3 g.inn.length e3, .slice p4 g.kids.length e4] 30)
      simp only [List.setIfInBounds_toArray, List.set_cons_succ, List.set_cons_zero] at o9
      obtain ⟨q, -⟩ := o9.facts
      have q0 : _ = some (Value.int .i64 0) := q 0
      have q1 : _ = some (Value.int .i64 0) := q 1
      have q2 : _ = some (Value.slice none 0 0) := q 2
      have q3 : _ = some (Value.slice none 0 0) := q 3
      have hx9 : Ext w _ := ((((hx.set' (p := ⟨w.heap.size, 0, none⟩) (Nat.le_refl _) (.int .i64 0)).set' (p := ⟨w.heap.size, 1, none⟩) (Nat.le_refl _) (.int .i64 0)).set' (p := ⟨w.heap.size, 2, none⟩) (Nat.le_refl _) (.slice none 0 0)).set' (p := ⟨w.heap.size, 3, none⟩) (Nat.le_refl _) (.slice none 0 0)).alloc' (.cells #[.int .i64 g.op, .int .i64 g.n, .slice p3 g.inn.length e3, .slice p4 g.kids.length e4] 30)
      generalize World.alloc _ _ = w9 at *
      refine bodyPost_ret (v := .tuple #[zeroFv, .int .i64 4]) (by simp [results, Try.results8, go_sem, q0, q1, q2, q3]) rfl ?_
      exact ⟨none, 0, none, 0, by rw [hE.out]; rfl, hx9, by rw [hE.out]; exact noF_R _⟩
  · have hm : meaningE l i = (noF, checkC l i) := by unfold meaningE; rw [if_pos he]
    have hE := Lib.hid hm
    have b3 : (checkC l i == 0) = false := by simpa using he
    generalize checkC l i = e at *
    clear he hm
    go_wp2_with fail
    have o9 := ((((ho.set 0 (.int .i64 0)).set 1 (.int .i64 0)).set 2 (.slice none 0 0)).set 3 (.slice none 0 0))
    simp only [List.setIfInBounds_toArray, List.set_cons_succ, List.set_cons_zero] at o9
    obtain ⟨q, -⟩ := o9.facts
    have q0 : _ = some (Value.int .i64 0) := q 0
    have q1 : _ = some (Value.int .i64 0) := q 1
    have q2 : _ = some (Value.slice none 0 0) := q 2
    have q3 : _ = some (Value.slice none 0 0) := q 3
    have hx9 : Ext w _ := ((((hx.set' (p := ⟨w.heap.size, 0, none⟩) (Nat.le_refl _) (.int .i64 0)).set' (p := ⟨w.heap.size, 1, none⟩) (Nat.le_refl _) (.int .i64 0)).set' (p := ⟨w.heap.size, 2, none⟩) (Nat.le_refl _) (.slice none 0 0)).set' (p := ⟨w.heap.size, 3, none⟩) (Nat.le_refl _) (.slice none 0 0))
    refine bodyPost_ret (v := .tuple #[zeroFv, .int .i64 e]) (by simp [results, Try.results8, go_sem, q0, q1, q2, q3]) rfl ?_
    exact ⟨none, 0, none, 0, by rw [hE.out]; rfl, hx9, by rw [hE.out]; exact noF_R _⟩
set_option maxHeartbeats 1000000 in
theorem rMeaning_h {H0 : PH} (v : Value) (l : List Cl) (i : Int) (w : World) (hH : PLe H0 (ph w)) (hr : ClsR H0 v l) (hs : ∀ c ∈ l, c.body.bulk ≤ 900000) : Calls Try.prog 9 #[v, .int .i64 i] w (FmEH w H0 (meaningE l i)) := by
  have hr' := hr
  obtain ⟨a, c, rfl, hlen, -⟩ := hr.form
  go_enter Try.func9, Try.ntmps9
  go_wp2_with fail
  refine RetV_at (rccheck_c _ l i _ (hr'.mono mono_ClR (hH.trans (Ext.ple (by repeat (first | (with_reducible assumption) | (with_reducible exact Ext.rfl' _) | (with_reducible exact Ext.new _ _) | (with_reducible refine Ext.alloc' ?_ _) | (with_reducible refine Ext.drew' ?_) | (with_reducible refine Ext.drewN' ?_ _) | (with_reducible refine Ext.set' ?_ ?_ _; rotate_left; (focus (first | omega | (simp; done) | (simp; omega)))) | (with_reducible refine Ext.then (b := ?_) ?_ ?_; rotate_left; rotate_left; (with_reducible assumption))))))) hs) ?_
  intro w1 hx1
  have ho : Own w1 w.heap.size #[.int .i64 0, .int .i64 0, .slice none 0 0, .slice none 0 0] 30 := (by repeat (first | (with_reducible assumption) | (with_reducible exact Own.new _ _ _) | (with_reducible refine Own.new' _ _ _ ?_; (focus (simp; done))) | (with_reducible refine Own.alloc ?_ _) | (with_reducible refine Own.drew ?_) | (with_reducible refine Own.drewN ?_ _) | (with_reducible refine Own.keep (w := ?_) ?_ ?_; rotate_left; (with_reducible assumption); (exact (by repeat (first | (with_reducible assumption) | (with_reducible exact Ext.rfl' _) | (with_reducible exact Ext.new _ _) | (with_reducible refine Ext.alloc' ?_ _) | (with_reducible refine Ext.drew' ?_) | (with_reducible refine Ext.drewN' ?_ _) | (with_reducible refine Ext.set' ?_ ?_ _; rotate_left; (focus (first | omega | (simp; done) | (simp; omega)))) | (with_reducible refine Ext.then (b := ?_) ?_ ?_; rotate_left; rotate_left; (with_reducible assumption)))))) | (with_reducible refine Own.keep (w := ?_) ?_ ?_; rotate_left; rotate_left; (with_reducible assumption))))
  have hx : Ext w w1 := (by repeat (first | (with_reducible assumption) | (with_reducible exact Ext.rfl' _) | (with_reducible exact Ext.new _ _) | (with_reducible refine Ext.alloc' ?_ _) | (with_reducible refine Ext.drew' ?_) | (with_reducible refine Ext.drewN' ?_ _) | (with_reducible refine Ext.set' ?_ ?_ _; rotate_left; (focus (first | omega | (simp; done) | (simp; omega)))) | (with_reducible refine Ext.then (b := ?_) ?_ ?_; rotate_left; rotate_left; (with_reducible assumption))))
  have hwl : w.heap.size < w1.heap.size := ho.lt
  obtain ⟨hoc, hof⟩ := ho.facts
  have hol := ho.lt
  by_cases he : checkC l i = 0
  · obtain ⟨hv, h0, h1⟩ := checkC_0 he
    have hm : Hid (meaningE l i = match meanC l i.toNat with | some f => (f, 0) | none => (noF, 4)) := by show _ = _; unfold meaningE; rw [if_neg (by simpa using he)]; rfl
    obtain ⟨n, rfl⟩ : ∃ n : Nat, i = (n : Int) := ⟨i.toNat, by omega⟩
    rw [he]
    clear he hoc hof hol
    go_wp2_with fail
    refine (rmeaning_c (H0 := H0) _ l hv n _ (hH.trans hx.ple) hr' (by omega)).mono ?_
    rintro e w2 ⟨g, p3, e3, p4, e4, rfl, hx2, gR, hgf⟩
    have hle : PLe (up H0 w1 w2) (ph w2) := up_ple (hH.trans hx.ple) hx2
    have hHb : up H0 w1 w2 w.heap.size = none := by unfold up; rw [if_pos hwl]; exact fresh_none hH (Nat.le_refl _)
    have hbd : ∀ k o, up H0 w1 w2 k = some o → k < w.heap.size → H0 k = some o := fun k o hk hlt => by
      unfold up at hk
      rwa [if_pos (by omega)] at hk
    replace ho := ho.keep hx2
    replace hx := hx.then hx2
    obtain ⟨hoc, hof⟩ := ho.facts
    have hol := ho.lt
    replace hm := hm.out
    rw [Int.toNat_natCast] at hm
    clear hr hr' hx1 hx2
    generalize up H0 w1 w2 = H at *
    cases hq : meanC l n with
    | some f =>
      obtain rfl := hgf f hq
      rw [hq] at hm
      replace hm : meaningE l n = (g, 0) := hm
      have hE := Lib.hid hm
      clear hm hq hgf
      go_wp2_with fail
      have o9 := ((((ho.set 0 (.int .i64 g.op)).set 1 (.int .i64 g.n)).set 2 (.slice p3 g.inn.length e3)).set 3 (.slice p4 g.kids.length e4)).alloc (.cells #[.int .i64 g.op, .int .i64 g.n, .slice p3 g.inn.length e3, .slice p4 g.kids.length e4] 30)
      simp only [List.setIfInBounds_toArray, List.set_cons_succ, List.set_cons_zero] at o9
      have hl9 := ((((hle.setC hHb 0 (.int .i64 g.op)).setC hHb 1 (.int .i64 g.n)).setC hHb 2 (.slice p3 g.inn.length e3)).setC hHb 3 (.slice p4 g.kids.length e4)).trans (Ext.ple (Ext.new _ (.cells #[.int .i64 g.op, .int .i64 g.n, .slice p3 g.inn.length e3, .slice p4 g.kids.length e4] 30)))
      obtain ⟨q, -⟩ := o9.facts
      have q0 : _ = some (Value.int .i64 g.op) := q 0
      have q1 : _ = some (Value.int .i64 g.n) := q 1
      have q2 : _ = some (Value.slice p3 g.inn.length e3) := q 2
      have q3 : _ = some (Value.slice p4 g.kids.length e4) := q 3
      have hx9 : Ext w _ := ((((hx.set' (p := ⟨w.heap.size, 0, none⟩) (Nat.le_refl _) (.int .i64 g.op)).set' (p := ⟨w.heap.size, 1, none⟩) (Nat.le_refl _) (.int .i64 g.n)).set' (p := ⟨w.heap.size, 2, none⟩) (Nat.le_refl _) (.slice p3 g.inn.length e3)).set' (p := ⟨w.heap.size, 3, none⟩) (Nat.le_refl _) (.slice p4 g.kids.length e4)).alloc' (.cells #[.int .i64 g.op, .int .i64 g.n, .slice p3 g.inn.length e3, .slice p4 g.kids.length e4] 30)
      generalize World.alloc _ _ = w9 at *
      refine bodyPost_ret (v := .tuple #[fmV g p3 e3 p4 e4, .int .i64 0]) (by simp [results, Try.results9, go_sem, q0, q1, q2, q3]) rfl ?_
      exact ⟨p3, e3, p4, e4, by rw [hE.out], hx9, by rw [hE.out]; exact mono_FmR _ _ _ _ (up_in hl9 hbd) gR⟩
    | none =>
      rw [hq] at hm
      replace hm : meaningE l n = (noF, 4) := hm
      have hE := Lib.hid hm
      clear hm hq hgf
      go_wp2_with fail
      have o9 := ((((ho.set 0 (.int .i64 0)).set 1 (.int .i64 0)).set 2 (.slice none 0 0)).set 3 (.slice none 0 0)).alloc (.cells #[.int .i64 g.op, .int .i64 g.n, .slice p3 g.inn.length e3, .slice p4 g.kids.length e4] 30)
      simp only [List.setIfInBounds_toArray, List.set_cons_succ, List.set_cons_zero] at o9
      obtain ⟨q, -⟩ := o9.facts
      have q0 : _ = some (Value.int .i64 0) := q 0
      have q1 : _ = some (Value.int .i64 0) := q 1
      have q2 : _ = some (Value.slice none 0 0) := q 2
      have q3 : _ = some (Value.slice none 0 0) := q 3
      have hx9 : Ext w _ := ((((hx.set' (p := ⟨w.heap.size, 0, none⟩) (Nat.le_refl _) (.int .i64 0)).set' (p := ⟨w.heap.size, 1, none⟩) (Nat.le_refl _) (.int .i64 0)).set' (p := ⟨w.heap.size, 2, none⟩) (Nat.le_refl _) (.slice none 0 0)).set' (p := ⟨w.heap.size, 3, none⟩) (Nat.le_refl _) (.slice none 0 0)).alloc' (.cells #[.int .i64 g.op, .int .i64 g.n, .slice p3 g.inn.length e3, .slice p4 g.kids.length e4] 30)
      generalize World.alloc _ _ = w9 at *
      refine bodyPost_ret (v := .tuple #[zeroFv, .int .i64 4]) (by simp [results, Try.results9, go_sem, q0, q1, q2, q3]) rfl ?_
      exact ⟨none, 0, none, 0, by rw [hE.out]; rfl, hx9, by rw [hE.out]; exact noF_R _⟩
  · have hm : meaningE l i = (noF, checkC l i) := by unfold meaningE; rw [if_pos he]
    have hE := Lib.hid hm
    have b3 : (checkC l i == 0) = false := by simpa using he
    generalize checkC l i = e at *
    clear he hm
    go_wp2_with fail
    have o9 := ((((ho.set 0 (.int .i64 0)).set 1 (.int .i64 0)).set 2 (.slice none 0 0)).set 3 (.slice none 0 0))
    simp only [List.setIfInBounds_toArray, List.set_cons_succ, List.set_cons_zero] at o9
    obtain ⟨q, -⟩ := o9.facts
    have q0 : _ = some (Value.int .i64 0) := q 0
    have q1 : _ = some (Value.int .i64 0) := q 1
    have q2 : _ = some (Value.slice none 0 0) := q 2
    have q3 : _ = some (Value.slice none 0 0) := q 3
    have hx9 : Ext w _ := ((((hx.set' (p := ⟨w.heap.size, 0, none⟩) (Nat.le_refl _) (.int .i64 0)).set' (p := ⟨w.heap.size, 1, none⟩) (Nat.le_refl _) (.int .i64 0)).set' (p := ⟨w.heap.size, 2, none⟩) (Nat.le_refl _) (.slice none 0 0)).set' (p := ⟨w.heap.size, 3, none⟩) (Nat.le_refl _) (.slice none 0 0))
    refine bodyPost_ret (v := .tuple #[zeroFv, .int .i64 e]) (by simp [results, Try.results9, go_sem, q0, q1, q2, q3]) rfl ?_
    exact ⟨none, 0, none, 0, by rw [hE.out]; rfl, hx9, by rw [hE.out]; exact noF_R _⟩
end Go.Proofs.Ytdpdpjimmfajgaa
