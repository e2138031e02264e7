/- Lemmas for FX, part 16: package formula: Simple and Push, errors too, and more. -/
import Derived.Laws.EntriesVeiled
import Derived.Test.YtbpilielamjnoaaGreatFX01
import Derived.Test.YtbpilielamjnoaaGreatFX02
import Derived.Test.YtbpilielamjnoaaGreatFX05
import Derived.Test.YtbpilielamjnoaaGreatFX08
import Derived.Test.YtbpilielamjnoaaGreatFX09
import Derived.Test.YtbpilielamjnoaaGreatFX10
import Derived.Test.YtbpilielamjnoaaGreatFX13
import Derived.Test.YtbpilielamjnoaaGreatFX14
set_option linter.unusedSimpArgs false
set_option linter.unusedVariables false
namespace Go.Proofs.YtbpilielamjnoaaGreat
open Go.RowKit Go.Shelf
def simpleE (f : Fm) : Fm × Int := if validF f = 0 then (simpF f, 0) else (noF, validF f)
def pushE (f : Fm) : Fm × Int := if validF f = 0 then (if validF (pushP f) = 0 then (pushP f, 0) else (noF, 4)) else (noF, validF f)
set_option maxRecDepth 100000 in
set_option maxHeartbeats 8000000 in
theorem fsimple_c (f : Fm) (cs : List Value) (w : World) (hr : FmR (ph w) cs f) (hb : f.bulk ≤ 400000) : Calls Tryz.prog 26 #[.agg cs.toArray] w (PushQ w (simpleE f)) := by
  have hr0 := hr
  obtain ⟨a3, c3, a4, c4, rfl, -⟩ := hr.form
  by_cases hf : validF f = 0
  · have hw := (validF_0 hf).2.2
    have hres : simpleE f = (simpF f, 0) := by unfold simpleE; rw [if_pos hf]
    rw [hres]
    have n0 : ((0 : Int) != 0) = false := rfl
    have hM := ((Mem.start w (ph w) (fun _ _ h => h)).new' #[.int .i64 f.op, .int .i64 f.n, .slice a3 f.inn.length c3, .slice a4 f.kids.length c4] 29 (n := w.heap.size) rfl).new' #[.int .i64 0, .int .i64 0, .slice none 0 0, .slice none 0 0] 29 (n := w.heap.size + 1) (by simp)
    simp only [List.cons_append, List.nil_append] at hM
    unfold fmC at hr ⊢
    go_enter Tryz.func26, Tryz.ntmps26
    go_upto_region 1 with (fail)
    generalize World.alloc _ _ = w1 at *
    generalize hg4 : w.heap.size + 1 = g2 at *
    generalize hg3 : w.heap.size = g1 at *
    have u0 : w1.cell? ⟨g1, 0, none⟩ = some (.int .i64 f.op) := (hM.box 0 rfl).facts.1 0
    have u1 : w1.cell? ⟨g1, 1, none⟩ = some (.int .i64 f.n) := (hM.box 0 rfl).facts.1 1
    have u2 : w1.cell? ⟨g1, 2, none⟩ = some (.slice a3 f.inn.length c3) := (hM.box 0 rfl).facts.1 2
    have u3 : w1.cell? ⟨g1, 3, none⟩ = some (.slice a4 f.kids.length c4) := (hM.box 0 rfl).facts.1 3
    have ul := (hM.box 0 rfl).lt
    have hv := fvalid_c f (fmC f a3 c3 a4 c4) w1 (mono_FmR _ _ _ _ hM.ple hr0) (by omega)
    rw [hf] at hv
    go_wp2_with fail
    refine RetV_at hv ?_
    intro w2 hx2
    replace hM := hM.ext hx2
    clear u0 u1 u2 u3 ul hv hx2
    have u0 : w2.cell? ⟨g1, 0, none⟩ = some (.int .i64 f.op) := (hM.box 0 rfl).facts.1 0
    have u1 : w2.cell? ⟨g1, 1, none⟩ = some (.int .i64 f.n) := (hM.box 0 rfl).facts.1 1
    have u2 : w2.cell? ⟨g1, 2, none⟩ = some (.slice a3 f.inn.length c3) := (hM.box 0 rfl).facts.1 2
    have u3 : w2.cell? ⟨g1, 3, none⟩ = some (.slice a4 f.kids.length c4) := (hM.box 0 rfl).facts.1 3
    have ul := (hM.box 0 rfl).lt
    have hcall := simple_c f (ph w) (fmC f a3 c3 a4 c4) w2 hM.ple hr0 hw hb
    unfold fmC at hcall
    generalize simpF f = R at *
    go_wp2_with fail
    refine hcall.mono ?_
    rintro e w4 ⟨p3, q3, p4, q4, rfl, hx4, hQ⟩
    have hM4 := hM.up hx4
    generalize up (ph w) w2 w4 = H4 at *
    clear hM hcall u0 u1 u2 u3 ul hx4
    have rz0 : _ = some (Value.int .i64 0) := (hM4.box 1 rfl).facts.1 0
    have rz1 : _ = some (Value.int .i64 0) := (hM4.box 1 rfl).facts.1 1
    have rz2 : _ = some (Value.slice none 0 0) := (hM4.box 1 rfl).facts.1 2
    have rz3 : _ = some (Value.slice none 0 0) := (hM4.box 1 rfl).facts.1 3
    obtain ⟨-, rzf⟩ := (hM4.box 1 rfl).facts
    have rzl := (hM4.box 1 rfl).lt
    have hM8 := hM4.set4 1 rfl (.int .i64 R.op) (.int .i64 R.n) (.slice p3 R.inn.length q3) (.slice p4 R.kids.length q4)
    simp only [List.set_cons_zero, List.set_cons_succ] at hM8
    clear hM4
    go_wp2_with fail
    generalize World.setCell _ _ _ = w9 at *
    obtain ⟨rq', -⟩ := (hM8.box 1 rfl).facts
    have rq0 : _ = some ((.int .i64 R.op) : Value) := rq' 0
    have rq1 : _ = some ((.int .i64 R.n) : Value) := rq' 1
    have rq2 : _ = some ((.slice p3 R.inn.length q3) : Value) := rq' 2
    have rq3 : _ = some ((.slice p4 R.kids.length q4) : Value) := rq' 3
    refine bodyPost_ret (v := .tuple #[.agg #[(.int .i64 R.op), (.int .i64 R.n), (.slice p3 R.inn.length q3), (.slice p4 R.kids.length q4)], .int .i64 0]) (by simp [results, Tryz.results26, go_sem, rq0, rq1, rq2, rq3]) rfl ?_
    exact ⟨p3, q3, p4, q4, rfl, hM8.ex, mono_FmR _ _ _ _ hM8.ple hQ⟩
  · have hres : simpleE f = (noF, validF f) := by unfold simpleE; rw [if_neg hf]
    rw [hres]
    obtain ⟨z, hz⟩ : ∃ z, validF f = z := ⟨_, rfl⟩
    rw [hz] at hf ⊢
    have n0 : (z != 0) = true := by simpa using hf
    clear hf
    have hf := hz
    clear hz hres
    have hM := ((Mem.start w (ph w) (fun _ _ h => h)).new' #[.int .i64 f.op, .int .i64 f.n, .slice a3 f.inn.length c3, .slice a4 f.kids.length c4] 29 (n := w.heap.size) rfl).new' #[.int .i64 0, .int .i64 0, .slice none 0 0, .slice none 0 0] 29 (n := w.heap.size + 1) (by simp)
    simp only [List.cons_append, List.nil_append] at hM
    unfold fmC at hr ⊢
    go_enter Tryz.func26, Tryz.ntmps26
    go_upto_region 1 with (fail)
    generalize World.alloc _ _ = w1 at *
    generalize hg4 : w.heap.size + 1 = g2 at *
    generalize hg3 : w.heap.size = g1 at *
    have u0 : w1.cell? ⟨g1, 0, none⟩ = some (.int .i64 f.op) := (hM.box 0 rfl).facts.1 0
    have u1 : w1.cell? ⟨g1, 1, none⟩ = some (.int .i64 f.n) := (hM.box 0 rfl).facts.1 1
    have u2 : w1.cell? ⟨g1, 2, none⟩ = some (.slice a3 f.inn.length c3) := (hM.box 0 rfl).facts.1 2
    have u3 : w1.cell? ⟨g1, 3, none⟩ = some (.slice a4 f.kids.length c4) := (hM.box 0 rfl).facts.1 3
    have ul := (hM.box 0 rfl).lt
    have hv := fvalid_c f (fmC f a3 c3 a4 c4) w1 (mono_FmR _ _ _ _ hM.ple hr0) (by omega)
    rw [hf] at hv
    clear hf
    go_wp2_with fail
    refine RetV_at hv ?_
    intro w2 hx2
    replace hM := hM.ext hx2
    clear u0 u1 u2 u3 ul hv hx2
    have rz0 : _ = some (Value.int .i64 0) := (hM.box 1 rfl).facts.1 0
    have rz1 : _ = some (Value.int .i64 0) := (hM.box 1 rfl).facts.1 1
    have rz2 : _ = some (Value.slice none 0 0) := (hM.box 1 rfl).facts.1 2
    have rz3 : _ = some (Value.slice none 0 0) := (hM.box 1 rfl).facts.1 3
    obtain ⟨-, rzf⟩ := (hM.box 1 rfl).facts
    have rzl := (hM.box 1 rfl).lt
    have hM8 := hM.set4 1 rfl (.int .i64 0) (.int .i64 0) (.slice none 0 0) (.slice none 0 0)
    simp only [List.set_cons_zero, List.set_cons_succ] at hM8
    clear hM
    go_wp2_with fail
    generalize World.setCell _ _ _ = w9 at *
    obtain ⟨rq', -⟩ := (hM8.box 1 rfl).facts
    have rq0 : _ = some ((.int .i64 0) : Value) := rq' 0
    have rq1 : _ = some ((.int .i64 0) : Value) := rq' 1
    have rq2 : _ = some ((.slice none 0 0) : Value) := rq' 2
    have rq3 : _ = some ((.slice none 0 0) : Value) := rq' 3
    refine bodyPost_ret (v := .tuple #[.agg #[(.int .i64 0), (.int .i64 0), (.slice none 0 0), (.slice none 0 0)], .int .i64 z]) (by simp [results, Tryz.results26, go_sem, rq0, rq1, rq2, rq3]) rfl ?_
    exact ⟨none, 0, none, 0, rfl, hM8.ex, noF_R _⟩
set_option maxRecDepth 100000 in
set_option maxHeartbeats 8000000 in
theorem fpush_c (f : Fm) (cs : List Value) (w : World) (hr : FmR (ph w) cs f) (hb : f.bulk ≤ 400000) : Calls Tryz.prog 24 #[.agg cs.toArray] w (PushQ w (pushE f)) := by
  have hr0 := hr
  obtain ⟨a3, c3, a4, c4, rfl, -⟩ := hr.form
  by_cases hf : validF f = 0
  · by_cases hp : validF (pushP f) = 0
    · have hres : pushE f = (pushP f, 0) := by unfold pushE; rw [if_pos hf, if_pos hp]
      rw [hres]
      exact push_c f _ w hr hf hp
    · have hres : pushE f = (noF, 4) := by unfold pushE; rw [if_pos hf, if_neg hp]
      rw [hres]
      clear hres
      have hb2 := (push_bulk f).1
      have hb1 := valid_bulk hf
      have hw := (validF_0 hf).2.2
      have n0 : ((0 : Int) != 0) = false := rfl
      have hM := ((Mem.start w (ph w) (fun _ _ h => h)).new' #[.int .i64 f.op, .int .i64 f.n, .slice a3 f.inn.length c3, .slice a4 f.kids.length c4] 29 (n := w.heap.size) rfl).new' #[.int .i64 0, .int .i64 0, .slice none 0 0, .slice none 0 0] 29 (n := w.heap.size + 1) (by simp)
      simp only [List.cons_append, List.nil_append] at hM
      unfold fmC at hr ⊢
      go_enter Tryz.func24, Tryz.ntmps24
      go_upto_region 1 with (fail)
      generalize World.alloc _ _ = w1 at *
      generalize hg4 : w.heap.size + 1 = g2 at *
      generalize hg3 : w.heap.size = g1 at *
      have u0 : w1.cell? ⟨g1, 0, none⟩ = some (.int .i64 f.op) := (hM.box 0 rfl).facts.1 0
      have u1 : w1.cell? ⟨g1, 1, none⟩ = some (.int .i64 f.n) := (hM.box 0 rfl).facts.1 1
      have u2 : w1.cell? ⟨g1, 2, none⟩ = some (.slice a3 f.inn.length c3) := (hM.box 0 rfl).facts.1 2
      have u3 : w1.cell? ⟨g1, 3, none⟩ = some (.slice a4 f.kids.length c4) := (hM.box 0 rfl).facts.1 3
      have ul := (hM.box 0 rfl).lt
      have hv := fvalid_c f (fmC f a3 c3 a4 c4) w1 (mono_FmR _ _ _ _ hM.ple hr0) (by omega)
      rw [hf] at hv
      go_wp2_with fail
      refine RetV_at hv ?_
      intro w2 hx2
      replace hM := hM.ext hx2
      clear u0 u1 u2 u3 ul hv hx2
      have hM3 := (hM.new' #[.func (.func 58) #[] #[.pointer (some ⟨w2.heap.size + 1, 0, none⟩), .pointer (some ⟨w2.heap.size, 0, none⟩)]] 54 (n := w2.heap.size) rfl).new' #[.func (.func 60) #[] #[.pointer (some ⟨w2.heap.size, 0, none⟩), .pointer (some ⟨w2.heap.size + 1, 0, none⟩)]] 54 (n := w2.heap.size + 1) (by simp)
      simp only [List.cons_append, List.nil_append] at hM3
      clear hM
      go_upto_region 7 with (fail)
      generalize World.alloc _ _ = w3 at *
      generalize hg6 : w2.heap.size + 1 = g6 at *
      generalize hg5 : w2.heap.size = g5 at *
      have u0 : w3.cell? ⟨g1, 0, none⟩ = some (.int .i64 f.op) := (hM3.box 0 rfl).facts.1 0
      have u1 : w3.cell? ⟨g1, 1, none⟩ = some (.int .i64 f.n) := (hM3.box 0 rfl).facts.1 1
      have u2 : w3.cell? ⟨g1, 2, none⟩ = some (.slice a3 f.inn.length c3) := (hM3.box 0 rfl).facts.1 2
      have u3 : w3.cell? ⟨g1, 3, none⟩ = some (.slice a4 f.kids.length c4) := (hM3.box 0 rfl).facts.1 3
      have ul := (hM3.box 0 rfl).lt
      have hc5 : w3.cell? ⟨g5, 0, none⟩ = some (.func (.func 58) #[] #[.pointer (some ⟨g6, 0, none⟩), .pointer (some ⟨g5, 0, none⟩)]) := (hM3.box 2 rfl).facts.1 0
      have hc6 : w3.cell? ⟨g6, 0, none⟩ = some (.func (.func 60) #[] #[.pointer (some ⟨g5, 0, none⟩), .pointer (some ⟨g6, 0, none⟩)]) := (hM3.box 3 rfl).facts.1 0
      have l5 : g5 < w3.heap.size := cell_lt hc5
      have hcall := (push_fc g5 g6 f (ph w) (fmC f a3 c3 a4 c4) w3 hc5 hc6 hM3.ple hr0 hw (by omega)).1
      have hfn1 := fun args w => enterFn Tryz.func58 rfl rfl args w
      unfold fmC at hcall
      generalize pushP f = R at *
      go_wp2_with fail
      refine hcall.mono ?_
      rintro e w4 ⟨p3, q3, p4, q4, rfl, hx4, hQ⟩
      have hM4 := hM3.up hx4
      generalize up (ph w) w3 w4 = H4 at *
      clear hM3 hcall hfn1 u0 u1 u2 u3 ul hc5 hc6 l5 hx4
      go_upto_region 8 with (fail)
      have hM5 := (hM4.pick [1] (by decide)).new' #[.int .i64 R.op, .int .i64 R.n, .slice p3 R.inn.length q3, .slice p4 R.kids.length q4] 29 (n := w4.heap.size) rfl
      simp only [List.map_cons, List.map_nil, List.getElem?_cons_zero, List.getElem?_cons_succ, Option.getD_some, List.cons_append, List.nil_append] at hM5
      clear hM4
      generalize w4.alloc _ = w5 at *
      generalize w4.heap.size = g7 at *
      have u0 : w5.cell? ⟨g7, 0, none⟩ = some (.int .i64 R.op) := (hM5.box 1 rfl).facts.1 0
      have u1 : w5.cell? ⟨g7, 1, none⟩ = some (.int .i64 R.n) := (hM5.box 1 rfl).facts.1 1
      have u2 : w5.cell? ⟨g7, 2, none⟩ = some (.slice p3 R.inn.length q3) := (hM5.box 1 rfl).facts.1 2
      have u3 : w5.cell? ⟨g7, 3, none⟩ = some (.slice p4 R.kids.length q4) := (hM5.box 1 rfl).facts.1 3
      have ul := (hM5.box 1 rfl).lt
      have hv := fvalid_c R (fmC R p3 q3 p4 q4) w5 (mono_FmR _ _ _ _ hM5.ple hQ) (by omega)
      have n1 : (validF R != 0) = true := by simpa using hp
      generalize validF R = z at *
      clear hp
      unfold fmC at hv
      go_wp2_with fail
      refine RetV_at hv ?_
      intro w6 hx6
      replace hM5 := hM5.ext hx6
      clear u0 u1 u2 u3 ul hv hx6
      have rz0 : _ = some (Value.int .i64 0) := (hM5.box 0 rfl).facts.1 0
      have rz1 : _ = some (Value.int .i64 0) := (hM5.box 0 rfl).facts.1 1
      have rz2 : _ = some (Value.slice none 0 0) := (hM5.box 0 rfl).facts.1 2
      have rz3 : _ = some (Value.slice none 0 0) := (hM5.box 0 rfl).facts.1 3
      obtain ⟨-, rzf⟩ := (hM5.box 0 rfl).facts
      have rzl := (hM5.box 0 rfl).lt
      have hM8 := hM5.set4 0 rfl (.int .i64 0) (.int .i64 0) (.slice none 0 0) (.slice none 0 0)
      simp only [List.set_cons_zero, List.set_cons_succ] at hM8
      clear hM5
      go_wp2_with fail
      generalize World.setCell _ _ _ = w9 at *
      obtain ⟨rq', -⟩ := (hM8.box 0 rfl).facts
      have rq0 : _ = some ((.int .i64 0) : Value) := rq' 0
      have rq1 : _ = some ((.int .i64 0) : Value) := rq' 1
      have rq2 : _ = some ((.slice none 0 0) : Value) := rq' 2
      have rq3 : _ = some ((.slice none 0 0) : Value) := rq' 3
      refine bodyPost_ret (v := .tuple #[.agg #[(.int .i64 0), (.int .i64 0), (.slice none 0 0), (.slice none 0 0)], .int .i64 4]) (by simp [results, Tryz.results24, go_sem, rq0, rq1, rq2, rq3]) rfl ?_
      exact ⟨none, 0, none, 0, rfl, hM8.ex, noF_R _⟩
  · have hres : pushE f = (noF, validF f) := by unfold pushE; rw [if_neg hf]
    rw [hres]
    obtain ⟨z, hz⟩ : ∃ z, validF f = z := ⟨_, rfl⟩
    rw [hz] at hf ⊢
    have n0 : (z != 0) = true := by simpa using hf
    clear hf
    have hf := hz
    clear hz hres
    have hM := ((Mem.start w (ph w) (fun _ _ h => h)).new' #[.int .i64 f.op, .int .i64 f.n, .slice a3 f.inn.length c3, .slice a4 f.kids.length c4] 29 (n := w.heap.size) rfl).new' #[.int .i64 0, .int .i64 0, .slice none 0 0, .slice none 0 0] 29 (n := w.heap.size + 1) (by simp)
    simp only [List.cons_append, List.nil_append] at hM
    unfold fmC at hr ⊢
    go_enter Tryz.func24, Tryz.ntmps24
    go_upto_region 1 with (fail)
    generalize World.alloc _ _ = w1 at *
    generalize hg4 : w.heap.size + 1 = g2 at *
    generalize hg3 : w.heap.size = g1 at *
    have u0 : w1.cell? ⟨g1, 0, none⟩ = some (.int .i64 f.op) := (hM.box 0 rfl).facts.1 0
    have u1 : w1.cell? ⟨g1, 1, none⟩ = some (.int .i64 f.n) := (hM.box 0 rfl).facts.1 1
    have u2 : w1.cell? ⟨g1, 2, none⟩ = some (.slice a3 f.inn.length c3) := (hM.box 0 rfl).facts.1 2
    have u3 : w1.cell? ⟨g1, 3, none⟩ = some (.slice a4 f.kids.length c4) := (hM.box 0 rfl).facts.1 3
    have ul := (hM.box 0 rfl).lt
    have hv := fvalid_c f (fmC f a3 c3 a4 c4) w1 (mono_FmR _ _ _ _ hM.ple hr0) (by omega)
    rw [hf] at hv
    clear hf
    go_wp2_with fail
    refine RetV_at hv ?_
    intro w2 hx2
    replace hM := hM.ext hx2
    clear u0 u1 u2 u3 ul hv hx2
    have rz0 : _ = some (Value.int .i64 0) := (hM.box 1 rfl).facts.1 0
    have rz1 : _ = some (Value.int .i64 0) := (hM.box 1 rfl).facts.1 1
    have rz2 : _ = some (Value.slice none 0 0) := (hM.box 1 rfl).facts.1 2
    have rz3 : _ = some (Value.slice none 0 0) := (hM.box 1 rfl).facts.1 3
    obtain ⟨-, rzf⟩ := (hM.box 1 rfl).facts
    have rzl := (hM.box 1 rfl).lt
    have hM8 := hM.set4 1 rfl (.int .i64 0) (.int .i64 0) (.slice none 0 0) (.slice none 0 0)
    simp only [List.set_cons_zero, List.set_cons_succ] at hM8
    clear hM
    go_wp2_with fail
    generalize World.setCell _ _ _ = w9 at *
    obtain ⟨rq', -⟩ := (hM8.box 1 rfl).facts
    have rq0 : _ = some ((.int .i64 0) : Value) := rq' 0
    have rq1 : _ = some ((.int .i64 0) : Value) := rq' 1
    have rq2 : _ = some ((.slice none 0 0) : Value) := rq' 2
    have rq3 : _ = some ((.slice none 0 0) : Value) := rq' 3
    refine bodyPost_ret (v := .tuple #[.agg #[(.int .i64 0), (.int .i64 0), (.slice none 0 0), (.slice none 0 0)], .int .i64 z]) (by simp [results, Tryz.results24, go_sem, rq0, rq1, rq2, rq3]) rfl ?_
    exact ⟨none, 0, none, 0, rfl, hM8.ex, noF_R _⟩
set_option maxRecDepth 100000 in
set_option maxHeartbeats 2000000 in
theorem orderB_c (f : Fm) (cs : List Value) (w : World) (hr : FmR (ph w) cs f) (hlen : f.inn.length ≤ 400000) : Calls Tryz.prog 74 #[.agg cs.toArray] w fun e w' => ∃ v, e = .returned v ∧ Ext w w' ∧ OwnS w.heap.size noH w' IntR 1 3 v (ordF f) := by
  obtain ⟨a3, c3, a4, c4, rfl, i1, i2, hil, hkl, hi, hk⟩ := hr.form
  unfold fmC
  clear hr hk
  have hof := Lib.hid (show ordF f = ([f.op, f.n, (f.inn.length : Int)] ++ f.inn.flatMap ordI) ++ [(f.kids.length : Int)] from rfl)
  have i3 : I64 (f.inn.length : Int) := by unfold I64; omega
  have i4 : I64 (f.kids.length : Int) := by unfold I64; omega
  go_enter Tryz.func74, Tryz.ntmps74
  go_wp2_with fail
  have hM := (((Mem.start w noH (noH_le _)).new #[.int .i64 f.op, .int .i64 f.n, .slice a3 f.inn.length c3, .slice a4 f.kids.length c4] 29).new' #[.int .i64 f.op, .int .i64 f.n, .int .i64 f.inn.length] 3 (n := w.heap.size + 1) (by simp)).asOwn 1 rfl mono_IntR (sz := 1) (xs := [f.op, f.n, (f.inn.length : Int)]) (n := 3) (by simp) (by simp [maxLen]) rfl
    (cells_ints (l := [f.op, f.n, (f.inn.length : Int)]) (by simp; exact ⟨i1, i2, i3⟩))
  simp only [List.nil_append, List.cons_append, List.set_cons_succ, List.set_cons_zero, List.length_cons, List.length_nil, Nat.zero_add, Nat.reduceAdd] at hM
  go_loopw [3, 4] (fun v i wr => ∃ k : Nat, k ≤ f.inn.length ∧ i = .int .i64 k ∧ Mem w noH [box w.heap.size #[.int .i64 f.op, .int .i64 f.n, .slice a3 f.inn.length c3, .slice a4 f.kids.length c4] 29, own mono_IntR 1 3 v ([f.op, f.n, (f.inn.length : Int)] ++ (f.inn.take k).flatMap ordI)] noH wr) (fun _ i _ => f.inn.length - (intOf i).toNat)
  case atStart => exact ⟨0, Nat.zero_le _, rfl, hM⟩
  case round =>
    obtain ⟨k, hk, rfl, hM⟩ := hrel
    obtain ⟨kc, kf⟩ := (hM.box 0 rfl).facts
    have k2 : _ = some (Value.slice a3 f.inn.length c3) := kc 2
    have k3 : _ = some (Value.slice a4 f.kids.length c4) := kc 3
    have hbl0 := (hM.box 0 rfl).lt
    by_cases hlt : k < f.inn.length
    · obtain ⟨b, o, rfl, h0, h1, h2, h3, h4, h5, h6, h7, hbl, hI⟩ := ItvsR.at (hi.mono mono_ItvR hM.ex.ple) k hlt
      have hstep : Hid (([f.op, f.n, (f.inn.length : Int)] ++ (f.inn.take k).flatMap ordI) ++ ordI f.inn[k] = [f.op, f.n, (f.inn.length : Int)] ++ (f.inn.take (k + 1)).flatMap ordI) := by
        show _ = _; rw [List.take_succ_eq_append_getElem hlt, List.flatMap_append, List.append_assoc]; simp
      have hll : ([f.op, f.n, (f.inn.length : Int)] ++ (f.inn.take k).flatMap ordI).length ≤ 4000000 := by rw [List.length_append, ordIs_len, List.length_take]; simp; omega
      have hoI := ordI_I64 hI
      generalize [f.op, f.n, (f.inn.length : Int)] ++ (f.inn.take k).flatMap ordI = pre at *
      generalize f.inn[k] = x at *
      obtain ⟨ga, gn, rfl, -⟩ := hM.form 1 rfl
      clear hi kc
      obtain ⟨⟨p, q⟩, ⟨r, s⟩, lO, rO, lI, rI⟩ := x
      dsimp only at *
      go_wp2_with fail
      have hM2 := hM.new #[.int .i64 p, .int .i64 q, .int .i64 r, .int .i64 s, .bool lO, .bool rO, .bool lI, .bool rI] 96
      simp only [List.nil_append, List.cons_append] at hM2
      have hBl := (hM2.box 2 rfl).lt
      obtain ⟨bc, bf⟩ := (hM2.box 2 rfl).facts
      clear hM h0 h1 h2 h3 h4 h5 h6 h7 kf k2 k3
      generalize wr.alloc _ = W at *
      have m0 : _ = some (Value.int .i64 p) := bc 0
      have m1 : _ = some (Value.int .i64 q) := bc 1
      have m2 : _ = some (Value.int .i64 r) := bc 2
      have m3 : _ = some (Value.int .i64 s) := bc 3
      have m4 : _ = some (Value.bool lO) := bc 4
      have m5 : _ = some (Value.bool rO) := bc 5
      have m6 : _ = some (Value.bool lI) := bc 6
      have m7 : _ = some (Value.bool rI) := bc 7
      clear bc
      (refine wp_region_I 26 (by kernel_rfl) (by kernel_rfl) ?_; simp only [List.toList_toArray, List.take_succ_cons, List.take_zero, List.drop_succ_cons, List.drop_zero])
      iterate 3 (refine wiA rfl (by simp) rfl ?_; (try simp only [List.nil_append, List.cons_append]))
      (refine walkI_is (u := ?_) rfl (by simp) rfl ?_ ?_; rotate_left; (focus (intro A w' hS hA K hK; (simp only [List.map_cons, List.map_nil, knows, Is, Op.operands, Call.operands, List.lookup_cons, List.lookup_nil, Nat.reduceBEq, Bool.false_eq_true, if_false, if_true, Act.eval, Array.getD_eq_getD_getElem?, List.getElem?_toArray, List.getElem?_cons_succ, List.getElem?_cons_zero, Option.getD_some, and_true, true_and, List.append_toArray, List.nil_append, List.cons_append, List.toList_toArray, Array.toList_append, Option.toArray, List.append_nil] at hA); first | (go_simp; refine RetP_at (one7_c _ _) ?_; exact hK _ xE) | (obtain ⟨hSc, hSf, hSs⟩ := hS.cells; go_simp; exact hK _ xN))); (try simp only [List.nil_append, List.cons_append]))
      iterate 2 (refine wiA rfl (by simp) rfl ?_; (try simp only [List.nil_append, List.cons_append]))
      (refine walkI_is (u := ?_) rfl (by simp) rfl ?_ ?_; rotate_left; (focus (intro A w' hS hA K hK; (simp only [List.map_cons, List.map_nil, knows, Is, Op.operands, Call.operands, List.lookup_cons, List.lookup_nil, Nat.reduceBEq, Bool.false_eq_true, if_false, if_true, Act.eval, Array.getD_eq_getD_getElem?, List.getElem?_toArray, List.getElem?_cons_succ, List.getElem?_cons_zero, Option.getD_some, and_true, true_and, List.append_toArray, List.nil_append, List.cons_append, List.toList_toArray, Array.toList_append, Option.toArray, List.append_nil] at hA); first | (go_simp; refine RetP_at (one7_c _ _) ?_; exact hK _ xE) | (obtain ⟨hSc, hSf, hSs⟩ := hS.cells; go_simp; exact hK _ xN))); (try simp only [List.nil_append, List.cons_append]))
      iterate 8 (refine wiA rfl (by simp) rfl ?_; (try simp only [List.nil_append, List.cons_append]))
      (refine walkI_is (u := ?_) rfl (by simp) rfl ?_ ?_; rotate_left; (focus (intro A w' hS hA K hK; (simp only [List.map_cons, List.map_nil, knows, Is, Op.operands, Call.operands, List.lookup_cons, List.lookup_nil, Nat.reduceBEq, Bool.false_eq_true, if_false, if_true, Act.eval, Array.getD_eq_getD_getElem?, List.getElem?_toArray, List.getElem?_cons_succ, List.getElem?_cons_zero, Option.getD_some, and_true, true_and, List.append_toArray, List.nil_append, List.cons_append, List.toList_toArray, Array.toList_append, Option.toArray, List.append_nil] at hA); first | (go_simp; refine RetP_at (one7_c _ _) ?_; exact hK _ xE) | (obtain ⟨hSc, hSf, hSs⟩ := hS.cells; go_simp; exact hK _ xN))); (try simp only [List.nil_append, List.cons_append]))
      iterate 2 (refine wiA rfl (by simp) rfl ?_; (try simp only [List.nil_append, List.cons_append]))
      (refine walkI_is (u := ?_) rfl (by simp) rfl ?_ ?_; rotate_left; (focus (intro A w' hS hA K hK; (simp only [List.map_cons, List.map_nil, knows, Is, Op.operands, Call.operands, List.lookup_cons, List.lookup_nil, Nat.reduceBEq, Bool.false_eq_true, if_false, if_true, Act.eval, Array.getD_eq_getD_getElem?, List.getElem?_toArray, List.getElem?_cons_succ, List.getElem?_cons_zero, Option.getD_some, and_true, true_and, List.append_toArray, List.nil_append, List.cons_append, List.toList_toArray, Array.toList_append, Option.toArray, List.append_nil] at hA); first | (go_simp; refine RetP_at (one7_c _ _) ?_; exact hK _ xE) | (obtain ⟨hSc, hSf, hSs⟩ := hS.cells; go_simp; exact hK _ xN))); (try simp only [List.nil_append, List.cons_append]))
      iterate 6 (refine wiA rfl (by simp) rfl ?_; (try simp only [List.nil_append, List.cons_append]))
      (refine walkI_step (NewSl W (intC (ordI ⟨⟨p, q⟩, ⟨r, s⟩, lO, rO, lI, rI⟩)).toArray 3 8) rfl (by simp) rfl (stab_NewSl _ _ _ _) ?_ ?_; (focus (intro A w' hS hA K hK; (simp only [List.map_cons, List.map_nil, knows, Is, Op.operands, Call.operands, List.lookup_cons, List.lookup_nil, Nat.reduceBEq, Bool.false_eq_true, if_false, if_true, Act.eval, Array.getD_eq_getD_getElem?, List.getElem?_toArray, List.getElem?_cons_succ, List.getElem?_cons_zero, Option.getD_some, and_true, true_and, List.append_toArray, List.nil_append, List.cons_append, List.toList_toArray, Array.toList_append, Option.toArray, List.append_nil] at hA); (have hs' := hS.size; go_simp; exact hK _ _ (Ext.new _ _) ⟨_, rfl, Own.new _ _ _, by omega⟩))); (try simp only [List.nil_append, List.cons_append]))
      (refine walkI_nil ?_; simp only [List.nil_append, List.cons_append, fins, Is, forall_eq, Act.put, List.setIfInBounds_toArray, List.set_cons_zero, List.set_cons_succ])
      rintro w2 hx2 v9 ⟨g, rfl, ho, hg⟩
      have hM3 := hM2.ext hx2
      have hS8 := Src.ints (H := noH) (n := 8) hoI ho rfl
      clear m0 m1 m2 m3 m4 m5 m6 m7 bf
      go_wp2_with (at_builtin; refine wpList_append_M 1 rfl _ _ 22 rfl Tryz.underlying22 infoInt rfl rfl rfl (hM3) rfl (hS8) one_IntR ?c3 ?c4 ?c5)
      case c3 => simp [ordI]; omega
      case c4 => simp [ordI]; omega
      case c5 =>
        intro v' w3 hM4
        try simp only [List.set_cons_succ, List.set_cons_zero] at hM4
        rw [hstep.out] at hM4
        go_wp2_with fail
        go_roundw
        case rel =>
          have hM5 := hM4.pick [0, 1] (by simp)
          simp only [List.map_cons, List.map_nil, List.getElem?_cons_zero, List.getElem?_cons_succ, Option.getD_some] at hM5
          exact ⟨k + 1, by omega, by go_num, hM5⟩
        case measure => simp [intOf]; omega
    · rw [List.take_of_length_le (by omega)] at hM
      have hll : ([f.op, f.n, (f.inn.length : Int)] ++ f.inn.flatMap ordI).length ≤ 4000000 := by rw [List.length_append, ordIs_len]; simp; omega
      generalize [f.op, f.n, (f.inn.length : Int)] ++ f.inn.flatMap ordI = pre at *
      obtain ⟨ga, gn, rfl, -⟩ := hM.form 1 rfl
      clear hi kc
      have hM2 := hM.ext (Ext.new wr (.cells #[.int .i64 f.kids.length] 3))
      have hS1 := Src.ints (H := noH) (n := 1) (l := [(f.kids.length : Int)]) (by simpa using i4) (Own.new wr #[.int .i64 f.kids.length] 3) rfl
      go_wp2_with (at_builtin; refine wpList_append_M 1 rfl _ _ 22 rfl Tryz.underlying22 infoInt rfl rfl rfl (hM2) rfl (hS1) one_IntR ?c3 ?c4 ?c5)
      case c3 => simp; omega
      case c4 => simp; omega
      case c5 =>
        intro v' w3 hM4
        try simp only [List.set_cons_succ, List.set_cons_zero] at hM4
        rw [← hof.out] at hM4
        go_wp2_with fail
        go_ret
        exact ⟨_, rfl, hM4.ex, hM4.ownS 1 rfl⟩
set_option maxRecDepth 100000 in
set_option maxHeartbeats 2000000 in
theorem rcmpB_c (f : Fm) : ∀ (g : Fm) (cs ds : List Value) (w : World), FmR (ph w) cs f → FmR (ph w) ds g → f.bulk ≤ 400000 → g.bulk ≤ 400000 →
    Calls Tryz.prog 35 #[.agg cs.toArray, .agg ds.toArray] w (RetV w (.int .i64 (cmpF f g))) := by
  induction f using Fm.ind with
  | h f ih =>
    intro g cs ds w hr hq hb1 hb2
    have hr' := hr
    have hq' := hq
    obtain ⟨a3, c3, a4, c4, rfl, -, -, hil, hkl, hi, hk⟩ := hr.form
    obtain ⟨b3, d3, b4, d4, rfl, -, -, gil, gkl, gi, gk⟩ := hq.form
    unfold fmC at *
    clear hr hq hi gi
    have hbf := f.bulk_eq
    have hbg := g.bulk_eq
    have hkf := f.kids_le
    have hkg := g.kids_le
    have hE := Lib.hid (cmpF_eq f g)
    have HI := Lib.hid ih; clear ih
    go_enter Tryz.func35, Tryz.ntmps35
    go_wp2_with fail
    have hM0 := ((Mem.start w noH (noH_le _)).new #[.int .i64 f.op, .int .i64 f.n, .slice a3 f.inn.length c3, .slice a4 f.kids.length c4] 29).new' #[.int .i64 g.op, .int .i64 g.n, .slice b3 g.inn.length d3, .slice b4 g.kids.length d4] 29 (n := w.heap.size + 1) (by simp)
    simp only [List.nil_append, List.cons_append] at hM0
    refine (orderB_c f _ _ (mono_FmR _ _ _ _ (Ext.ple xE) hr') (by omega)).mono ?_
    rintro e w1 ⟨v1, rfl, hx1, ho1⟩
    obtain ⟨H1, -, -, hM1⟩ := hM0.take hx1 ho1 mono_IntR (noH_le _)
    simp only [List.nil_append, List.cons_append] at hM1
    obtain ⟨kc, kf⟩ := (hM1.box 0 rfl).facts
    obtain ⟨lc, lf⟩ := (hM1.box 1 rfl).facts
    have hl1 := (hM1.box 1 rfl).lt
    clear hM0 hx1 ho1
    go_wp2_with fail
    refine (orderB_c g _ _ (mono_FmR _ _ _ _ hM1.ex.ple hq') (by omega)).mono ?_
    rintro e w2 ⟨v2, rfl, hx2, ho2⟩
    obtain ⟨H2, -, -, hM2⟩ := hM1.take hx2 ho2 mono_IntR (noH_le _)
    simp only [List.nil_append, List.cons_append] at hM2
    clear hM1 hx2 ho2 kc kf lc lf hl1
    have hR1 := hM2.rep 2 rfl
    have hR2 := hM2.rep 3 rfl
    obtain ⟨xa, xc, rfl, xlen, hR1⟩ := hR1.form
    obtain ⟨ya, yc, rfl, ylen, hR2⟩ := hR2.form
    have hkids : cmpZ (ordF f) (ordF g) = 0 → f.kids.length = g.kids.length ∧ (ordF f).length = (ordF g).length := fun h => ⟨(ordF_0 (a := f) (b := g) h).2.2.2, by rw [ordF_len, ordF_len, (ordF_0 (a := f) (b := g) h).2.2.1]⟩
    have hB1 := hM2.box 0 rfl
    have hB2 := hM2.box 1 rfl
    have hX := hM2.ex
    clear hM2
    generalize hx : ordF f = X at *
    generalize hy : ordF g = Y at *
    replace hx := Lib.hid hx
    replace hy := Lib.hid hy
    replace hkids := Lib.hid hkids
    go_wp2_with fail
    go_loopw [7] (fun i wr => ∃ k : Nat, k ≤ X.length ∧ k ≤ Y.length ∧ i = .int .i64 k ∧ Hid (cmpZ X Y = cmpZ (X.drop k) (Y.drop k)) ∧ Ext w2 wr) (fun i _ => X.length - (intOf i).toNat)
    case atStart => exact ⟨0, Nat.zero_le _, Nat.zero_le _, rfl, Lib.hid rfl, xE⟩
    case round =>
      obtain ⟨k, hk1, hk2, rfl, hZ, hxr⟩ := hrel
      by_cases hlt1 : k < X.length
      · by_cases hlt2 : k < Y.length
        · obtain ⟨b, o, rfl, h0, i0, hbl⟩ := IntsR.at (hR1.mono mono_IntR hxr.ple) k hlt1
          obtain ⟨b', o', rfl, h0', i0', hbl'⟩ := IntsR.at (hR2.mono mono_IntR hxr.ple) k hlt2
          have hd := Lib.hid (cmpZ_drop hlt1 hlt2)
          generalize X[k] = x at *
          generalize Y[k] = y at *
          clear hR1 hR2 hk gk hB1 hB2
          by_cases h1 : x < y
          · have b1 : decide (x < y) = true := by simpa using h1
            have hn : Hid (cmpF f g = -1) := by show _ = _; rw [hE.out, hZ.out, hd.out, if_pos h1]; rfl
            clear hd
            go_wp2_with fail
            (refine wp_region_calm (S := fun w' => Ext _ w') (by kernel_rfl) (by kernel_rfl) (Ext.rfl' _).drew' ?_; (try simp only [List.toList_toArray]); (repeat (first | (refine walkF_skip ?_ ?_; (focus rfl); (try simp only [Act.put, List.setIfInBounds_toArray, List.set_cons_zero, List.set_cons_succ])) | (refine walkF_step (v := ?_) rfl ?_ ?_ ?_; rotate_left; (focus rfl); (focus (intro w' hS A hA K hK; (simp only [agrees, Op.operands, Call.operands, Act.eval, Array.getD_eq_getD_getElem?, List.getElem?_toArray, List.getElem?_cons_succ, List.getElem?_cons_zero, Option.getD_some, and_true, true_and, List.append_toArray, List.nil_append, List.cons_append, List.toList_toArray, Array.toList_append] at hA); (obtain ⟨hSc, hSf, hSs⟩ := hS.cells; go_simp; exact hK _ hS))); (try simp only [Act.put, List.setIfInBounds_toArray, List.set_cons_zero, List.set_cons_succ])))); refine walkF_nil ?_)
            intro w3 hw3
            go_wp2_with fail
            go_ret
            exact ⟨ret_int hn.out.symm, xE⟩
          have b1 : decide (x < y) = false := by simpa using h1
          by_cases h2 : y < x
          · have b2 : decide (y < x) = true := by simpa using h2
            have hn : Hid (cmpF f g = 1) := by show _ = _; rw [hE.out, hZ.out, hd.out, if_neg h1, if_pos h2]; rfl
            clear hd
            go_wp2_with fail
            (refine wp_region_calm (S := fun w' => Ext _ w') (by kernel_rfl) (by kernel_rfl) (Ext.rfl' _).drew' ?_; (try simp only [List.toList_toArray]); (repeat (first | (refine walkF_skip ?_ ?_; (focus rfl); (try simp only [Act.put, List.setIfInBounds_toArray, List.set_cons_zero, List.set_cons_succ])) | (refine walkF_step (v := ?_) rfl ?_ ?_ ?_; rotate_left; (focus rfl); (focus (intro w' hS A hA K hK; (simp only [agrees, Op.operands, Call.operands, Act.eval, Array.getD_eq_getD_getElem?, List.getElem?_toArray, List.getElem?_cons_succ, List.getElem?_cons_zero, Option.getD_some, and_true, true_and, List.append_toArray, List.nil_append, List.cons_append, List.toList_toArray, Array.toList_append] at hA); (obtain ⟨hSc, hSf, hSs⟩ := hS.cells; go_simp; exact hK _ hS))); (try simp only [Act.put, List.setIfInBounds_toArray, List.set_cons_zero, List.set_cons_succ])))); refine walkF_nil ?_)
            intro w3 hw3
            replace h0 := hw3.cell1 h0
            replace h0' := hw3.cell1 h0'
            replace hbl := cell_lt h0
            replace hbl' := cell_lt h0'
            go_wp2_with fail
            (refine wp_region_calm (S := fun w' => Ext _ w') (by kernel_rfl) (by kernel_rfl) (Ext.rfl' _).drew' ?_; (try simp only [List.toList_toArray]); (repeat (first | (refine walkF_skip ?_ ?_; (focus rfl); (try simp only [Act.put, List.setIfInBounds_toArray, List.set_cons_zero, List.set_cons_succ])) | (refine walkF_step (v := ?_) rfl ?_ ?_ ?_; rotate_left; (focus rfl); (focus (intro w' hS A hA K hK; (simp only [agrees, Op.operands, Call.operands, Act.eval, Array.getD_eq_getD_getElem?, List.getElem?_toArray, List.getElem?_cons_succ, List.getElem?_cons_zero, Option.getD_some, and_true, true_and, List.append_toArray, List.nil_append, List.cons_append, List.toList_toArray, Array.toList_append] at hA); (obtain ⟨hSc, hSf, hSs⟩ := hS.cells; go_simp; exact hK _ hS))); (try simp only [Act.put, List.setIfInBounds_toArray, List.set_cons_zero, List.set_cons_succ])))); refine walkF_nil ?_)
            intro w4 hw4
            go_wp2_with fail
            go_ret
            exact ⟨ret_int hn.out.symm, xE⟩
          · have b2 : decide (y < x) = false := by simpa using h2
            have hn : Hid (cmpZ X Y = cmpZ (X.drop (k + 1)) (Y.drop (k + 1))) := by show _ = _; rw [hZ.out, hd.out, if_neg h1, if_neg h2]
            clear hd
            go_wp2_with fail
            (refine wp_region_calm (S := fun w' => Ext _ w') (by kernel_rfl) (by kernel_rfl) (Ext.rfl' _).drew' ?_; (try simp only [List.toList_toArray]); (repeat (first | (refine walkF_skip ?_ ?_; (focus rfl); (try simp only [Act.put, List.setIfInBounds_toArray, List.set_cons_zero, List.set_cons_succ])) | (refine walkF_step (v := ?_) rfl ?_ ?_ ?_; rotate_left; (focus rfl); (focus (intro w' hS A hA K hK; (simp only [agrees, Op.operands, Call.operands, Act.eval, Array.getD_eq_getD_getElem?, List.getElem?_toArray, List.getElem?_cons_succ, List.getElem?_cons_zero, Option.getD_some, and_true, true_and, List.append_toArray, List.nil_append, List.cons_append, List.toList_toArray, Array.toList_append] at hA); (obtain ⟨hSc, hSf, hSs⟩ := hS.cells; go_simp; exact hK _ hS))); (try simp only [Act.put, List.setIfInBounds_toArray, List.set_cons_zero, List.set_cons_succ])))); refine walkF_nil ?_)
            intro w3 hw3
            replace h0 := hw3.cell1 h0
            replace h0' := hw3.cell1 h0'
            replace hbl := cell_lt h0
            replace hbl' := cell_lt h0'
            go_wp2_with fail
            (refine wp_region_calm (S := fun w' => Ext _ w') (by kernel_rfl) (by kernel_rfl) (Ext.rfl' _).drew' ?_; (try simp only [List.toList_toArray]); (repeat (first | (refine walkF_skip ?_ ?_; (focus rfl); (try simp only [Act.put, List.setIfInBounds_toArray, List.set_cons_zero, List.set_cons_succ])) | (refine walkF_step (v := ?_) rfl ?_ ?_ ?_; rotate_left; (focus rfl); (focus (intro w' hS A hA K hK; (simp only [agrees, Op.operands, Call.operands, Act.eval, Array.getD_eq_getD_getElem?, List.getElem?_toArray, List.getElem?_cons_succ, List.getElem?_cons_zero, Option.getD_some, and_true, true_and, List.append_toArray, List.nil_append, List.cons_append, List.toList_toArray, Array.toList_append] at hA); (obtain ⟨hSc, hSf, hSs⟩ := hS.cells; go_simp; exact hK _ hS))); (try simp only [Act.put, List.setIfInBounds_toArray, List.set_cons_zero, List.set_cons_succ])))); refine walkF_nil ?_)
            intro w4 hw4
            go_wp2_with fail
            go_roundw
            case rel => exact ⟨k + 1, by omega, by omega, by go_num, hn, xE⟩
            case measure => simp [intOf]; omega
        · have hZ0 : cmpZ X Y = 0 := by rw [hZ.out]; exact cmpZ_end (.inr (by omega))
          have := (hkids.out hZ0).2
          omega
      · have hZ0 : cmpZ X Y = 0 := by rw [hZ.out]; exact cmpZ_end (.inl (by omega))
        have hkk := (hkids.out hZ0).1
        have hE2 : Hid (cmpF f g = cmpFs f.kids g.kids) := by show _ = _; rw [hE.out, hZ0]; rfl
        replace hB1 := hB1.keep hxr
        replace hB2 := hB2.keep hxr
        replace hX := hX.then hxr
        clear hR1 hR2 hZ hE hZ0
        obtain ⟨kc, -⟩ := hB1.facts
        obtain ⟨lc, -⟩ := hB2.facts
        have hl2 := hB2.lt
        go_wp2_with fail
        go_loopw [8] (fun i wx => ∃ m : Nat, m ≤ f.kids.length ∧ i = .int .i64 m ∧ Hid (cmpF f g = cmpFs (f.kids.drop m) (g.kids.drop m)) ∧ Ext wr wx) (fun i _ => f.kids.length - (intOf i).toNat)
        case atStart => exact ⟨0, Nat.zero_le _, rfl, hE2, xE⟩
        case round =>
          obtain ⟨m, hm, rfl, hF, hxx⟩ := hrel
          replace hB1 := hB1.keep hxx
          replace hB2 := hB2.keep hxx
          replace hX := hX.then hxx
          clear kc lc hl2
          obtain ⟨kc, -⟩ := hB1.facts
          obtain ⟨lc, -⟩ := hB2.facts
          have hl2 := hB2.lt
          have hl1 := hB1.lt
          by_cases hlt : m < f.kids.length
          · have hlt2 : m < g.kids.length := by omega
            obtain ⟨b, o, p3, e3, p4, e4, rfl, h0, h1, h2, h3, hEa, hbl⟩ := FmsR.at (hk.mono mono_FmR hX.ple) m hlt
            obtain ⟨b', o', q3, f3, q4, f4, rfl, h0', h1', h2', h3', hEb, hbl'⟩ := FmsR.at (gk.mono mono_FmR hX.ple) m hlt2
            have k3 : _ = some (Value.slice (some ⟨b, o, none⟩) f.kids.length c4) := kc 3
            have l3 : _ = some (Value.slice (some ⟨b', o', none⟩) g.kids.length d4) := lc 3
            unfold fmC at hEa hEb
            have ha1 := Fm.kid_le (List.getElem_mem hlt)
            have ha2 := Fm.kid_le (List.getElem_mem hlt2)
            have hd := Lib.hid (cmpFs_drop hlt hlt2)
            have hc := Lib.hid (fun W (hW : Ext wr W) => HI.out _ (List.getElem_mem hlt) g.kids[m] _ _ W (mono_FmR _ _ _ _ (Ext.ple hW) hEa) (mono_FmR _ _ _ _ (Ext.ple hW) hEb) (by omega) (by omega))
            generalize cmpF f.kids[m] g.kids[m] = z at *
            generalize f.kids[m] = x at *
            generalize g.kids[m] = y at *
            clear hk gk hEa hEb kc lc HI
            have hlm : m < f.kids.length := hlt
            go_wp2_with fail
            (refine wp_region_I 12 (by kernel_rfl) (by kernel_rfl) ?_; simp only [List.toList_toArray, List.take_succ_cons, List.take_zero, List.drop_succ_cons, List.drop_zero])
            iterate 10 (refine wiA rfl (by simp) rfl ?_; (try simp only [List.nil_append, List.cons_append]))
            (refine walkI_is (u := ?_) rfl (by simp) rfl ?_ ?_; rotate_left; (focus (intro A w' hS hA K hK; (simp only [List.map_cons, List.map_nil, knows, Is, Op.operands, Call.operands, List.lookup_cons, List.lookup_nil, Nat.reduceBEq, Bool.false_eq_true, if_false, if_true, Act.eval, Array.getD_eq_getD_getElem?, List.getElem?_toArray, List.getElem?_cons_succ, List.getElem?_cons_zero, Option.getD_some, and_true, true_and, List.append_toArray, List.nil_append, List.cons_append, List.toList_toArray, Array.toList_append, Option.toArray, List.append_nil] at hA); first | (go_simp; refine RetV_at (hc.out _ xE) ?_; intro w5 hx5; exact hK _ hx5) | (obtain ⟨hSc, hSf, hSs⟩ := hS.cells; go_simp; exact hK _ xN))); (try simp only [List.nil_append, List.cons_append]))
            (refine wiA rfl (by simp) rfl ?_; (try simp only [List.nil_append, List.cons_append]))
            (refine walkI_nil ?_; simp only [List.nil_append, List.cons_append, fins, Is, forall_eq, Act.put, List.setIfInBounds_toArray, List.set_cons_zero, List.set_cons_succ])
            intro w6 hx6
            by_cases hz : z = 0
            · have b3 : (z == 0) = true := by simpa using hz
              have b4 : (z != 0) = false := by simpa using hz
              have hn : Hid (cmpF f g = cmpFs (f.kids.drop (m + 1)) (g.kids.drop (m + 1))) := by show _ = _; rw [hF.out, hd.out, if_neg (by simpa using hz)]
              clear hd hz
              go_wp2_with fail
              go_roundw
              case rel => exact ⟨m + 1, by omega, by go_num, hn, xE⟩
              case measure => simp [intOf]; omega
            · have b3 : (z == 0) = false := by simpa using hz
              have b4 : (z != 0) = true := by simpa using hz
              have hn : Hid (cmpF f g = z) := by show _ = _; rw [hF.out, hd.out, if_pos hz]
              clear hd
              go_wp2_with fail
              go_ret
              exact ⟨ret_int hn.out.symm, xE⟩
          · have hn : Hid (cmpF f g = 0) := by
              show _ = _
              rw [hF.out, List.drop_eq_nil_of_le (by omega)]
              rfl
            have k3 : _ = some (Value.slice a4 f.kids.length c4) := kc 3
            clear hk gk kc lc
            go_wp2_with fail
            go_ret
            exact ⟨ret_int hn.out.symm, xE⟩
theorem rsameB_c (f g : Fm) (cs ds : List Value) (w : World) (hr : FmR (ph w) cs f) (hq : FmR (ph w) ds g) (hb1 : f.bulk ≤ 400000) (hb2 : g.bulk ≤ 400000) :
    Calls Tryz.prog 28 #[.agg cs.toArray, .agg ds.toArray] w (RetV w (.bool (B (f = g)))) := by
  have hr' := hr
  have hq' := hq
  obtain ⟨a3, c3, a4, c4, rfl, -⟩ := hr.form
  obtain ⟨b3, d3, b4, d4, rfl, -⟩ := hq.form
  unfold fmC at *
  have h0 := Lib.hid (cmpF_0 f g)
  go_enter Tryz.func28, Tryz.ntmps28
  go_wp2_with fail
  refine RetV_at (rcmpB_c f g _ _ _ (mono_FmR _ _ _ _ (Ext.ple xE) hr') (mono_FmR _ _ _ _ (Ext.ple xE) hq') hb1 hb2) ?_
  intro w1 hx1
  generalize cmpF f g = z at *
  go_wp2_with fail
  go_ret
  refine ⟨ret_B ?_, xE⟩
  rw [← h0.out]; simp
end Go.Proofs.YtbpilielamjnoaaGreat
namespace Go.Proofs.YtbpilielamjnoaaGreat
open Go.RowKit Go.Shelf
theorem Mem.join {w W w2 : World} {H0 H3 H : PH} {L Li : List Chunk} (hN : Mem w H0 L H3 W) (hI : Mem W H3 Li H w2) : Mem w H0 (L ++ Li) H w2 := by
  have hw := hN.ex.size
  have get : ∀ {i : Nat} {c : Chunk}, (L ++ Li)[i]? = some c → (i < L.length ∧ L[i]? = some c) ∨ (L.length ≤ i ∧ Li[i - L.length]? = some c) := by
    intro i c h
    by_cases hi : i < L.length
    · rw [List.getElem?_append_left hi] at h; exact .inl ⟨hi, h⟩
    · rw [List.getElem?_append_right (by omega)] at h; exact .inr ⟨by omega, h⟩
  refine ⟨hN.l0, hN.le.trans hI.le, hI.ub.trans ((up_mono hN.ub).trans (up_up hN.ex hI.ex)), hN.ex.then hI.ex, fun i c hi => ?_, fun i c hi k hk => ?_, fun i j c d hij hi hj k hk hk' => ?_⟩
  · rcases get hi with ⟨-, h⟩ | ⟨-, h⟩
    · exact c.mono (c.loc (hN.ok _ c h) fun k hk => hI.ex.block k (hN.lt h hk)) hI.le
    · exact hI.ok _ c h
  · rcases get hi with ⟨-, h⟩ | ⟨-, h⟩
    · refine ⟨(hN.fr _ c h k hk).1, ?_⟩
      cases hx : H k with
      | none => rfl
      | some o =>
        have h1 := hI.ub k o hx
        unfold Proofs.YtbpilielamjnoaaGreat.up at h1
        rw [if_pos (hN.lt h hk), (hN.fr _ c h k hk).2] at h1
        cases h1
    · have := hI.fr _ c h k hk
      exact ⟨by omega, this.2⟩
  · rcases get hi with ⟨g1, h1⟩ | ⟨g1, h1⟩ <;> rcases get hj with ⟨g2, h2⟩ | ⟨g2, h2⟩
    · exact hN.ap i j c d hij h1 h2 k hk hk'
    · have := hN.lt h1 hk; have := (hI.fr _ d h2 k hk').1; omega
    · have := (hI.fr _ c h1 k hk).1; have := hN.lt h2 hk'; omega
    · exact hI.ap _ _ c d (by omega) h1 h2 k hk hk'
def FmIs (f : Fm) (h : PH) (v : Value) : Prop := ∃ a3 c3 a4 c4, v = fmV f a3 c3 a4 c4 ∧ FmR h (fmC f a3 c3 a4 c4) f
theorem FmIs.mono {f : Fm} {h h' : PH} {v : Value} (k : FmIs f h v) (hl : PLe h h') : FmIs f h' v := by
  obtain ⟨a3, c3, a4, c4, e, r⟩ := k
  exact ⟨a3, c3, a4, c4, e, mono_FmR _ _ _ _ hl r⟩
abbrev FmS (f : Fm) : Value → World → Prop := fun v w => FmIs f (ph w) v
theorem stab_FmS {W : World} (f : Fm) : Stable W (FmS f) := fun v w w' _ h e => h.mono e.ple
def RetF (w : World) (f : Fm) (e : Ending) (w' : World) : Prop := ∃ v, e = .returned v ∧ Ext w w' ∧ FmIs f (ph w') v
theorem class7_c (n : Int) (w : World) : Calls Tryz.prog 46 #[.int .i64 n] w (RetV w (fmV (clsF n) none 0 none 0)) := by
  show Calls Tryz.prog 46 #[.int .i64 n] w (RetV w (.agg #[.int .i64 1, .int .i64 n, .slice none 0 0, .slice none 0 0]))
  go_enter Tryz.func46, Tryz.ntmps46
  go_wp2_with fail
  have ho := Own.new w #[.int .i64 1, .int .i64 n, .slice none 0 0, .slice none 0 0] 29
  have hx := Ext.new w (.cells #[.int .i64 1, .int .i64 n, .slice none 0 0, .slice none 0 0] 29)
  generalize w.alloc _ = w9 at *
  obtain ⟨q, -⟩ := ho.facts
  have q0 : _ = some (Value.int .i64 1) := q 0
  have q1 : _ = some (Value.int .i64 n) := q 1
  have q2 : _ = some (Value.slice none 0 0) := q 2
  have q3 : _ = some (Value.slice none 0 0) := q 3
  refine bodyPost_ret (v := .agg #[.int .i64 1, .int .i64 n, .slice none 0 0, .slice none 0 0]) (by simp [results, Tryz.results46, go_sem, q0, q1, q2, q3]) rfl ?_
  exact ⟨rfl, hx⟩
theorem cls_is (n : Int) (hn : I64 n) (h : PH) : FmIs (clsF n) h (fmV (clsF n) none 0 none 0) := ⟨_, _, _, _, rfl, clsF_R h hn⟩
theorem litN {w : World} (l : List (FmT (ph w))) (hn : l.length ≤ 1000) : FmsR (ph (w.alloc (.cells (l.flatMap encT).toArray 29))) (.slice (some ⟨w.heap.size, 0, none⟩) l.length l.length) (l.map FmT.f) := by
  have hfl : (l.flatMap encT).length = l.length * 4 := gflat_len encT 4 (fun _ => rfl) l
  have hc : Cells (ph w) FmR 4 (l.flatMap encT) (l.map FmT.f) := cells_F (flat_cells (E := TR (H := ph w)) (H := ph w) encT 4 (fun _ => rfl) l fun _ _ => rfl)
  have hm := ((Mem.start w (ph w) (fun _ _ h => h)).new' (l.flatMap encT).toArray 29 (n := w.heap.size) rfl).asOwn 0 rfl mono_FmR (sz := 4) (xs := l.map FmT.f) (n := l.length) (by simp) (by simp [maxLen]; omega) (by simpa using hfl) (by
    rw [List.length_map, ← hfl]
    show Cells (ph w) FmR 4 ((l.flatMap encT).take (l.flatMap encT).length) _
    rw [List.take_length]; exact hc)
  have h := hm.rep 0 rfl
  rw [List.length_map] at h
  exact h
theorem RetF_at {P : Program} {g : FuncId} {args : Array Value} {w : World} {f : Fm} {K : Ending → World → Prop} (h : Calls P g args w (RetF w f)) (hK : ∀ v w', Ext w w' → FmIs f (ph w') v → K (.returned v) w') : Calls P g args w K :=
  h.mono (by rintro e w' ⟨v, rfl, hx, hf⟩; exact hK v w' hx hf)
set_option maxRecDepth 100000 in
set_option maxHeartbeats 2000000 in
theorem not7w_c (f : Fm) (v : Value) (w : World) (hr : FmIs f (ph w) v) : Calls Tryz.prog 31 #[v] w (RetF w (.mk 6 0 [] [f])) := by
  obtain ⟨a3, c3, a4, c4, rfl, hr⟩ := hr
  have hM := ((((Mem.start w (ph w) (fun _ _ h => h)).new' #[.int .i64 f.op, .int .i64 f.n, .slice a3 f.inn.length c3, .slice a4 f.kids.length c4] 29 (n := w.heap.size) rfl).new' #[.int .i64 6, .int .i64 0, .slice none 0 0, .slice (some ⟨w.heap.size + 1 + 1, 0, none⟩) 1 1] 29 (n := w.heap.size + 1) (by simp)).new' #[.int .i64 f.op, .int .i64 f.n, .slice a3 f.inn.length c3, .slice a4 f.kids.length c4] 29 (n := w.heap.size + 1 + 1) (by simp)).asOwn 2 rfl mono_FmR (sz := 4) (xs := [f]) (n := 1) (by simp) (by simp [maxLen]) rfl ⟨_, [], rfl, rfl, hr, rfl⟩
  simp only [List.cons_append, List.nil_append, List.set_cons_succ, List.set_cons_zero] at hM
  have hR5 := hM.rep 2 rfl
  go_enter Tryz.func31, Tryz.ntmps31
  go_wp2_with fail
  generalize World.alloc _ _ = w9 at *
  obtain ⟨q, -⟩ := (hM.box 1 rfl).facts
  have q0 : _ = some (Value.int .i64 6) := q 0
  have q1 : _ = some (Value.int .i64 0) := q 1
  have q2 : _ = some (Value.slice none 0 0) := q 2
  have q3 : _ = some (Value.slice (some ⟨w.heap.size + 1 + 1, 0, none⟩) 1 1) := q 3
  refine bodyPost_ret (v := .agg #[.int .i64 6, .int .i64 0, .slice none 0 0, .slice (some ⟨w.heap.size + 1 + 1, 0, none⟩) 1 1]) (by simp [results, Tryz.results31, go_sem, q0, q1, q2, q3]) rfl ?_
  exact ⟨_, rfl, hM.ex, none, 0, some ⟨w.heap.size + 1 + 1, 0, none⟩, 1, rfl, FmR.of (f := .mk 6 0 [] [f]) (by simp [Fm.op, I64]) (by simp [Fm.n, I64]) (SliceRep.nil _ _ _) hR5⟩
theorem of7_c (op : Int) (ks : List Fm) (v : Value) (w : World) (ho : I64 op) (hr : FmsR (ph w) v ks) : Calls Tryz.prog 30 #[.int .i64 op, v] w (RetF w (.mk op 0 [] ks)) := by
  obtain ⟨a, c, rfl, -, hr⟩ := hr.form
  go_enter Tryz.func30, Tryz.ntmps30
  go_wp2_with fail
  have o1 := Own.new w #[.int .i64 op, .int .i64 0, .slice none 0 0, .slice a ks.length c] 29
  have hx := Ext.new w (.cells #[.int .i64 op, .int .i64 0, .slice none 0 0, .slice a ks.length c] 29)
  generalize w.alloc _ = w9 at *
  obtain ⟨q, -⟩ := o1.facts
  have q0 : _ = some (Value.int .i64 op) := q 0
  have q1 : _ = some (Value.int .i64 0) := q 1
  have q2 : _ = some (Value.slice none 0 0) := q 2
  have q3 : _ = some (Value.slice a ks.length c) := q 3
  refine bodyPost_ret (v := .agg #[.int .i64 op, .int .i64 0, .slice none 0 0, .slice a ks.length c]) (by simp [results, Tryz.results30, go_sem, q0, q1, q2, q3]) rfl ?_
  exact ⟨_, rfl, hx, none, 0, a, c, rfl, FmR.of (f := .mk op 0 [] ks) ho (by simp [Fm.n, I64]) (SliceRep.nil _ _ _) (hr.mono mono_FmR hx.ple)⟩
def P2 : List (List Int) := [[], [0]]
def T1 : Thing := .mk [1] [] []
theorem okP2 : ParOk P2 (fun n => n) where
  pos := by decide
  le := by decide
  inc := by
    intro l hl
    simp only [P2, List.mem_cons, List.not_mem_nil, or_false] at hl
    rcases hl with rfl | rfl <;> simp [ascTx]
  inn := by
    intro c l h p hp
    match c, h with
    | 0, h => cases h; cases hp
    | 1, h => cases h; simp at hp; subst hp; simp [P2]
  rk := by
    intro c l p h hp
    match c, h with
    | 0, h => cases h; cases hp
    | 1, h => cases h; simp at hp; omega
theorem hold_c0 : hold P2 (clsF 0) T1 = true := by
  rw [hold_eq]
  have h : isTx P2 1 0 := ⟨by decide, by decide, by decide, by decide, .step (ps := P2) (c := 1) (p := 0) (d := 0) (l := [0]) rfl (by simp) (.refl 0)⟩
  show (if (1 : Int) = 1 then [(1 : Int)].any fun c => B (isTx P2 c 0) else _) = true
  rw [if_pos rfl, List.any_cons, (B_iff).2 h]; rfl
theorem hold_n0 : hold P2 (.mk 6 0 [] [clsF 0]) T1 = false := by
  rw [hold_6 (f := .mk 6 0 [] [clsF 0]) rfl rfl, hold_c0]; rfl
theorem T1_ok : validV T1 = 0 ∧ T1.clsLt 2 ∧ T1.bulk ≤ 1000000 := by
  have hz : T1.size = 1 := by rw [Thing.size_eq]; rfl
  have hd : T1.deep = 1 := by rw [Thing.deep_eq]; rfl
  have hf : T1.formed := (Thing.formed_iff _).2 ⟨by simp [T1, Thing.vals], (fun k h => by
    have h' : k < 1 := h
    obtain rfl : k = 0 := by omega
    exact ⟨(by show (0 : Int) ≤ 1; decide), (by show (1 : Int) < 64; decide), fun h0 => by omega⟩), (fun k h => by cases h), by simp [T1, Thing.parts]⟩
  refine ⟨?_, ?_, ?_⟩
  · unfold validV
    rw [if_pos ⟨by omega, by omega⟩]
    exact if_pos hf
  · rw [Thing.clsLt_iff]; simp [T1, Thing.cls, Thing.parts]
  · simp [T1, Thing.bulk, bulks]
def pArg : Fm := .mk 6 0 [] [.mk 4 0 [] [clsF 0, .mk 6 0 [] [clsF 1]]]
def pRes : Fm := .mk 5 0 [] [.mk 6 0 [] [clsF 0], clsF 1]
def sArg : Fm := .mk 4 0 [] [noF, clsF 1, clsF 1]
theorem p_law : pushE pArg = (pRes, 0) := by kernel_rfl
theorem s_law : simpleE sArg = (clsF 1, 0) := by kernel_rfl
theorem p2_rows {w : World} {g g' : Nat} {T T' : TypeId} (h1 : Own w g #[.int .i64 0] T) (h2 : Own w g' #[.slice none 0 0, .slice (some ⟨g, 0, none⟩) 1 1] T') : RowsR (ph w) (.slice (some ⟨g', 0, none⟩) 2 2) P2 := by
  refine ⟨_, 2, rfl, Nat.le_refl _, by simp [maxLen], .inr ⟨g', 0, rfl, ⟨[.slice none 0 0], rfl, fun j hj => ?_, ⟨_, rfl, SliceRep.nil _ _ _⟩⟩, ⟨[.slice (some ⟨g, 0, none⟩) 1 1], rfl, fun j hj => ?_, ⟨_, rfl, ints1 h1 (by simp [I64])⟩⟩, trivial⟩⟩
  · obtain rfl : j = 0 := by omega
    rw [← cell_ph]; exact h2.facts.1 0
  · obtain rfl : j = 0 := by omega
    rw [← cell_ph]; exact h2.facts.1 1
theorem t1_R {w : World} {g : Nat} {T : TypeId} (h1 : Own w g #[.int .i64 1] T) : ThingR (ph w) [.slice (some ⟨g, 0, none⟩) 1 1, .slice none 0 0, .slice none 0 0] T1 :=
  thingR_iff.2 ⟨_, _, _, rfl, ints1 h1 (by simp [I64]), SliceRep.nil _ _ _, SliceRep.nil _ _ _⟩
abbrev FmsS (l : List Fm) : Value → World → Prop := fun v w => FmsR (ph w) v l
theorem stab_FmsS {W : World} (l : List Fm) : Stable W (FmsS l) := fun v w w' _ h e => h.mono mono_FmR e.ple
set_option maxRecDepth 100000 in
set_option maxHeartbeats 8000000 in
theorem lives07_c (w : World) : Calls Tryz.prog 17 #[] w (RetV w (.bool true)) := by
  obtain ⟨t1, t2, t3⟩ := T1_ok
  have hc0 := hold_c0
  have hn0 := hold_n0
  have v0 : validF (clsF 0) = 0 := by kernel_rfl
  have w0 : wholeN 2 (clsF 0) = true := by kernel_rfl
  have v1 : validF (.mk 6 0 [] [clsF 0]) = 0 := by kernel_rfl
  have w1 : wholeN 2 (.mk 6 0 [] [clsF 0]) = true := by kernel_rfl
  have ha := p_law
  have hs := s_law
  go_enter Tryz.func17, Tryz.ntmps17
  have o1 := Own.new w #[.int .i64 0] 3
  have o2 := Own.new' (w.alloc (.cells #[.int .i64 0] 3)) #[.slice none 0 0, .slice (some ⟨w.heap.size, 0, none⟩) 1 1] 22 (n := w.heap.size + 1) (by simp)
  have hx := (Ext.new w (.cells #[.int .i64 0] 3)).then (Ext.new (w.alloc (.cells #[.int .i64 0] 3)) (.cells #[.slice none 0 0, .slice (some ⟨w.heap.size, 0, none⟩) 1 1] 22))
  have hrows := p2_rows (o1.alloc (.cells #[.slice none 0 0, .slice (some ⟨w.heap.size, 0, none⟩) 1 1] 22)) o2
  clear o1 o2
  go_wp2_with fail
  generalize World.alloc _ _ = wa at *
  refine (newTx_c okP2 _ _ hrows).mono ?_
  rintro e wb ⟨B, rfl, hxb, hT⟩
  replace hx := hx.then hxb
  clear hrows hxb
  have o3 := Own.new wb #[.int .i64 1] 3
  have o4 := Own.new' (wb.alloc (.cells #[.int .i64 1] 3)) #[.slice (some ⟨wb.heap.size, 0, none⟩) 1 1, .slice none 0 0, .slice none 0 0] 41 (n := wb.heap.size + 1) (by simp)
  have hx4 := (Ext.new wb (.cells #[.int .i64 1] 3)).then (Ext.new (wb.alloc (.cells #[.int .i64 1] 3)) (.cells #[.slice (some ⟨wb.heap.size, 0, none⟩) 1 1, .slice none 0 0, .slice none 0 0] 41))
  replace o3 := o3.alloc (.cells #[.slice (some ⟨wb.heap.size, 0, none⟩) 1 1, .slice none 0 0, .slice none 0 0] 41)
  go_upto_region 5 with (fail)
  generalize World.alloc _ _ = W at *
  generalize wb.heap.size + 1 = g3 at *
  generalize wb.heap.size = g2 at *
  replace hT := hT.keep hx4
  replace hx := hx.then hx4
  have hTh := t1_R o3
  clear hx4 o3
  have u0 : W.cell? ⟨g3, 0, none⟩ = some (.slice (some ⟨g2, 0, none⟩) 1 1) := o4.facts.1 0
  have u1 : W.cell? ⟨g3, 1, none⟩ = some (.slice none 0 0) := o4.facts.1 1
  have u2 : W.cell? ⟨g3, 2, none⟩ = some (.slice none 0 0) := o4.facts.1 2
  have ul := o4.lt
  have hH1 := fun W' (e : Ext W W') => fholds_c (ps := P2) (by decide) B (clsF 0) T1 _ _ W' (hT.keep e) (clsF_R (ph W') (n := 0) (by simp [I64])) (mono_ThingR _ _ _ _ e.ple hTh) v0 w0 t1 t2 t3
  have hH2 := fun W' (e : Ext W W') cs (hf : FmR (ph W') cs (.mk 6 0 [] [clsF 0])) => fholds_c (ps := P2) (by decide) B (.mk 6 0 [] [clsF 0]) T1 _ _ W' (hT.keep e) hf (mono_ThingR _ _ _ _ e.ple hTh) v1 w1 t1 t2 t3
  rw [hc0] at hH1
  rw [hn0] at hH2
  replace hH1 := Lib.hid hH1
  replace hH2 := Lib.hid hH2
  clear v0 v1 w0 w1 t1 t2 t3 hc0 hn0 hT hTh
  (refine wp_region_I 9 (by kernel_rfl) (by kernel_rfl) ?_; simp only [List.toList_toArray, List.take_succ_cons, List.take_zero, List.drop_succ_cons, List.drop_zero])
  (refine wiA rfl (by simp) rfl ?_; (try simp only [List.nil_append, List.cons_append]))
  (refine walkI_is (u := ?_) rfl (by simp) rfl ?_ ?_; rotate_left; (focus (intro A w' hS hA K hK; (simp only [List.map_cons, List.map_nil, knows, Is, Op.operands, Call.operands, List.lookup_cons, List.lookup_nil, Nat.reduceBEq, Bool.false_eq_true, if_false, if_true, Act.eval, Array.getD_eq_getD_getElem?, List.getElem?_toArray, List.getElem?_cons_succ, List.getElem?_cons_zero, Option.getD_some, and_true, true_and, List.append_toArray, List.nil_append, List.cons_append, List.toList_toArray, Array.toList_append, Option.toArray, List.append_nil] at hA); first | (go_simp; refine RetV_at (class7_c 0 _) ?_; intro w'' hx''; exact hK _ hx'') | (obtain ⟨hSc, hSf, hSs⟩ := hS.cells; go_simp; exact hK _ xN))); (try simp only [List.nil_append, List.cons_append]))
  (refine wiA rfl (by simp) rfl ?_; (try simp only [List.nil_append, List.cons_append]))
  (refine walkI_is (u := ?_) rfl (by simp) rfl ?_ ?_; rotate_left; (focus (intro A w' hS hA K hK; (simp only [List.map_cons, List.map_nil, knows, Is, Op.operands, Call.operands, List.lookup_cons, List.lookup_nil, Nat.reduceBEq, Bool.false_eq_true, if_false, if_true, Act.eval, Array.getD_eq_getD_getElem?, List.getElem?_toArray, List.getElem?_cons_succ, List.getElem?_cons_zero, Option.getD_some, and_true, true_and, List.append_toArray, List.nil_append, List.cons_append, List.toList_toArray, Array.toList_append, Option.toArray, List.append_nil] at hA); first | (go_simp; refine (hH1.out _ hS).mono ?_; rintro e w9 ⟨rfl, hx9⟩; exact hK _ hx9) | (obtain ⟨hSc, hSf, hSs⟩ := hS.cells; go_simp; exact hK _ xN))); (try simp only [List.nil_append, List.cons_append]))
  iterate 5 (refine wiA rfl (by simp) rfl ?_; (try simp only [List.nil_append, List.cons_append]))
  (refine walkI_nil ?_; simp only [List.nil_append, List.cons_append, fins, Is, forall_eq, Act.put, List.setIfInBounds_toArray, List.set_cons_zero, List.set_cons_succ])
  intro W5 hx5
  replace hx := hx.then hx5
  replace hH2 := Lib.hid (fun W' (e : Ext W5 W') => hH2.out W' (hx5.then e))
  replace u0 := hx5.cell1 u0
  replace u1 := hx5.cell1 u1
  replace u2 := hx5.cell1 u2
  replace ul := cell_lt u0
  clear hx5 hH1 o4
  go_upto_region 6 with (fail)
  (refine wp_region_I 10 (by kernel_rfl) (by kernel_rfl) ?_; simp only [List.toList_toArray, List.take_succ_cons, List.take_zero, List.drop_succ_cons, List.drop_zero])
  (refine wiA rfl (by simp) rfl ?_; (try simp only [List.nil_append, List.cons_append]))
  (refine walkI_is (u := ?_) rfl (by simp) rfl ?_ ?_; rotate_left; (focus (intro A w' hS hA K hK; (simp only [List.map_cons, List.map_nil, knows, Is, Op.operands, Call.operands, List.lookup_cons, List.lookup_nil, Nat.reduceBEq, Bool.false_eq_true, if_false, if_true, Act.eval, Array.getD_eq_getD_getElem?, List.getElem?_toArray, List.getElem?_cons_succ, List.getElem?_cons_zero, Option.getD_some, and_true, true_and, List.append_toArray, List.nil_append, List.cons_append, List.toList_toArray, Array.toList_append, Option.toArray, List.append_nil] at hA); first | (go_simp; refine RetV_at (class7_c 0 _) ?_; intro w'' hx''; exact hK _ hx'') | (obtain ⟨hSc, hSf, hSs⟩ := hS.cells; go_simp; exact hK _ xN))); (try simp only [List.nil_append, List.cons_append]))
  (refine walkI_step (FmS (.mk 6 0 [] [clsF 0])) rfl (by simp) rfl (stab_FmS _) ?_ ?_; (focus (intro A w' hS hA K hK; (simp only [List.map_cons, List.map_nil, knows, Is, Op.operands, Call.operands, List.lookup_cons, List.lookup_nil, Nat.reduceBEq, Bool.false_eq_true, if_false, if_true, Act.eval, Array.getD_eq_getD_getElem?, List.getElem?_toArray, List.getElem?_cons_succ, List.getElem?_cons_zero, Option.getD_some, and_true, true_and, List.append_toArray, List.nil_append, List.cons_append, List.toList_toArray, Array.toList_append, Option.toArray, List.append_nil] at hA); (go_simp; refine RetF_at (not7w_c (clsF 0) _ _ (cls_is 0 (by simp [I64]) _)) ?_; intro v w'' hx'' hf; exact hK _ _ hx'' hf))); (try simp only [List.nil_append, List.cons_append]))
  (refine wiA rfl (by simp) rfl ?_; (try simp only [List.nil_append, List.cons_append]))
  (refine walkI_is (u := ?_) rfl (by simp) rfl ?_ ?_; rotate_left; (focus (intro A w' hS hA K hK; (simp only [List.map_cons, List.map_nil, knows, Is, Op.operands, Call.operands, List.lookup_cons, List.lookup_nil, Nat.reduceBEq, Bool.false_eq_true, if_false, if_true, Act.eval, Array.getD_eq_getD_getElem?, List.getElem?_toArray, List.getElem?_cons_succ, List.getElem?_cons_zero, Option.getD_some, and_true, true_and, List.append_toArray, List.nil_append, List.cons_append, List.toList_toArray, Array.toList_append, Option.toArray, List.append_nil] at hA); first | (obtain ⟨hA1, ⟨f3, g3', f4, g4, hA2, hA3⟩, hA4⟩ := hA; go_simp; refine (hH2.out _ hS _ hA3).mono ?_; rintro e w9 ⟨rfl, hx9⟩; exact hK _ hx9) | (obtain ⟨hSc, hSf, hSs⟩ := hS.cells; go_simp; exact hK _ xN))); (try simp only [List.nil_append, List.cons_append]))
  iterate 5 (refine wiA rfl (by simp) rfl ?_; (try simp only [List.nil_append, List.cons_append]))
  (refine walkI_nil ?_; simp only [List.nil_append, List.cons_append, fins, Is, forall_eq, Act.put, List.setIfInBounds_toArray, List.set_cons_zero, List.set_cons_succ])
  rintro W6 hx6 v36 -
  replace hx := hx.then hx6
  clear hx6 hH2 u0 u1 u2 ul
  have i4 : I64 4 := by simp [I64]
  have i5 : I64 5 := by simp [I64]
  have i0 : I64 0 := by simp [I64]
  have i1 : I64 1 := by simp [I64]
  go_wp2_with fail
  refine RetV_at (class7_c 0 _) ?_
  intro W7 hx7
  replace hx := hx.then hx7
  clear hx7
  go_wp2_with fail
  refine RetV_at (class7_c 1 _) ?_
  intro W8 hx8
  replace hx := hx.then hx8
  clear hx8
  go_wp2_with fail
  refine RetF_at (not7w_c (clsF 1) _ _ (cls_is 1 i1 _)) ?_
  rintro v44 W9 hx9 ⟨f3, g3', f4, g4, rfl, hf⟩
  replace hx := hx.then hx9
  clear hx9
  have hL := litN (w := W9) [⟨clsF 0, none, 0, none, 0, clsF_R _ i0⟩, ⟨.mk 6 0 [] [clsF 1], f3, g3', f4, g4, hf⟩] (by simp)
  replace hx := hx.then (Ext.new W9 (.cells (fmC (clsF 0) none 0 none 0 ++ fmC (.mk 6 0 [] [clsF 1]) f3 g3' f4 g4).toArray 29))
  go_wp2_with fail
  refine RetF_at (of7_c 4 [clsF 0, .mk 6 0 [] [clsF 1]] _ _ i4 hL) ?_
  intro v46 W10 hx10 hf10
  replace hx := hx.then hx10
  clear hx10 hL hf
  go_wp2_with fail
  refine RetF_at (not7w_c _ _ _ hf10) ?_
  rintro v47 W11 hx11 ⟨f3, g3', f4, g4, rfl, hf⟩
  replace hx := hx.then hx11
  clear hx11 hf10
  have hP := fpush_c pArg (fmC pArg f3 g3' f4 g4) W11 hf (by simp [pArg, clsF, Fm.bulk, fbulks])
  rw [ha] at hP
  go_wp2_with fail
  refine hP.mono ?_
  rintro e W12 ⟨b3, d3, b4, d4, rfl, hx12, hp⟩
  dsimp only at hp
  replace hx := hx.then hx12
  clear hx12 hP hf ha
  have o8 := Own.new W12 #[.int .i64 pRes.op, .int .i64 pRes.n, .slice b3 pRes.inn.length d3, .slice b4 pRes.kids.length d4] 29
  have e8 := Ext.new W12 (.cells #[.int .i64 pRes.op, .int .i64 pRes.n, .slice b3 pRes.inn.length d3, .slice b4 pRes.kids.length d4] 29)
  replace hx := hx.then e8
  replace hp := mono_FmR _ _ _ _ e8.ple hp
  dsimp only
  go_upto_region 8 with (fail)
  generalize W12.alloc _ = W13 at *
  generalize W12.heap.size = g8 at *
  clear e8
  go_wp2_with fail
  refine RetV_at (class7_c 1 _) ?_
  intro W14 hx14
  go_wp2_with fail
  refine RetV_at (class7_c 1 _) ?_
  intro W15 hx15
  have hL := litN (w := W15) [⟨noF, none, 0, none, 0, noF_R _⟩, ⟨clsF 1, none, 0, none, 0, clsF_R _ i1⟩, ⟨clsF 1, none, 0, none, 0, clsF_R _ i1⟩] (by simp)
  have hxq := (hx14.then hx15).then (Ext.new W15 (.cells (fmC noF none 0 none 0 ++ (fmC (clsF 1) none 0 none 0 ++ fmC (clsF 1) none 0 none 0)).toArray 29))
  clear hx14 hx15
  go_wp2_with fail
  refine RetF_at (of7_c 4 [noF, clsF 1, clsF 1] _ _ i4 hL) ?_
  rintro v56 W16 hx16 ⟨f3, g3', f4, g4, rfl, hf⟩
  replace hxq := hxq.then hx16
  clear hx16 hL
  have hP := fsimple_c sArg (fmC sArg f3 g3' f4 g4) W16 hf (by simp [sArg, noF, clsF, Fm.bulk, fbulks])
  rw [hs] at hP
  go_wp2_with fail
  refine hP.mono ?_
  rintro e W17 ⟨p3, q3, p4, q4, rfl, hx17, hq⟩
  dsimp only at hq
  replace hxq := hxq.then hx17
  clear hx17 hP hf hs
  have o10 := Own.new W17 #[.int .i64 (clsF 1).op, .int .i64 (clsF 1).n, .slice p3 (clsF 1).inn.length q3, .slice p4 (clsF 1).kids.length q4] 29
  have e10 := Ext.new W17 (.cells #[.int .i64 (clsF 1).op, .int .i64 (clsF 1).n, .slice p3 (clsF 1).inn.length q3, .slice p4 (clsF 1).kids.length q4] 29)
  replace hxq := hxq.then e10
  replace hq := mono_FmR _ _ _ _ e10.ple hq
  replace hp := mono_FmR _ _ _ _ hxq.ple hp
  replace o8 := o8.keep hxq
  replace hx := hx.then hxq
  have n0 : ((0 : Int) != 0) = false := rfl
  dsimp only
  go_upto_region 9 with (fail)
  generalize W17.alloc _ = W18 at *
  generalize W17.heap.size = g10 at *
  clear e10 hxq
  go_upto_region 11 with (fail)
  have u0 : W18.cell? ⟨g8, 0, none⟩ = some (.int .i64 pRes.op) := o8.facts.1 0
  have u1 : W18.cell? ⟨g8, 1, none⟩ = some (.int .i64 pRes.n) := o8.facts.1 1
  have u2 : W18.cell? ⟨g8, 2, none⟩ = some (.slice b3 pRes.inn.length d3) := o8.facts.1 2
  have u3 : W18.cell? ⟨g8, 3, none⟩ = some (.slice b4 pRes.kids.length d4) := o8.facts.1 3
  have ul := o8.lt
  have z0 : W18.cell? ⟨g10, 0, none⟩ = some (.int .i64 (clsF 1).op) := o10.facts.1 0
  have z1 : W18.cell? ⟨g10, 1, none⟩ = some (.int .i64 (clsF 1).n) := o10.facts.1 1
  have z2 : W18.cell? ⟨g10, 2, none⟩ = some (.slice p3 (clsF 1).inn.length q3) := o10.facts.1 2
  have z3 : W18.cell? ⟨g10, 3, none⟩ = some (.slice p4 (clsF 1).kids.length q4) := o10.facts.1 3
  have zl := o10.lt
  have k1 := fun W' (e : Ext W18 W') cs (h : FmR (ph W') cs pRes) => rsameB_c pRes pRes _ cs W' (mono_FmR _ _ _ _ e.ple hp) h (by simp [pRes, clsF, Fm.bulk, fbulks]) (by simp [pRes, clsF, Fm.bulk, fbulks])
  have k2 := fun W' (e : Ext W18 W') => rsameB_c (clsF 1) (clsF 1) _ _ W' (mono_FmR _ _ _ _ e.ple hq) (clsF_R _ i1) (by simp [clsF, Fm.bulk, fbulks]) (by simp [clsF, Fm.bulk, fbulks])
  have hB1 : Proofs.YtbpilielamjnoaaGreat.B True = true := B_iff.2 trivial
  simp only [eq_self, hB1] at k1 k2
  replace k1 := Lib.hid k1
  replace k2 := Lib.hid k2
  clear hB1 o8 o10 hp hq
  (refine wp_region_I 13 (by kernel_rfl) (by kernel_rfl) ?_; simp only [List.toList_toArray, List.take_succ_cons, List.take_zero, List.drop_succ_cons, List.drop_zero])
  (refine wiA rfl (by simp) rfl ?_; (try simp only [List.nil_append, List.cons_append]))
  (refine walkI_is (u := ?_) rfl (by simp) rfl ?_ ?_; rotate_left; (focus (intro A w' hS hA K hK; (simp only [List.map_cons, List.map_nil, knows, Is, Op.operands, Call.operands, List.lookup_cons, List.lookup_nil, Nat.reduceBEq, Bool.false_eq_true, if_false, if_true, Act.eval, Array.getD_eq_getD_getElem?, List.getElem?_toArray, List.getElem?_cons_succ, List.getElem?_cons_zero, Option.getD_some, and_true, true_and, List.append_toArray, List.nil_append, List.cons_append, List.toList_toArray, Array.toList_append, Option.toArray, List.append_nil] at hA); first | (go_simp; refine RetV_at (class7_c 0 _) ?_; intro w'' hx''; exact hK _ hx'') | (obtain ⟨hSc, hSf, hSs⟩ := hS.cells; go_simp; exact hK _ xN))); (try simp only [List.nil_append, List.cons_append]))
  (refine walkI_step (FmS (.mk 6 0 [] [clsF 0])) rfl (by simp) rfl (stab_FmS _) ?_ ?_; (focus (intro A w' hS hA K hK; (simp only [List.map_cons, List.map_nil, knows, Is, Op.operands, Call.operands, List.lookup_cons, List.lookup_nil, Nat.reduceBEq, Bool.false_eq_true, if_false, if_true, Act.eval, Array.getD_eq_getD_getElem?, List.getElem?_toArray, List.getElem?_cons_succ, List.getElem?_cons_zero, Option.getD_some, and_true, true_and, List.append_toArray, List.nil_append, List.cons_append, List.toList_toArray, Array.toList_append, Option.toArray, List.append_nil] at hA); (go_simp; refine RetF_at (not7w_c (clsF 0) _ _ (cls_is 0 i0 _)) ?_; intro v w'' hx'' hf; exact hK _ _ hx'' hf))); (try simp only [List.nil_append, List.cons_append]))
  (refine walkI_is (u := ?_) rfl (by simp) rfl ?_ ?_; rotate_left; (focus (intro A w' hS hA K hK; (simp only [List.map_cons, List.map_nil, knows, Is, Op.operands, Call.operands, List.lookup_cons, List.lookup_nil, Nat.reduceBEq, Bool.false_eq_true, if_false, if_true, Act.eval, Array.getD_eq_getD_getElem?, List.getElem?_toArray, List.getElem?_cons_succ, List.getElem?_cons_zero, Option.getD_some, and_true, true_and, List.append_toArray, List.nil_append, List.cons_append, List.toList_toArray, Array.toList_append, Option.toArray, List.append_nil] at hA); first | (go_simp; refine RetV_at (class7_c 1 _) ?_; intro w'' hx''; exact hK _ hx'') | (obtain ⟨hSc, hSf, hSs⟩ := hS.cells; go_simp; exact hK _ xN))); (try simp only [List.nil_append, List.cons_append]))
  (refine walkI_step (FmsS [.mk 6 0 [] [clsF 0], clsF 1]) rfl (by simp) rfl (stab_FmsS _) ?_ ?_; (focus (intro A w' hS hA K hK; (simp only [List.map_cons, List.map_nil, knows, Is, Op.operands, Call.operands, List.lookup_cons, List.lookup_nil, Nat.reduceBEq, Bool.false_eq_true, if_false, if_true, Act.eval, Array.getD_eq_getD_getElem?, List.getElem?_toArray, List.getElem?_cons_succ, List.getElem?_cons_zero, Option.getD_some, and_true, true_and, List.append_toArray, List.nil_append, List.cons_append, List.toList_toArray, Array.toList_append, Option.toArray, List.append_nil] at hA); (obtain ⟨⟨f3, g3', f4, g4, hA2, hA3⟩, hA4⟩ := hA; go_simp; exact hK _ _ (Ext.new _ _) (litN (w := w') [⟨.mk 6 0 [] [clsF 0], f3, g3', f4, g4, hA3⟩, ⟨clsF 1, none, 0, none, 0, clsF_R _ i1⟩] (by simp))))); (try simp only [List.nil_append, List.cons_append]))
  (refine walkI_step (FmS pRes) rfl (by simp) rfl (stab_FmS _) ?_ ?_; (focus (intro A w' hS hA K hK; (simp only [List.map_cons, List.map_nil, knows, Is, Op.operands, Call.operands, List.lookup_cons, List.lookup_nil, Nat.reduceBEq, Bool.false_eq_true, if_false, if_true, Act.eval, Array.getD_eq_getD_getElem?, List.getElem?_toArray, List.getElem?_cons_succ, List.getElem?_cons_zero, Option.getD_some, and_true, true_and, List.append_toArray, List.nil_append, List.cons_append, List.toList_toArray, Array.toList_append, Option.toArray, List.append_nil] at hA); (go_simp; refine RetF_at (of7_c 5 _ _ _ i5 hA) ?_; intro v w'' hx'' hf; exact hK _ _ hx'' hf))); (try simp only [List.nil_append, List.cons_append]))
  (refine walkI_is (u := ?_) rfl (by simp) rfl ?_ ?_; rotate_left; (focus (intro A w' hS hA K hK; (simp only [List.map_cons, List.map_nil, knows, Is, Op.operands, Call.operands, List.lookup_cons, List.lookup_nil, Nat.reduceBEq, Bool.false_eq_true, if_false, if_true, Act.eval, Array.getD_eq_getD_getElem?, List.getElem?_toArray, List.getElem?_cons_succ, List.getElem?_cons_zero, Option.getD_some, and_true, true_and, List.append_toArray, List.nil_append, List.cons_append, List.toList_toArray, Array.toList_append, Option.toArray, List.append_nil] at hA); first | (obtain ⟨hA1, f3, g3', f4, g4, hA2, hA3⟩ := hA; go_simp; refine RetV_at (k1.out _ hS _ hA3) ?_; intro w'' hx''; exact hK _ hx'') | (obtain ⟨hSc, hSf, hSs⟩ := hS.cells; go_simp; exact hK _ xN))); (try simp only [List.nil_append, List.cons_append]))
  (refine wiA rfl (by simp) rfl ?_; (try simp only [List.nil_append, List.cons_append]))
  (refine wyA rfl (by simp) rfl rfl rfl ?_; (try simp only [List.nil_append, List.cons_append]))
  (refine walkI_yesis (u := ?_) rfl (by simp) rfl rfl rfl ?_ ?_; rotate_left; (focus (intro A w' hS hA K hK; (simp only [List.map_cons, List.map_nil, knows, Is, Op.operands, Call.operands, List.lookup_cons, List.lookup_nil, Nat.reduceBEq, Bool.false_eq_true, if_false, if_true, Act.eval, Array.getD_eq_getD_getElem?, List.getElem?_toArray, List.getElem?_cons_succ, List.getElem?_cons_zero, Option.getD_some, and_true, true_and, List.append_toArray, List.nil_append, List.cons_append, List.toList_toArray, Array.toList_append, Option.toArray, List.append_nil] at hA); first | (go_simp; refine RetV_at (class7_c 1 _) ?_; intro w'' hx''; exact hK _ hx'') | (obtain ⟨hSc, hSf, hSs⟩ := hS.cells; go_simp; exact hK _ xN))); (try simp only [List.nil_append, List.cons_append]))
  (refine walkI_yesis (u := ?_) rfl (by simp) rfl rfl rfl ?_ ?_; rotate_left; (focus (intro A w' hS hA K hK; (simp only [List.map_cons, List.map_nil, knows, Is, Op.operands, Call.operands, List.lookup_cons, List.lookup_nil, Nat.reduceBEq, Bool.false_eq_true, if_false, if_true, Act.eval, Array.getD_eq_getD_getElem?, List.getElem?_toArray, List.getElem?_cons_succ, List.getElem?_cons_zero, Option.getD_some, and_true, true_and, List.append_toArray, List.nil_append, List.cons_append, List.toList_toArray, Array.toList_append, Option.toArray, List.append_nil] at hA); first | (go_simp; refine RetV_at (k2.out _ hS) ?_; intro w'' hx''; exact hK _ hx'') | (obtain ⟨hSc, hSf, hSs⟩ := hS.cells; go_simp; exact hK _ xN))); (try simp only [List.nil_append, List.cons_append]))
  iterate 2 (refine wiA rfl (by simp) rfl ?_; (try simp only [List.nil_append, List.cons_append]))
  (refine walkI_nil ?_; simp only [List.nil_append, List.cons_append, fins, Is, forall_eq, Act.put, List.setIfInBounds_toArray, List.set_cons_zero, List.set_cons_succ])
  rintro W19 hx19 v83 - v85 - v86 -
  replace hx := hx.then hx19
  go_wp2_with fail
  go_ret
  exact ⟨rfl, hx⟩
def WorldQ (w : World) (e : Ending) (w' : World) : Prop := ∃ B v ps rk, e = .returned (.tuple #[.pointer (some ⟨B, 0, none⟩), v]) ∧ Ext w w' ∧ RowsR (ph w') v ps ∧ ParOk ps rk ∧ (ps.length : Int) ≤ 6 ∧ TaxR w' B ps
set_option maxHeartbeats 1000000 in
theorem world7_c (l : List Int) (vl : Value) (w : World) (hr : IntsR (ph w) vl l) : Calls Tryz.prog 18 #[vl] w (WorldQ w) := by
  have hr0 := hr
  obtain ⟨xa, xc, rfl, -, -⟩ := hr.form
  go_enter Tryz.func18, Tryz.ntmps18
  go_wp2_with fail
  refine (parents_c l _ 6 w hr0 (by omega) (by omega)).mono ?_
  rintro e w1 ⟨vp, ps, rk, rfl, hps, ok, hpm, hx1⟩
  obtain ⟨pa, pc, rfl, -, -⟩ := hps.form
  go_wp2_with fail
  refine (newTx_c ok _ w1 hps).mono ?_
  rintro e w2 ⟨B, rfl, hx2, hT⟩
  go_wp2_with fail
  refine bodyPost_ret (v := .tuple #[.pointer (some ⟨B, 0, none⟩), .slice pa ps.length pc]) (by simp [results, Tryz.results18, go_sem]) rfl ?_
  exact ⟨B, _, ps, rk, rfl, hx1.then hx2, hps.mono mono_IntsRow hx2.ple, ok, hpm, hT⟩
def FmQ (w : World) (cl : Int) (sz dp : Nat) (e : Ending) (w' : World) : Prop := ∃ f a3 c3 a4 c4, e = .returned (fmV f a3 c3 a4 c4) ∧ Ext w w' ∧ FmR (ph w') (fmC f a3 c3 a4 c4) f ∧ wholeN cl f = true ∧ f.size ≤ sz ∧ f.deep ≤ dp ∧ validF f = 0
theorem some07_q (l : List Int) (vl : Value) (cl lf : Int) (d : Nat) (D : Int) (w : World) (hD : (d : Int) + 1 = D) (hr : IntsR (ph w) vl l) (hc0 : 0 < cl) (hc1 : cl ≤ 64) (hd : d ≤ 7) (h0 : 0 ≤ lf) (h1 : lf ≤ 30) :
    Calls Tryz.prog 19 #[vl, .int .i64 cl, .int .i64 lf, .int .i64 D] w (FmQ w cl (3 * lf.toNat + 1) (d + 1)) := by
  subst hD
  refine (some07_n l vl cl lf d w (fun _ _ h => h) hr hc0 hc1 hd h0 (by omega)).mono ?_
  rintro e w1 ⟨f, a3, c3, a4, c4, rfl, hF, hw, ⟨hz, hdp⟩, hx1⟩
  have hsz : f.size ≤ 3 * lf.toNat + 1 := by unfold SzP at hz; omega
  exact ⟨f, a3, c3, a4, c4, rfl, hx1, mono_FmR _ _ _ _ (up_ple (noH_le _) hx1) hF, hw, hsz, by omega, validF_of (by omega) (by omega) (wholeN_B hw)⟩
def ThingW (w : World) (cl : Int) (e : Ending) (w' : World) : Prop := ∃ t b1 d1 b2 d2 b3 d3, e = .returned (.agg #[.slice b1 t.cls.length d1, .slice b2 t.vals.length d2, .slice b3 t.parts.length d3]) ∧ Ext w w' ∧
  ThingR (ph w') [.slice b1 t.cls.length d1, .slice b2 t.vals.length d2, .slice b3 t.parts.length d3] t ∧ validV t = 0 ∧ t.formed ∧ t.clsLt cl ∧ t.bulk ≤ 20000 ∧ ThingR (up noH w w') [.slice b1 t.cls.length d1, .slice b2 t.vals.length d2, .slice b3 t.parts.length d3] t
theorem thingW_c (l : List Int) (vl : Value) (cl : Int) (d : Nat) (D : Int) (w : World) (hD : (d : Int) = D) (hd1 : 1 ≤ d) (hd : d ≤ 4) (hlen : l.length ≤ 140737488355328) (hl : IntsR (ph w) vl l) (hc0 : 0 ≤ cl) (hc1 : cl ≤ 64) :
    Calls Tryz.prog 20 #[vl, .int .i64 cl, .int .i64 D] w (ThingW w cl) := by
  subst hD
  refine (someT_c l vl cl d w hlen hd hd1 hl hc0 hc1).mono ?_
  rintro e w4 ⟨ds, rfl, ⟨t, hD, htb, hok⟩, hx4⟩
  have hD0 := hD
  replace hD : ThingR (ph w4) ds t := mono_ThingR _ _ _ _ (fun k o hk => by
    unfold up at hk
    split at hk
    · cases hk
    · exact hk) hD
  obtain ⟨b1, d1, b2, d2, b3, d3, rfl, -⟩ := hD.form
  obtain ⟨h1, h2, h3, h4⟩ := hok
  have hp : 4 ^ (d - 1) ≤ 64 ∧ 68 * 4 ^ d ≤ 20000 := by
    have : d = 1 ∨ d = 2 ∨ d = 3 ∨ d = 4 := by omega
    rcases this with rfl | rfl | rfl | rfl <;> decide
  have hv : validV t = 0 := by
    unfold validV
    rw [if_pos ⟨by omega, by omega⟩]
    exact if_pos h1
  exact ⟨t, b1, d1, b2, d2, b3, d3, rfl, hx4, hD, hv, h1, h2, by omega, hD0⟩
def ClsI (t : Thing) (d : Int) (old : Option Int) (k : Nat) (xs : List Int) : Prop := (∀ y ∈ xs, 0 ≤ y ∧ y < k) ∧ (∀ y : Int, 0 ≤ y → y < k → (y = d ∨ (some y ≠ old ∧ y ∈ t.cls)) → y ∈ xs) ∧ xs.length ≤ k
theorem ClsI.skip {t : Thing} {d : Int} {old : Option Int} {k : Nat} {xs : List Int} (h : ClsI t d old k xs) (h1 : (k : Int) ≠ d) (h2 : ¬ (some (k : Int) ≠ old ∧ (k : Int) ∈ t.cls)) : ClsI t d old (k + 1) xs := by
  refine ⟨fun y hy => by have := h.1 y hy; omega, fun y h3 h4 h5 => ?_, by have := h.2.2; omega⟩
  by_cases e : y < k
  · exact h.2.1 y h3 e h5
  · have : y = k := by omega
    subst this
    rcases h5 with h5 | h5
    · exact absurd h5 h1
    · exact absurd h5 h2
theorem ClsI.put {t : Thing} {d : Int} {old : Option Int} {k : Nat} {xs : List Int} (h : ClsI t d old k xs) : ClsI t d old (k + 1) (xs ++ [(k : Int)]) := by
  refine ⟨fun y hy => ?_, fun y h3 h4 h5 => ?_, by have := h.2.2; simp; omega⟩
  · rcases List.mem_append.1 hy with hy | hy
    · have := h.1 y hy; omega
    · rw [List.mem_singleton.1 hy]; omega
  · by_cases e : y < k
    · exact List.mem_append_left _ (h.2.1 y h3 e h5)
    · have : y = k := by omega
      subst this; simp
end Go.Proofs.YtbpilielamjnoaaGreat
