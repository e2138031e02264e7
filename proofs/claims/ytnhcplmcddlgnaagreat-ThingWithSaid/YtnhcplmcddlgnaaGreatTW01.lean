/- the reference of package thing: With.; a drawn region: some ops in any order, then the rest in any order.; drawn regions by a state: which operations are done, what the slots hold, what the memory is; a step need not only grow it.; an append onto an empty literal: the memory only grows.; a cell of an element of an own slice is written. -/
import Derived.Test.YtnhcplmcddlgnaaGreatProg
import Derived.WalkKit
import Derived.WalkSpells
import Derived.WalkLawsBesides
import Derived.BigQuiet
import Derived.Deep.QuietTactic
import Derived.Lib.Hide
import Derived.Deep.DeepFit
import Derived.Handy
import Derived.Deep.LoopGhost
import Derived.Deep.DeepCutAuto
import Derived.Deep.Light
import Derived.OrdersHeld
import Derived.OrdersIn
import Derived.TacticsIn
import Derived.RangeFuncCalls
import Derived.LoopIn
import Derived.LoopNIn
import Derived.OwnWalkIn
import Derived.RangeFuncBound
import Derived.RangeFuncFrom
import Derived.RangeFuncLeaves
import Derived.RangeFuncNested
import Derived.Shelf.Abstract
import Derived.Shelf.RegionOpen
import Derived.Test.YtnhcplmcddlgnaaGreatTN00
import Derived.Test.YtnhcplmcddlgnaaGreatTN01
import Derived.Test.YtnhcplmcddlgnaaGreatTN02
import Derived.Test.YtnhcplmcddlgnaaGreatTN03
import Derived.Test.YtnhcplmcddlgnaaGreatTN04
import Derived.Test.YtnhcplmcddlgnaaGreatTN05
import Derived.Test.YtnhcplmcddlgnaaGreatTN06
import Derived.Test.YtnhcplmcddlgnaaGreatTN07
import Derived.Test.YtnhcplmcddlgnaaGreatTN08
import Derived.Test.YtnhcplmcddlgnaaGreatTN09
import Derived.Test.YtnhcplmcddlgnaaGreatTN10
import Derived.Test.YtnhcplmcddlgnaaGreatTN11
import Derived.Test.YtnhcplmcddlgnaaGreatTN12
import Derived.Test.YtnhcplmcddlgnaaGreatTN13
import Derived.Test.YtnhcplmcddlgnaaGreatTN14
import Derived.Test.YtnhcplmcddlgnaaGreatTN15
import Derived.Test.YtnhcplmcddlgnaaGreatTW00
namespace Go.Proofs.YtnhcplmcddlgnaaGreat
open Go.RowKit Go.Shelf
set_option linter.unusedSimpArgs false
set_option linter.unusedVariables false
set_option maxRecDepth 100000 in
set_option maxHeartbeats 8000000 in
theorem rwith_c (t p : Thing) (H : PH) (cs ds : List Value) (w : World) (hP : PLe H (ph w)) (hr : ThingR H cs t) (hs : ThingR H ds p) (hbt : t.bulk ≤ 400000) (hbp : p.bulk ≤ 400000) :
    Calls Tryz.prog 15 #[.agg cs.toArray, .agg ds.toArray] w (ThE H w (withV t p) (withE t p)) := by
  obtain ⟨a1, c1, a2, c2, a3, c3, rfl, -, -, -, hI, hV, hT⟩ := hr.form
  obtain ⟨b1, d1, b2, d2, b3, d3, rfl, -⟩ := hs.form
  have hM : Mem w H [boxT w.heap.size (.slice a1 t.cls.length c1) (.slice a2 t.vals.length c2) (.slice a3 t.parts.length c3), boxT (w.heap.size + 1) (.slice b1 p.cls.length d1) (.slice b2 p.vals.length d2) (.slice b3 p.parts.length d3), boxT (w.heap.size + 1 + 1) (.slice none 0 0) (.slice none 0 0) (.slice none 0 0)] H _ :=
    (((Mem.start w H hP).new #[.slice a1 t.cls.length c1, .slice a2 t.vals.length c2, .slice a3 t.parts.length c3] 27).new' #[.slice b1 p.cls.length d1, .slice b2 p.vals.length d2, .slice b3 p.parts.length d3] 27 (n := w.heap.size + 1) (by simp)).new' zeroT 27 (n := w.heap.size + 1 + 1) (by simp)
  go_enter Tryz.func15, Tryz.ntmps15
  go_upto_region 1 with (fail)
  generalize hg3 : w.heap.size + 1 + 1 = g3 at *
  generalize hg2 : w.heap.size + 1 = g2 at *
  generalize hg1 : w.heap.size = g1 at *
  generalize World.alloc _ _ = w1 at *
  obtain ⟨z0, z1, z2, zl⟩ := hM.cellsT 0 rfl
  have hvc := Lib.hid (valid_r t _ w1 (mono_ThingR _ _ _ _ hM.ple hr) (by omega))
  have hbad := Lib.hid (with_t (t := t) p)
  generalize hev : validV t = ev at *
  go_wp2_with fail
  refine RetV_at hvc.out ?_
  intro w2 hx2
  replace hM := hM.ext hx2
  clear hvc hx2 z0 z1 z2 zl
  by_cases hv0 : ev = 0
  · subst hv0
    have hvt := Lib.hid hev
    clear hbad hev
    obtain ⟨z0, z1, z2, zl⟩ := hM.cellsT 1 rfl
    have hvc := Lib.hid (valid_r p _ w2 (mono_ThingR _ _ _ _ hM.ple hs) (by omega))
    have hbad := Lib.hid (with_p (t := t) (p := p) hvt.out)
    generalize hev : validV p = ev at *
    go_wp2_with fail
    refine RetV_at hvc.out ?_
    intro w3 hx3
    replace hM := hM.ext hx3
    clear hvc hx3 z0 z1 z2 zl
    by_cases hv0 : ev = 0
    · subst hv0
      have hvp := Lib.hid hev
      clear hbad hev
      obtain ⟨z0, z1, z2, zl⟩ := hM.cellsT 0 rfl
      go_upto_region 8 with (fail)
      replace hM := hM.new' #[.slice a1 t.cls.length c1, .slice a2 t.vals.length c2, .slice a3 t.parts.length c3] 27 (n := w3.heap.size) rfl
      simp only [List.cons_append, List.nil_append] at hM
      generalize World.alloc _ _ = w4 at *
      generalize w3.heap.size = g8 at *
      clear z0 z1 z2 zl
      obtain ⟨z0, z1, z2, zl⟩ := hM.cellsT 0 rfl
      obtain ⟨y0, y1, y2, yl⟩ := hM.cellsT 1 rfl
      have hpc := Lib.hid (rpart_c (H := H) t.parts p _ _ w4 hM.ple hT hs (by omega) (fun x hx => by have := Thing.part_le hx; omega) (by have := t.parts_le; omega))
      go_wp2_with fail
      refine hpc.out.mono ?_
      rintro e w5 ⟨v5, rfl, hx5, hT5⟩
      obtain ⟨a5, c5, rfl, -, hT5⟩ := hT5.form
      obtain ⟨m, hm⟩ : ∃ m, (insR cmpT p t.parts).length = m := ⟨_, rfl⟩
      rw [hm] at hT5 ⊢
      replace hm := Lib.hid hm
      have hlH := ple_up hM.ple (w' := w5)
      replace hM := hM.up hx5
      generalize up H w4 w5 = H2 at *
      clear hpc hx5 z0 z1 z2 zl y0 y1 y2 yl
      replace hI := hI.mono mono_IntR hlH
      replace hV := hV.mono mono_ValR hlH
      obtain ⟨z0, z1, z2, zl, zf⟩ := hM.cellsF 3 rfl
      have hM2 : Mem w H [boxT g1 (.slice a1 t.cls.length c1) (.slice a2 t.vals.length c2) (.slice a3 t.parts.length c3), boxT g2 (.slice b1 p.cls.length d1) (.slice b2 p.vals.length d2) (.slice b3 p.parts.length d3), boxT g3 (.slice none 0 0) (.slice none 0 0) (.slice none 0 0), boxT g8 (.slice a1 t.cls.length c1) (.slice a2 t.vals.length c2) (.slice a5 m c5)] H2 _ := hM.set 3 rfl 2 (.slice a5 m c5)
      clear hM
      go_upto_region 9 with (fail)
      generalize World.setCell _ _ _ = w6 at *
      clear z0 z1 z2 zl zf
      obtain ⟨z0, z1, z2, zl⟩ := hM2.cellsT 3 rfl
      have hjr : ThingR H2 [.slice a1 t.cls.length c1, .slice a2 t.vals.length c2, .slice a5 m c5] (joinT t p) := thingR_of hI hV hT5
      have hvc := Lib.hid (valid_r (joinT t p) _ w6 (mono_ThingR _ _ _ _ hM2.ple hjr) (by rw [join_bulk]; omega))
      have hjb := Lib.hid (with_j hvt.out hvp.out)
      have hjo := Lib.hid (with_ok hvt.out hvp.out)
      replace hjr := Lib.hid hjr
      generalize validV (joinT t p) = ev at *
      go_wp2_with fail
      refine RetV_at hvc.out ?_
      intro w7 hx7
      replace hM2 := hM2.ext hx7
      clear hvc hx7 z0 z1 z2 zl
      by_cases hv0 : ev = 0
      · subst hv0
        replace hjo := Lib.hid (hjo.out rfl)
        clear hjb
        obtain ⟨x0, x1, x2, xl⟩ := hM2.cellsT 3 rfl
        obtain ⟨z0, z1, z2, zl, zf⟩ := hM2.cellsF 2 rfl
        have hM8 := hM2.setT 2 rfl (.slice a1 t.cls.length c1) (.slice a2 t.vals.length c2) (.slice a5 m c5)
        simp only [List.set_cons_zero, List.set_cons_succ] at hM8
        clear hM2
        go_wp2_with fail
        generalize World.setCell _ _ _ = w9 at *
        obtain ⟨rq0, rq1, rq2, -⟩ := hM8.cellsT 2 rfl
        refine bodyPost_ret (v := .tuple #[.agg #[(.slice a1 t.cls.length c1), (.slice a2 t.vals.length c2), (.slice a5 m c5)], .int .i64 0]) (by simp [results, Tryz.results15, go_sem, rq0, rq1, rq2]) rfl ?_
        rw [hjo.out.1, hjo.out.2]
        exact ⟨[_, _, _], rfl, mono_ThingR _ _ _ _ hM8.ub hjr.out, hM8.ex⟩
      · have hv1 : (ev == 0) = false := by simpa using hv0
        replace hjb := Lib.hid (hjb.out hv0)
        replace hv0 := Lib.hid hv0
        clear hjo
        obtain ⟨z0, z1, z2, zl, zf⟩ := hM2.cellsF 2 rfl
        have hM8 := hM2.setT 2 rfl (.slice none 0 0) (.slice none 0 0) (.slice none 0 0)
        simp only [List.set_cons_zero, List.set_cons_succ] at hM8
        clear hM2
        go_wp2_with fail
        generalize World.setCell _ _ _ = w9 at *
        obtain ⟨rq0, rq1, rq2, -⟩ := hM8.cellsT 2 rfl
        refine bodyPost_ret (v := .tuple #[.agg #[(.slice none 0 0), (.slice none 0 0), (.slice none 0 0)], .int .i64 ev]) (by simp [results, Tryz.results15, go_sem, rq0, rq1, rq2]) rfl ?_
        rw [hjb.out.1, hjb.out.2]
        exact ⟨[_, _, _], rfl, noT_R _, hM8.ex⟩
    · have hv1 : (ev == 0) = false := by simpa using hv0
      replace hbad := Lib.hid (hbad.out hv0)
      replace hv0 := Lib.hid hv0
      replace hev := Lib.hid hev
      obtain ⟨z0, z1, z2, zl, zf⟩ := hM.cellsF 2 rfl
      have hM8 := hM.setT 2 rfl (.slice none 0 0) (.slice none 0 0) (.slice none 0 0)
      simp only [List.set_cons_zero, List.set_cons_succ] at hM8
      clear hM
      go_wp2_with fail
      generalize World.setCell _ _ _ = w9 at *
      obtain ⟨rq0, rq1, rq2, -⟩ := hM8.cellsT 2 rfl
      refine bodyPost_ret (v := .tuple #[.agg #[(.slice none 0 0), (.slice none 0 0), (.slice none 0 0)], .int .i64 ev]) (by simp [results, Tryz.results15, go_sem, rq0, rq1, rq2]) rfl ?_
      rw [hbad.out.1, hbad.out.2]
      exact ⟨[_, _, _], rfl, noT_R _, hM8.ex⟩
  · have hv1 : (ev == 0) = false := by simpa using hv0
    replace hbad := Lib.hid (hbad.out hv0)
    replace hv0 := Lib.hid hv0
    replace hev := Lib.hid hev
    obtain ⟨z0, z1, z2, zl, zf⟩ := hM.cellsF 2 rfl
    have hM8 := hM.setT 2 rfl (.slice none 0 0) (.slice none 0 0) (.slice none 0 0)
    simp only [List.set_cons_zero, List.set_cons_succ] at hM8
    clear hM
    go_wp2_with fail
    generalize World.setCell _ _ _ = w9 at *
    obtain ⟨rq0, rq1, rq2, -⟩ := hM8.cellsT 2 rfl
    refine bodyPost_ret (v := .tuple #[.agg #[(.slice none 0 0), (.slice none 0 0), (.slice none 0 0)], .int .i64 ev]) (by simp [results, Tryz.results15, go_sem, rq0, rq1, rq2]) rfl ?_
    rw [hbad.out.1, hbad.out.2]
    exact ⟨[_, _, _], rfl, noT_R _, hM8.ex⟩
end Go.Proofs.YtnhcplmcddlgnaaGreat
namespace Go.Proofs.YtnhcplmcddlgnaaGreat
set_option linter.unusedSimpArgs false
set_option linter.unusedVariables false
def okJ (ops : Array Oper) (m : Nat) : Bool :=
  decide (m ≤ ops.size) && Region.noSelect ops && (List.range ops.size).all (fun i => (afters ops i).all fun j => decide (j < i)) &&
  (List.range m).all (okPre ops m) && (List.range ops.size).all (fun i => decide (i < m) || (List.range m).all fun j => need ops i i j)
/-- the first m are done -/
def listedJ (ops : Array Oper) (m : Nat) : Array Bool := ((List.range ops.size).map fun j => decide (j < m)).toArray
theorem listedJ_eq {ops : Array Oper} {m : Nat} {listed : Array Bool} (hs : listed.size = ops.size) (hl : ∀ j, j < ops.size → listed.getD j false = decide (j < m)) : listed = listedJ ops m := by
  refine Array.ext (by simp [listedJ, hs]) fun j h1 h2 => ?_
  have := hl j (by omega)
  simp [listedJ]
  rw [← this]
  simp [Array.getD, h1]
section
variable {P : Program} {ops : Array Oper} {Q : Exit → Act → World → Prop}
theorem wpAny_region_J (m : Nat) {a : Act} {W : World} (hc : okJ ops m = true)
    (h : walkI P ops [] W a (fun A w => wpAny P .any ops Q (ops.size - m) (listedJ ops m) A w) (ops.toList.take m) []) : wpAny P .any ops Q ops.size (Array.replicate ops.size false) a { W with drawn := W.drawn + 1 } := by
  simp only [okJ, Bool.and_eq_true, decide_eq_true_eq, List.all_eq_true, List.mem_range, Bool.or_eq_true] at hc
  obtain ⟨⟨⟨⟨hm1, hsel⟩, hlt'⟩, hpre⟩, hpost'⟩ := hc
  have hlt : ∀ i j, j ∈ afters ops i → j < i := by
    intro i j hj
    by_cases hi : i < ops.size
    · exact hlt' i hi j hj
    · obtain ⟨o, ho, -⟩ := mem_afters.1 hj
      rw [Array.getElem?_eq_none (by omega)] at ho; cases ho
  have hpost : ∀ i, m ≤ i → i < ops.size → ∀ j, j < m → need ops i i j = true := by
    intro i h1 h2 j hj
    rcases hpost' i h2 with h3 | h3
    · omega
    · exact h3 j hj
  obtain ⟨E, e1, e2, e3⟩ := walkI_env (ops := ops) (ops.toList.take m) [] (fun j o hj => by
    rw [List.getElem?_take] at hj
    split at hj
    · simpa using hj
    · cases hj) h
  simp only [List.nil_append, List.length_nil, Nat.zero_add] at e2 e3
  have hEl : E.length = m := by rw [e1]; simp; omega
  have dstE : ∀ (i : Nat) (d : Tmp) (R : Prop1), E[i]? = some (d, R) → (ops[i]?).bind (·.dst) = some d ∧ i < m := by
    intro i d R hi
    obtain ⟨o, h1, h2, -⟩ := (e2 i d R hi).go
    exact ⟨by simp [h1, h2], by rw [← hEl]; exact (List.getElem?_eq_some_iff.1 hi).1⟩
  have distinct : ∀ (i j : Nat) (d : Tmp), i < m → j < m → (ops[i]?).bind (·.dst) = some d → (ops[j]?).bind (·.dst) = some d → i = j := by
    intro i j d hi hj h1 h2
    have := hpre i hi
    unfold okPre at this
    cases ho : ops[i]? with
    | none => simp [ho] at h1
    | some o =>
      simp only [ho, Option.bind_some] at h1 this
      simp only [h1, Bool.and_eq_true, List.all_eq_true, List.mem_range, Bool.or_eq_true, beq_iff_eq, bne_iff_ne] at this
      rcases this.1 j hj with h3 | h3
      · exact h3.symm
      · exact absurd h2 h3
  have main : ∀ (n : Nat) (listed : Array Bool) (A : Act) (w : World), (List.range ops.size).countP (fun i => !listed.getD i false) = n → InvI ops [] m E W a listed A w → wpAny P .any ops Q n listed A w := by
    intro n
    induction n with
    | zero =>
      intro listed A w hn hI
      by_cases hmn : m < ops.size
      · exfalso
        rw [List.countP_eq_zero] at hn
        have := hn m (List.mem_range.2 hmn)
        rw [hI.post m (Nat.le_refl _)] at this
        simp at this
      · have hall : ∀ i, i < ops.size → listed.getD i false = true := by
          intro i hi
          rw [List.countP_eq_zero] at hn
          have := hn i (List.mem_range.2 hi)
          simpa using this
        have hmm : m = ops.size := by omega
        have hle : listed = listedJ ops m := listedJ_eq hI.size fun j hj => by rw [hall j hj]; simp; omega
        have := fins_done E a A hI.defs hI.tsz (fun i d R hi => ⟨(e2 i d R hi).lt, hI.has i d R (hall i (by have := (dstE i d R hi).2; omega)) hi⟩) (fun t ht => hI.same t fun i hi _ hdi => by
          have hiE : i < E.length := by omega
          obtain ⟨d, R, hx'⟩ := env_get hiE
          have h5 := (dstE i d R hx').1
          rw [hdi] at h5
          cases h5
          exact ht i _ R hx' rfl) (e3 w hI.ext)
        rw [show ops.size - m = 0 by omega, ← hle] at this
        exact this
    | succ n ih =>
      intro listed A w hn hI
      have hsz := hI.size
      by_cases hall : ∀ i, i < m → listed.getD i false = true
      · -- all of the first part are done
        have hdone := fins_done E a A hI.defs hI.tsz (fun i d R hi => ⟨(e2 i d R hi).lt, hI.has i d R (hall i (dstE i d R hi).2) hi⟩) (fun t ht => hI.same t fun i hi _ hdi => by
          have hiE : i < E.length := by omega
          obtain ⟨d, R, hx'⟩ := env_get hiE
          have h5 := (dstE i d R hx').1
          rw [hdi] at h5
          cases h5
          exact ht i _ R hx' rfl) (e3 w hI.ext)
        have hl : ∀ j, j < ops.size → listed.getD j false = decide (j < m) := by
          intro j hj
          by_cases hjm : j < m
          · rw [hall j hjm]; simp [hjm]
          · rw [hI.post j (by omega)]; simp [hjm]
        have hcount : n + 1 + m = ops.size := by
          have h1 : (List.range ops.size).countP (fun i => !listed.getD i false) = (List.range ops.size).countP (fun i => decide (m ≤ i)) := by
            refine List.countP_congr fun i hi => ?_
            rw [hl i (List.mem_range.1 hi)]
            by_cases hx : i < m <;> simp [hx] <;> omega
          have h2 : ∀ k, (List.range k).countP (fun i => decide (m ≤ i)) = k - m := by
            intro k
            induction k with
            | zero => simp
            | succ k ihk =>
              rw [List.range_succ, List.countP_append, ihk]
              by_cases hx : m ≤ k
              · simp [hx]; omega
              · simp [hx]; omega
          rw [h1, h2] at hn; omega
        have hle : listed = listedJ ops m := listedJ_eq hI.size hl
        rw [show ops.size - m = n + 1 by omega, ← hle] at hdone
        exact hdone
      · refine ⟨fun h0 => ?_, fun i hi => ?_⟩
        · -- some op is ready
          exfalso
          apply hall
          intro i
          induction i using Nat.strongRecOn with
          | ind i ihi =>
            intro him
            cases hx : listed.getD i false with
            | true => rfl
            | false =>
              have : i ∈ Region.ready .any ops listed := by
                rw [ready_afters]
                refine ⟨by rw [getD_tf (by omega)]; exact hx, ⟨ops[i]'(by omega), by simp [show i < ops.size by omega]⟩, fun j hj => ?_⟩
                have := hlt i j hj
                exact ihi j this (by omega)
              rw [h0] at this; cases this
        · obtain ⟨h1, ⟨oi, h2⟩, h3⟩ := ready_afters.1 hi
          have hio : i < ops.size := (Array.getElem?_eq_some_iff.1 h2).1
          have him : i < m := by
            rcases Nat.lt_or_ge i m with h | h
            · exact h
            · exfalso
              apply hall
              intro j hj
              exact need_listed hI.clo i i j (hpost i h hio j (by omega)) h3
          rw [getD_tf (by omega)] at h1
          have hiE : i < E.length := by omega
          obtain ⟨d, R, hx'⟩ := env_get hiE
          have hst := e2 i d R hx'
          obtain ⟨o', ho', hdst, hdo⟩ := hst.go
          obtain rfl : o' = oi := by rw [h2] at ho'; exact (Option.some.inj ho').symm
          have hok := hpre i him
          simp only [okPre, h2, hdst, Bool.and_eq_true, List.all_eq_true, List.mem_range, Bool.or_eq_true, beq_iff_eq, bne_iff_ne, List.contains_iff_mem] at hok
          -- what the operands are
          have hslot : ∀ t, t ∈ o'.looksAt ops → (∀ R', (E.take i).lookup t = some R' → R' (A.tmps.getD t undef) w) ∧ ((E.take i).lookup t = none → A.tmps[t]? = a.tmps[t]?) := by
            intro t ht
            refine ⟨fun R' hR' => ?_, fun hn' => ?_⟩
            · obtain ⟨j, hj⟩ := lookup_getD hR'
              have hji : j < i := by
                have := (List.getElem?_eq_some_iff.1 hj).1
                rw [List.length_take] at this; omega
              rw [List.getElem?_take, if_pos hji] at hj
              have hdj := dstE j t R' hj
              rcases hok.2 t ht j hdj.2 with h4 | h4
              · exact absurd hdj.1 h4
              · exact hI.has j t R' (h3 j h4) hj
            · refine hI.same t fun j hj hlj hdj => ?_
              rcases hok.2 t ht j hj with h4 | h4
              · exact h4 hdj
              · have hji := hlt i j h4
                have hjE : j < E.length := by omega
                obtain ⟨d', R', hy'⟩ := env_get hjE
                have h5 := (dstE j d' R' hy').1
                rw [hdj] at h5
                cases h5
                exact lookup_none hn' j t R' (by rw [List.getElem?_take, if_pos hji]; exact hy') rfl
          have hknow : ∀ l : List Operand, (∀ x ∈ l, ∀ t, x = .tmp t → t ∈ o'.looksAt ops) → knows A a w (E.take i) l := by
            intro l
            induction l with
            | nil => intro _; trivial
            | cons x xs ihx =>
              intro hl
              refine ⟨?_, ihx fun y hy => hl y (by simp [hy])⟩
              cases x with
              | tmp t =>
                have hs := hslot t (hl _ (by simp) t rfl)
                simp only []
                cases hlk : (E.take i).lookup t with
                | some R' =>
                  simp only []
                  have := hs.1 R' hlk
                  simpa [Act.eval] using this
                | none =>
                  simp only []
                  have := hs.2 hlk
                  simp only [Act.eval, Array.getD_eq_getD_getElem?, this]
              | _ => rfl
          have hops : knows A a w (E.take i) o'.op.operands.toList := hknow _ fun x hx t ht => by
            subst ht
            exact List.mem_append_left _ (List.mem_filterMap.2 ⟨.tmp t, hx, rfl⟩)
          -- behind it
          have key : ∀ v w', Ext w w' → R v w' → (∀ e ∈ ([] : List Tmp), o'.dst = some e → Fr w v w') → wpAny P .any ops Q n (listed.setIfInBounds i true) (A.put o'.dst v) w' := by
            intro v w' hww hR hFr
            have hdA : d < A.tmps.size := by rw [hI.tsz]; exact hst.lt
            refine ih _ _ _ ?_ ?_
            · have h6 : (List.range ops.size).countP (fun k => !listed.getD k false) = (List.range ops.size).countP (fun k => !(listed.setIfInBounds i true).getD k false) + 1 := by
                have gen : ∀ (l : List Nat), l.Nodup → i ∈ l → l.countP (fun k => !listed.getD k false) = l.countP (fun k => !(listed.setIfInBounds i true).getD k false) + 1 := by
                  intro l
                  induction l with
                  | nil => intro _ h; cases h
                  | cons x xs ihl =>
                    intro hnd hmem
                    rw [List.nodup_cons] at hnd
                    rcases List.mem_cons.1 hmem with rfl | hmem
                    · have h7 : xs.countP (fun k => !listed.getD k false) = xs.countP (fun k => !(listed.setIfInBounds i true).getD k false) := by
                        refine List.countP_congr fun k hk => ?_
                        rw [getD_set_ne _ (fun e => hnd.1 (by rw [e]; exact hk))]
                      rw [List.countP_cons, List.countP_cons, h7]
                      have h8 : (listed.setIfInBounds i true).getD i false = true := by simp [Array.getD_eq_getD_getElem?, show i < listed.size by omega]
                      rw [h1, h8]; simp
                    · have hne : i ≠ x := fun e => hnd.1 (by rw [← e]; exact hmem)
                      rw [List.countP_cons, List.countP_cons, ihl hnd.2 hmem, getD_set_ne _ hne]; omega
                exact gen _ List.nodup_range (List.mem_range.2 hio)
              omega
            · refine ⟨by simpa using hI.size, fun k hk j hj => ?_, fun k hk => ?_, hI.ext.then hww, by rw [hdst]; exact hI.defs, by rw [hdst]; simpa [Act.put] using hI.tsz, fun t ht => ?_, fun k d' R' hk hE' => ?_, fun k d' hk hlk hdk hdD g hg => ?_, fun k l d1 d2 hk hl hkl hlk hll hdk hdl h1D h2D g g' hg hg' => ?_⟩
              · by_cases hki : i = k
                · subst hki
                  have := h3 j hj
                  exact getD_set_true this
                · rw [getD_set_ne _ hki] at hk
                  exact getD_set_true (hI.clo k hk j hj)
              · rw [getD_set_ne _ (by omega)]; exact hI.post k hk
              · have hdt : d ≠ t := by
                  intro e; subst e
                  exact ht i him (by simp [Array.getD_eq_getD_getElem?, show i < listed.size by omega]) (by simp [h2, hdst])
                rw [hdst]
                simp only [Act.put]
                rw [Array.getElem?_setIfInBounds_ne hdt]
                exact hI.same t fun k hk hlk => ht k hk (getD_set_true hlk)
              · by_cases hki : i = k
                · subst hki
                  rw [hx'] at hE'
                  cases hE'
                  rw [hdst]
                  simp only [Act.put]
                  have : (A.tmps.setIfInBounds d v).getD d undef = v := by simp [Array.getD_eq_getD_getElem?, hdA]
                  rw [this]; exact hR
                · rw [getD_set_ne _ hki] at hk
                  have h7 := hI.has k d' R' hk hE'
                  have hne : d ≠ d' := fun e => by
                    subst e
                    have h8 := dstE k d R' hE'
                    exact hki (distinct i k d him h8.2 (by simp [h2, hdst]) h8.1)
                  rw [hdst]
                  simp only [Act.put]
                  have : (A.tmps.setIfInBounds d v).getD d' undef = A.tmps.getD d' undef := by simp [Array.getD_eq_getD_getElem?, Array.getElem?_setIfInBounds_ne hne]
                  rw [this]
                  exact (e2 k d' R' hE').st _ _ _ hI.ext h7 hww
              · by_cases hki : i = k
                · subst hki
                  obtain rfl : d' = d := by rw [h2, Option.bind_some, hdst] at hdk; exact (Option.some.inj hdk).symm
                  rw [hdst] at hg
                  simp only [Act.put] at hg
                  have : (A.tmps.setIfInBounds d' v).getD d' undef = v := by simp [Array.getD_eq_getD_getElem?, hdA]
                  rw [this] at hg
                  exact (hFr d' hdD hdst g hg).2
                · rw [getD_set_ne _ hki] at hlk
                  have hne : d ≠ d' := fun e => by
                    subst e
                    exact hki (distinct i k d him hk (by simp [h2, hdst]) hdk)
                  rw [hdst] at hg
                  simp only [Act.put] at hg
                  have : (A.tmps.setIfInBounds d v).getD d' undef = A.tmps.getD d' undef := by simp [Array.getD_eq_getD_getElem?, Array.getElem?_setIfInBounds_ne hne]
                  rw [this] at hg
                  have := hI.dlt k d' hk hlk hdk hdD g hg
                  have := hww.size
                  omega
              · have slotO : ∀ k d', k < m → k ≠ i → (ops[k]?).bind (·.dst) = some d' → (A.put o'.dst v).tmps.getD d' undef = A.tmps.getD d' undef := by
                  intro k d' hk hki hdk
                  have hne : d ≠ d' := fun e => by
                    subst e
                    exact hki (distinct i k d him hk (by simp [h2, hdst]) hdk).symm
                  rw [hdst]
                  simp only [Act.put]
                  simp [Array.getD_eq_getD_getElem?, Array.getElem?_setIfInBounds_ne hne]
                have slotI : ∀ d', (ops[i]?).bind (·.dst) = some d' → (A.put o'.dst v).tmps.getD d' undef = v ∧ o'.dst = some d' := by
                  intro d' hdk
                  obtain rfl : d' = d := by rw [h2, Option.bind_some, hdst] at hdk; exact (Option.some.inj hdk).symm
                  refine ⟨?_, hdst⟩
                  rw [hdst]
                  simp only [Act.put]
                  simp [Array.getD_eq_getD_getElem?, hdA]
                by_cases hki : i = k
                · subst hki
                  have a1 := slotI d1 hdk
                  rw [a1.1] at hg
                  rw [slotO l d2 hl (Ne.symm hkl) hdl] at hg'
                  rw [getD_set_ne _ hkl] at hll
                  have b1 := hFr d1 h1D a1.2 g hg
                  have b2 := hI.dlt l d2 hl hll hdl h2D g' hg'
                  omega
                · rw [getD_set_ne _ hki] at hlk
                  rw [slotO k d1 hk (Ne.symm hki) hdk] at hg
                  by_cases hli : i = l
                  · subst hli
                    have a1 := slotI d2 hdl
                    rw [a1.1] at hg'
                    have b1 := hFr d2 h2D a1.2 g' hg'
                    have b2 := hI.dlt k d1 hk hlk hdk h1D g hg
                    omega
                  · rw [getD_set_ne _ hli] at hll
                    rw [slotO l d2 hl (Ne.symm hli) hdl] at hg'
                    exact hI.dne k l d1 d2 hk hl hkl hlk hll hdk hdl h1D h2D g g' hg hg'
          unfold wpOp
          simp only [h2]
          have runs : RunsI P [] W a (E.take i) o' R → o'.wp P A w (wpAny P .any ops Q n (listed.setIfInBounds i true)) Q := fun hr => wp_weaken (hr A w hI.ext hops _ key)
          rcases hdo with ⟨hg, hr⟩ | ⟨g, b, tg, Rg, hg, htg, hlk, hcase⟩
          · rw [if_pos (by simp [Region.wanted, hg])]
            exact .inl (runs hr)
          · have hsg := (hslot tg (List.mem_append_right _ (by simp [hg, htg]))).1 Rg hlk
            obtain ⟨jg, hjg⟩ := lookup_getD hlk
            have hjg' : E[jg]? = some (tg, Rg) := by
              rw [List.getElem?_take] at hjg
              split at hjg
              · exact hjg
              · cases hjg
            have htsz : tg < A.tmps.size := by rw [hI.tsz]; exact (e2 jg tg Rg hjg').lt
            have hyl : ∀ c, A.tmps.getD tg undef = .bool c → yielded ops A.tmps g = some c := by
              intro c hcv
              have : A.tmps[tg]? = some (.bool c) := by
                rw [← hcv]; simp [Array.getD_eq_getD_getElem?, htsz]
              simp [yielded, htg, this]
            rcases hcase with ⟨h4, hr⟩ | ⟨h4, h5⟩
            · rw [if_pos (by simp [Region.wanted, hg, hyl b (h4 _ _ hsg)])]
              exact .inl (runs hr)
            · rw [if_neg (by
                simp only [Region.wanted, hg, beq_iff_eq]
                intro hy
                refine h4 _ _ hsg ?_
                unfold yielded at hy
                simp only [htg, Option.bind_some] at hy
                split at hy
                · rename_i c hc
                  cases hy
                  simp [Array.getD_eq_getD_getElem?, hc]
                · cases hy)]
              exact key undef w (Ext.rfl' w) (h5 w) (fun _ _ _ g hg => by cases hg)
  have h0 : (List.range ops.size).countP (fun i => !(Array.replicate ops.size false).getD i false) = ops.size := by
    have : (List.range ops.size).countP (fun i => !(Array.replicate ops.size false).getD i false) = (List.range ops.size).length := by
      rw [List.countP_eq_length]
      intro i hi
      have := List.mem_range.1 hi
      simp [Array.getD_eq_getD_getElem?, this]
    rw [this, List.length_range]
  have hf : ∀ i, (Array.replicate ops.size false).getD i false = false := by
    intro i
    by_cases h : i < ops.size
    · simp [Array.getD_eq_getD_getElem?, h]
    · simp [Array.getD_eq_getD_getElem?, Array.getElem?_eq_none, show ops.size ≤ i by omega]
  exact main ops.size _ a _ h0 ⟨by simp, fun i hi => absurd hi (by rw [hf]; simp), fun i _ => hf i, (Ext.rfl' W).drew', rfl, rfl, fun _ _ => rfl, fun i d R hi => absurd hi (by rw [hf]; simp), fun i d _ hi => absurd hi (by rw [hf]; simp), fun i j d d' _ _ _ hi => absurd hi (by rw [hf]; simp)⟩
theorem wp_region_J (m : Nat) {id : Nat} {a : Act} {W : World} (hm : P.follows .mixedOrders = true) (hc : okJ ops m = true)
    (h : walkI P ops [] W a (fun A w => wpAny P .any ops Q (ops.size - m) (listedJ ops m) A w) (ops.toList.take m) []) : (Code.region id ops true).wp P Q a W :=
  wp_region_any hm (wpAny_region_J m hc h)
end
end Go.Proofs.YtnhcplmcddlgnaaGreat
namespace Go.Proofs.YtnhcplmcddlgnaaGreat.Pj
open Go.RowKit
set_option linter.unusedSimpArgs false
set_option linter.unusedVariables false
abbrev Prop1 := Value → World → Prop
abbrev Env := List (Tmp × Prop1)
/-- what is said of a value, of no world -/
def Stable (R : Prop1) : Prop := ∀ v w w', R v w → R v w'
abbrev St := Tmp → Value
/-- which operations are done, what the slots hold, the world -/
abbrev Inv := (Nat → Bool) → St → World → Prop
def sl (A : Act) : St := fun t => A.tmps.getD t undef
def upd (dn : Nat → Bool) (i : Nat) : Nat → Bool := fun j => decide (j = i) || dn j
def sput (s : St) (d : Tmp) (v : Value) : St := fun t => if t = d then v else s t
/-- .. behind an operation that may bear no slot -/
def sputO (s : St) : Option Tmp → Value → St
  | some d, v => sput s d v
  | none, _ => s
abbrev Any : Prop1 := fun _ _ => True
/-- the slot of an operation; one that bears none has a number behind the act's own -/
def Dst (n : Nat) (o : Option Tmp) (d : Tmp) (R : Prop1) : Prop := o = some d ∧ d < n ∨ o = none ∧ n ≤ d ∧ R = Any
/-- at the operands, act A is as a, or meets what the environment says -/
def knows (A a : Act) (w : World) (E : Env) : List Operand → Prop
  | [] => True
  | x :: xs => (match x with
      | .tmp t => (match E.lookup t with
        | some R => R (A.eval x) w
        | none => A.eval x = a.eval x)
      | _ => A.eval x = a.eval x) ∧ knows A a w E xs
def afters (ops : Array Oper) (i : Nat) : List Nat := match ops[i]? with
  | some o => (o.after.toList.filter (Region.binds .any)).map (·.on)
  | none => []
def RunsI (P : Program) (ops : Array Oper) (J : Inv) (W : World) (a : Act) (i : Nat) (E : Env) (o : Oper) (d : Tmp) (R : Prop1) : Prop :=
  ∀ A w dn, Ext W w → J dn (sl A) w → dn i = false → (∀ j ∈ afters ops i, dn j = true) → knows A a w E o.op.operands.toList → ∀ K : Act → World → Prop, (∀ v w', Ext W w' → R v w' → J (upd dn i) (sputO (sl A) o.dst v) w' → K (A.put o.dst v) w') → o.wp P A w K (fun _ _ _ => False)
def doesI (P : Program) (ops : Array Oper) (J : Inv) (W : World) (a : Act) (i : Nat) (E : Env) (o : Oper) (d : Tmp) (R : Prop1) : Prop := o.guard = none ∧ RunsI P ops J W a i E o d R
/-- the acts that the environment allows -/
def fins (K : Act → World → Prop) (w : World) : Env → Act → Prop
  | [], a => K a w
  | (d, R) :: rest, a => ∀ v, R v w → fins K w rest (a.put (some d) v)
/-- the walk in the order of the text -/
def walkI (P : Program) (ops : Array Oper) (J : Inv) (W : World) (a : Act) (K : Act → World → Prop) : List Oper → Env → Prop
  | [], E => ∀ w, Ext W w → fins K w E a
  | o :: rest, E => ∃ d R, Dst a.tmps.size o.dst d R ∧ Stable R ∧ doesI P ops J W a E.length E o d R ∧ walkI P ops J W a K rest (E ++ [(d, R)])
def need (ops : Array Oper) : Nat → Nat → Nat → Bool
  | 0, _, _ => false
  | f + 1, i, j => (afters ops i).any fun k => k == j || need ops f k j
def okPre (ops : Array Oper) (m i : Nat) : Bool := match ops[i]? with
  | some oi => (match oi.dst with
      | some d => (List.range m).all fun j => j == i || (ops[j]?).bind (·.dst) != some d
      | none => true) &&
    (oi.looksAt ops).all fun t => (List.range m).all fun j => (ops[j]?).bind (·.dst) != some t || (afters ops i).contains j
  | none => false
def okI (ops : Array Oper) (m : Nat) : Bool :=
  decide (m ≤ ops.size) && Region.noSelect ops && (List.range ops.size).all (fun i => (afters ops i).all fun j => decide (j < i)) &&
  (List.range m).all (okPre ops m) && (List.range ops.size).all (fun i => decide (i < m) || (List.range i).all fun j => need ops i i j)
section
variable {P : Program} {ops : Array Oper} {Q : Exit → Act → World → Prop}
/-- what the walk has shown, step by step, with the whole environment in hand -/
structure StepI (P : Program) (ops : Array Oper) (J : Inv) (W : World) (a : Act) (E : Env) (i : Nat) (d : Tmp) (R : Prop1) : Prop where
  st : Stable R
  go : ∃ o, ops[i]? = some o ∧ Dst a.tmps.size o.dst d R ∧ doesI P ops J W a i (E.take i) o d R
theorem walkI_env {J : Inv} {W : World} {a : Act} {K : Act → World → Prop} : ∀ (l : List Oper) (E0 : Env), (∀ j o, l[j]? = some o → ops[E0.length + j]? = some o) → walkI P ops J W a K l E0 →
    ∃ E : Env, E.length = l.length ∧ (∀ i d R, E[i]? = some (d, R) → StepI P ops J W a (E0 ++ E) (E0.length + i) d R) ∧ ∀ w, Ext W w → fins K w (E0 ++ E) a := by
  intro l
  induction l with
  | nil => intro E0 _ h; exact ⟨[], rfl, by simp, by simpa [walkI] using h⟩
  | cons o rest ih =>
    intro E0 hl h
    obtain ⟨d, R, h1, h3, h4, h5⟩ := h
    obtain ⟨E, e1, e2, e3⟩ := ih (E0 ++ [(d, R)]) (fun j o' hj => by
      have := hl (j + 1) o' (by simpa using hj)
      rw [← this]; congr 1; simp; omega) h5
    refine ⟨(d, R) :: E, by simp [e1], fun i d' R' hi => ?_, by simpa using e3⟩
    cases i with
    | zero =>
      simp only [List.getElem?_cons_zero, Option.some.injEq, Prod.mk.injEq] at hi
      obtain ⟨rfl, rfl⟩ := hi
      refine ⟨h3, o, hl 0 o rfl, h1, ?_⟩
      have : (E0 ++ (d, R) :: E).take (E0.length + 0) = E0 := by simp
      rw [this, Nat.add_zero]; exact h4
    | succ i =>
      have := e2 i d' R' (by simpa using hi)
      rw [List.append_assoc, List.singleton_append] at this
      have e : (E0 ++ [(d, R)]).length + i = E0.length + (i + 1) := by simp; omega
      rwa [e] at this
structure InvI (ops : Array Oper) (J : Inv) (m : Nat) (E : Env) (W : World) (a : Act) (listed : Array Bool) (A : Act) (w : World) : Prop where
  size : listed.size = ops.size
  clo : ∀ i, listed.getD i false = true → ∀ j ∈ afters ops i, listed.getD j false = true
  post : ∀ i, m ≤ i → listed.getD i false = false
  ext : Ext W w
  defs : A.defers = a.defers
  tsz : A.tmps.size = a.tmps.size
  same : ∀ t, (∀ i, i < m → listed.getD i false = true → (ops[i]?).bind (·.dst) ≠ some t) → A.tmps[t]? = a.tmps[t]?
  has : ∀ i d R, listed.getD i false = true → E[i]? = some (d, R) → R (A.tmps.getD d undef) w
  jj : J (fun j => listed.getD j false) (sl A) w
theorem need_listed {listed : Array Bool} (hc : ∀ i, listed.getD i false = true → ∀ j ∈ afters ops i, listed.getD j false = true) : ∀ (f i j : Nat), need ops f i j = true → (∀ k ∈ afters ops i, listed.getD k false = true) → listed.getD j false = true := by
  intro f
  induction f with
  | zero => intro i j h; simp [need] at h
  | succ f ih =>
    intro i j h hi
    simp only [need, List.any_eq_true, Bool.or_eq_true, beq_iff_eq] at h
    obtain ⟨k, hk, rfl | h⟩ := h
    · exact hi _ hk
    · exact ih k j h (hc k (hi k hk))
theorem mem_afters {i j : Nat} : j ∈ afters ops i ↔ ∃ o, ops[i]? = some o ∧ ∃ e ∈ o.after, Region.binds .any e = true ∧ e.on = j := by
  unfold afters
  cases h : ops[i]? with
  | none => simp
  | some o =>
    simp only [List.mem_map, List.mem_filter, Array.mem_toList_iff, Option.some.injEq]
    constructor
    · rintro ⟨e, ⟨h1, h2⟩, h3⟩; exact ⟨o, rfl, e, h1, h2, h3⟩
    · rintro ⟨_, rfl, e, h1, h2, h3⟩; exact ⟨e, ⟨h1, h2⟩, h3⟩
theorem ready_afters {i : Nat} {listed : Array Bool} : i ∈ Region.ready .any ops listed ↔ listed.getD i true = false ∧ (∃ o, ops[i]? = some o) ∧ ∀ j ∈ afters ops i, listed.getD j false = true := by
  rw [mem_ready]
  constructor
  · rintro ⟨h1, o, h2, h3⟩
    refine ⟨h1, ⟨o, h2⟩, fun j hj => ?_⟩
    obtain ⟨o', h4, e, h5, h6, rfl⟩ := mem_afters.1 hj
    rw [h2] at h4; cases h4
    exact h3 e h5 h6
  · rintro ⟨h1, ⟨o, h2⟩, h3⟩
    exact ⟨h1, o, h2, fun e he hb => h3 _ (mem_afters.2 ⟨o, h2, e, he, hb, rfl⟩)⟩
theorem getD_tf {listed : Array Bool} {i : Nat} (h : i < listed.size) : listed.getD i true = listed.getD i false := by
  simp [Array.getD_eq_getD_getElem?, h]
theorem env_get {E : Env} {i : Nat} (h : i < E.length) : ∃ d R, E[i]? = some (d, R) := ⟨E[i].1, E[i].2, by rw [List.getElem?_eq_getElem h]⟩
theorem lookup_getD {E : Env} {t : Tmp} {R : Prop1} (h : E.lookup t = some R) : ∃ i : Nat, E[i]? = some (t, R) := by
  induction E with
  | nil => simp at h
  | cons x xs ih =>
    obtain ⟨d, S⟩ := x
    rw [List.lookup_cons] at h
    cases hb : t == d with
    | true =>
      simp only [hb] at h
      cases h
      exact ⟨0, by simp [eq_of_beq hb]⟩
    | false =>
      simp only [hb] at h
      obtain ⟨i, hi⟩ := ih h
      exact ⟨i + 1, by simpa using hi⟩
theorem lookup_none {E : Env} {t : Tmp} (h : E.lookup t = none) : ∀ (i : Nat) (d : Tmp) (R : Prop1), E[i]? = some (d, R) → d ≠ t := by
  induction E with
  | nil => simp
  | cons x xs ih =>
    obtain ⟨d, S⟩ := x
    rw [List.lookup_cons] at h
    cases hb : t == d with
    | true => simp [hb] at h
    | false =>
      simp only [hb] at h
      intro i d' R hi
      cases i with
      | zero => simp at hi; obtain ⟨rfl, -⟩ := hi; intro e; subst e; simp at hb
      | succ i => exact ih h i d' R (by simpa using hi)
theorem wp_weaken {o : Oper} {A : Act} {w : World} {K : Act → World → Prop} (h : o.wp P A w K (fun _ _ _ => False)) : o.wp P A w K Q := by
  unfold Oper.wp at *
  generalize (execOp A.eval o).run P w = r at *
  cases r with
  | ok n w' =>
    cases n <;> simp only [Oper.upon] at h ⊢
    case enter f args =>
      refine Calls.mono h fun e w'' he => ?_
      cases e with
      | returned u => exact he
      | panicked c => exact he.elim
      | outgrown => obtain ⟨_, _, hf⟩ := he; exact hf.elim
    all_goals exact h
  | halt x w' => cases x <;> simp only [Oper.upon] at h
/-- the ops behind: in the order of the text -/
theorem wpAny_tail {m : Nat} (hlt : ∀ i j, j ∈ afters ops i → j < i) (hpost : ∀ i, m ≤ i → i < ops.size → ∀ j, j < i → need ops i i j = true) : ∀ (n i : Nat) (listed : Array Bool) (A : Act) (w : World), n + i = ops.size → m ≤ i → listed.size = ops.size →
    (∀ j, j < ops.size → listed.getD j false = decide (j < i)) → wpList P ops Q (ops.toList.drop i) A w → wpAny P .any ops Q n listed A w := by
  intro n
  induction n with
  | zero =>
    intro i listed A w hn hm hs hl h
    have hr : Region.ready .any ops listed = [] := by
      rw [List.eq_nil_iff_forall_not_mem]
      intro j hj
      obtain ⟨h1, ⟨o, h2⟩, -⟩ := ready_afters.1 hj
      have hj' : j < ops.size := (Array.getElem?_eq_some_iff.1 h2).1
      rw [getD_tf (by omega), hl j hj'] at h1
      simp at h1; omega
    rw [List.drop_of_length_le (by simp; omega)] at h
    exact ⟨hr, h⟩
  | succ n ih =>
    intro i listed A w hn hm hs hl h
    have hi : i < ops.size := by omega
    have hready : ∀ j, j ∈ Region.ready .any ops listed → j = i := by
      intro j hj
      obtain ⟨h1, ⟨o, h2⟩, h3⟩ := ready_afters.1 hj
      have hj' : j < ops.size := (Array.getElem?_eq_some_iff.1 h2).1
      rw [getD_tf (by omega), hl j hj'] at h1
      simp at h1
      rcases Nat.lt_or_ge i j with h4 | h4
      · have hcl : ∀ i', listed.getD i' false = true → ∀ j ∈ afters ops i', listed.getD j false = true := by
          intro i' hi' k hk
          have hk' := hlt i' k hk
          by_cases hb : i' < ops.size
          · rw [hl i' hb] at hi'
            rw [hl k (by omega)]
            simp at hi' ⊢; omega
          · simp [Array.getD_eq_getD_getElem?, Array.getElem?_eq_none (show listed.size ≤ i' by omega)] at hi'
        have := need_listed hcl j j i (hpost j (by omega) hj' i h4) h3
        rw [hl i hi] at this
        simp at this
      · omega
    have hii : i ∈ Region.ready .any ops listed := by
      rw [ready_afters]
      refine ⟨by rw [getD_tf (by omega), hl i hi]; simp, ⟨ops[i], by simp [hi]⟩, fun j hj => ?_⟩
      have := hlt i j hj
      rw [hl j (by omega)]; simp; exact this
    refine ⟨fun h0 => absurd hii (by rw [h0]; exact List.not_mem_nil), fun j hj => ?_⟩
    obtain rfl := hready j hj
    rw [List.drop_eq_getElem_cons (by simpa using hi)] at h
    have key : ∀ (A' : Act) (w' : World), wpList P ops Q (ops.toList.drop (j + 1)) A' w' → wpAny P .any ops Q n (listed.setIfInBounds j true) A' w' := by
      intro A' w' h'
      refine ih (j + 1) _ A' w' (by omega) (by omega) (by simpa using hs) (fun k hk => ?_) h'
      by_cases hkj : j = k
      · subst hkj; simp [Array.getD_eq_getD_getElem?, hs, hi]
      · rw [getD_set_ne _ hkj, hl k hk]
        simp only [decide_eq_decide]; omega
    unfold wpList at h
    unfold wpOp
    simp only [hi, getElem?_pos]
    simp only [Array.getElem_toList] at h
    split
    · rename_i hw
      rw [if_pos hw] at h
      exact h.imp (Oper.wp_mono key) id
    · rename_i hw
      rw [if_neg hw] at h
      exact key _ _ h
theorem fins_done {K : Act → World → Prop} {w : World} : ∀ (E : Env) (a A : Act), A.defers = a.defers → A.tmps.size = a.tmps.size → (∀ (i : Nat) (d : Tmp) (R : Prop1), E[i]? = some (d, R) → (d < a.tmps.size ∧ R (A.tmps.getD d undef) w) ∨ (a.tmps.size ≤ d ∧ R = Any)) → (∀ t, (∀ (i : Nat) (d : Tmp) (R : Prop1), E[i]? = some (d, R) → d ≠ t) → A.tmps[t]? = a.tmps[t]?) → fins K w E a → K A w := by
  intro E
  induction E with
  | nil =>
    intro a A hd hs _ ht h
    have : A = a := by
      cases A; cases a
      simp only at hd hs ht
      subst hd
      congr 1
      refine Array.ext_getElem? fun i => ht i (by simp)
    subst this; exact h
  | cons x xs ih =>
    obtain ⟨d, R⟩ := x
    intro a A hd hs hh ht h
    rcases hh 0 d R rfl with ⟨h1, h2⟩ | ⟨h1, rfl⟩
    rotate_left
    · have he : a.put (some d) undef = a := by
        cases a
        simp only [Act.put]
        congr 1
        exact Array.setIfInBounds_eq_of_size_le h1
      have h3 := h undef trivial
      rw [he] at h3
      refine ih a A hd hs (fun i d' R' hi => hh (i + 1) d' R' (by simpa using hi)) (fun t hx => ?_) h3
      by_cases hdt : d = t
      · subst hdt
        rw [Array.getElem?_eq_none (by omega), Array.getElem?_eq_none h1]
      · exact ht t fun i d' R' hi => by
          cases i with
          | zero => simp at hi; obtain ⟨rfl, -⟩ := hi; exact hdt
          | succ i => exact hx i d' R' (by simpa using hi)
    refine ih (a.put (some d) (A.tmps.getD d undef)) A hd (by simpa [Act.put] using hs) (fun i d' R' hi => ?_) (fun t hx => ?_) (h _ h2)
    · have := hh (i + 1) d' R' (by simpa using hi)
      simpa [Act.put] using this
    · by_cases hdt : d = t
      · subst hdt
        simp only [Act.put]
        rw [Array.getElem?_setIfInBounds_self_of_lt h1]
        have : d < A.tmps.size := by rw [hs]; exact h1
        simp [Array.getD_eq_getD_getElem?, this]
      · rw [ht t fun i d' R' hi => ?_]
        · simp only [Act.put]; rw [Array.getElem?_setIfInBounds_ne hdt]
        · cases i with
          | zero => simp at hi; obtain ⟨rfl, -⟩ := hi; exact hdt
          | succ i => exact hx i d' R' (by simpa using hi)
theorem wpAny_region_D (m : Nat) (J : Inv) {a : Act} {W : World} (hc : okI ops m = true) (hJ0 : J (fun _ => false) (sl a) W.drew)
    (h : walkI P ops J W a (fun A w => J (fun j => decide (j < m)) (sl A) w → wpList P ops Q (ops.toList.drop m) A w) (ops.toList.take m) []) : wpAny P .any ops Q ops.size (Array.replicate ops.size false) a { W with drawn := W.drawn + 1 } := by
  simp only [okI, Bool.and_eq_true, decide_eq_true_eq, List.all_eq_true, List.mem_range, Bool.or_eq_true] at hc
  obtain ⟨⟨⟨⟨hm1, hsel⟩, hlt'⟩, hpre⟩, hpost'⟩ := hc
  have hlt : ∀ i j, j ∈ afters ops i → j < i := by
    intro i j hj
    by_cases hi : i < ops.size
    · exact hlt' i hi j hj
    · obtain ⟨o, ho, -⟩ := mem_afters.1 hj
      rw [Array.getElem?_eq_none (by omega)] at ho; cases ho
  have hpost : ∀ i, m ≤ i → i < ops.size → ∀ j, j < i → need ops i i j = true := by
    intro i h1 h2 j hj
    rcases hpost' i h2 with h3 | h3
    · omega
    · exact h3 j hj
  obtain ⟨E, e1, e2, e3⟩ := walkI_env (ops := ops) (ops.toList.take m) [] (fun j o hj => by
    rw [List.getElem?_take] at hj
    split at hj
    · simpa using hj
    · cases hj) h
  simp only [List.nil_append, List.length_nil, Nat.zero_add] at e2 e3
  have hEl : E.length = m := by rw [e1]; simp; omega
  have dstE : ∀ (i : Nat) (d : Tmp) (R : Prop1), E[i]? = some (d, R) → Dst a.tmps.size ((ops[i]?).bind (·.dst)) d R ∧ i < m := by
    intro i d R hi
    obtain ⟨o, h1, h2, -⟩ := (e2 i d R hi).go
    exact ⟨by simpa [h1] using h2, by rw [← hEl]; exact (List.getElem?_eq_some_iff.1 hi).1⟩
  have hasE : ∀ (i : Nat) (d : Tmp) (R : Prop1) (A : Act) (w : World), E[i]? = some (d, R) → R (A.tmps.getD d undef) w → (d < a.tmps.size ∧ R (A.tmps.getD d undef) w) ∨ (a.tmps.size ≤ d ∧ R = Any) := by
    intro i d R A w hi hR
    rcases (dstE i d R hi).1 with ⟨-, h⟩ | ⟨-, h⟩
    · exact .inl ⟨h, hR⟩
    · exact .inr h
  have distinct : ∀ (i j : Nat) (d : Tmp), i < m → j < m → (ops[i]?).bind (·.dst) = some d → (ops[j]?).bind (·.dst) = some d → i = j := by
    intro i j d hi hj h1 h2
    have := hpre i hi
    unfold okPre at this
    cases ho : ops[i]? with
    | none => simp [ho] at h1
    | some o =>
      simp only [ho, Option.bind_some] at h1 this
      simp only [h1, Bool.and_eq_true, List.all_eq_true, List.mem_range, Bool.or_eq_true, beq_iff_eq, bne_iff_ne] at this
      rcases this.1 j hj with h3 | h3
      · exact h3.symm
      · exact absurd h2 h3
  have main : ∀ (n : Nat) (listed : Array Bool) (A : Act) (w : World), (List.range ops.size).countP (fun i => !listed.getD i false) = n → InvI ops J m E W a listed A w → wpAny P .any ops Q n listed A w := by
    intro n
    induction n with
    | zero =>
      intro listed A w hn hI
      by_cases hmn : m < ops.size
      · exfalso
        rw [List.countP_eq_zero] at hn
        have := hn m (List.mem_range.2 hmn)
        rw [hI.post m (Nat.le_refl _)] at this
        simp at this
      · have hall : ∀ i, i < ops.size → listed.getD i false = true := by
          intro i hi
          rw [List.countP_eq_zero] at hn
          have := hn i (List.mem_range.2 hi)
          simpa using this
        have hmm : m = ops.size := by omega
        have hall' : ∀ i, i < m → listed.getD i false = true := fun i hi => hall i (by omega)
        refine wpAny_tail (m := m) hlt hpost 0 ops.size listed A w (by omega) (by omega) hI.size (fun j hj => by rw [hall j hj]; simp [hj]) ?_
        have hdist : J (fun j => decide (j < m)) (sl A) w := by
          have e : (fun j => listed.getD j false) = fun j => decide (j < m) := by
            funext j
            by_cases hj : j < m
            · rw [hall' j hj]; simp [hj]
            · rw [hI.post j (by omega)]; simp [hj]
          rw [← e]; exact hI.jj
        have := fins_done E a A hI.defs hI.tsz (fun i d R hi => hasE i d R A w hi (hI.has i d R (hall i (by have := (dstE i d R hi).2; omega)) hi)) (fun t ht => hI.same t fun i hi _ hdi => by
          have hiE : i < E.length := by omega
          obtain ⟨d, R, hx'⟩ := env_get hiE
          rcases (dstE i d R hx').1 with ⟨h5, -⟩ | ⟨h5, -⟩
          · rw [hdi] at h5
            cases h5
            exact ht i _ R hx' rfl
          · rw [hdi] at h5; cases h5) (e3 w hI.ext)
        have := this hdist
        rw [hmm] at this; exact this
    | succ n ih =>
      intro listed A w hn hI
      have hsz := hI.size
      by_cases hall : ∀ i, i < m → listed.getD i false = true
      · -- all of the first part are done
        have hdone := fins_done E a A hI.defs hI.tsz (fun i d R hi => hasE i d R A w hi (hI.has i d R (hall i (dstE i d R hi).2) hi)) (fun t ht => hI.same t fun i hi _ hdi => by
          have hiE : i < E.length := by omega
          obtain ⟨d, R, hx'⟩ := env_get hiE
          rcases (dstE i d R hx').1 with ⟨h5, -⟩ | ⟨h5, -⟩
          · rw [hdi] at h5
            cases h5
            exact ht i _ R hx' rfl
          · rw [hdi] at h5; cases h5) (e3 w hI.ext)
        have hdone := hdone (by
          have e : (fun j => listed.getD j false) = fun j => decide (j < m) := by
            funext j
            by_cases hj : j < m
            · rw [hall j hj]; simp [hj]
            · rw [hI.post j (by omega)]; simp [hj]
          rw [← e]; exact hI.jj)
        have hl : ∀ j, j < ops.size → listed.getD j false = decide (j < m) := by
          intro j hj
          by_cases hjm : j < m
          · rw [hall j hjm]; simp [hjm]
          · rw [hI.post j (by omega)]; simp [hjm]
        have hcount : n + 1 + m = ops.size := by
          have h1 : (List.range ops.size).countP (fun i => !listed.getD i false) = (List.range ops.size).countP (fun i => decide (m ≤ i)) := by
            refine List.countP_congr fun i hi => ?_
            rw [hl i (List.mem_range.1 hi)]
            by_cases hx : i < m <;> simp [hx] <;> omega
          have h2 : ∀ k, (List.range k).countP (fun i => decide (m ≤ i)) = k - m := by
            intro k
            induction k with
            | zero => simp
            | succ k ihk =>
              rw [List.range_succ, List.countP_append, ihk]
              by_cases hx : m ≤ k
              · simp [hx]; omega
              · simp [hx]; omega
          rw [h1, h2] at hn; omega
        exact wpAny_tail (m := m) hlt hpost (n + 1) m listed A w hcount (Nat.le_refl _) hsz hl hdone
      · refine ⟨fun h0 => ?_, fun i hi => ?_⟩
        · -- some op is ready
          exfalso
          apply hall
          intro i
          induction i using Nat.strongRecOn with
          | ind i ihi =>
            intro him
            cases hx : listed.getD i false with
            | true => rfl
            | false =>
              have : i ∈ Region.ready .any ops listed := by
                rw [ready_afters]
                refine ⟨by rw [getD_tf (by omega)]; exact hx, ⟨ops[i]'(by omega), by simp [show i < ops.size by omega]⟩, fun j hj => ?_⟩
                have := hlt i j hj
                exact ihi j this (by omega)
              rw [h0] at this; cases this
        · obtain ⟨h1, ⟨oi, h2⟩, h3⟩ := ready_afters.1 hi
          have hio : i < ops.size := (Array.getElem?_eq_some_iff.1 h2).1
          have him : i < m := by
            rcases Nat.lt_or_ge i m with h | h
            · exact h
            · exfalso
              apply hall
              intro j hj
              exact need_listed hI.clo i i j (hpost i h hio j (by omega)) h3
          rw [getD_tf (by omega)] at h1
          have hiE : i < E.length := by omega
          obtain ⟨d, R, hx'⟩ := env_get hiE
          have hst := e2 i d R hx'
          obtain ⟨o', ho', hdst, hdo⟩ := hst.go
          obtain rfl : o' = oi := by rw [h2] at ho'; exact (Option.some.inj ho').symm
          have hok := hpre i him
          simp only [okPre, h2, Bool.and_eq_true, List.all_eq_true, List.mem_range, Bool.or_eq_true, beq_iff_eq, bne_iff_ne, List.contains_iff_mem] at hok
          -- what the operands are
          have hslot : ∀ t, t ∈ o'.looksAt ops → (∀ R', (E.take i).lookup t = some R' → R' (A.tmps.getD t undef) w) ∧ ((E.take i).lookup t = none → A.tmps[t]? = a.tmps[t]?) := by
            intro t ht
            refine ⟨fun R' hR' => ?_, fun hn' => ?_⟩
            · obtain ⟨j, hj⟩ := lookup_getD hR'
              have hji : j < i := by
                have := (List.getElem?_eq_some_iff.1 hj).1
                rw [List.length_take] at this; omega
              rw [List.getElem?_take, if_pos hji] at hj
              obtain ⟨hdj, hjm⟩ := dstE j t R' hj
              rcases hdj with ⟨hdj, -⟩ | ⟨-, -, rfl⟩
              · rcases hok.2 t ht j hjm with h4 | h4
                · exact absurd hdj h4
                · exact hI.has j t R' (h3 j h4) hj
              · trivial
            · refine hI.same t fun j hj hlj hdj => ?_
              rcases hok.2 t ht j hj with h4 | h4
              · exact h4 hdj
              · have hji := hlt i j h4
                have hjE : j < E.length := by omega
                obtain ⟨d', R', hy'⟩ := env_get hjE
                rcases (dstE j d' R' hy').1 with ⟨h5, -⟩ | ⟨h5, -⟩
                · rw [hdj] at h5
                  cases h5
                  exact lookup_none hn' j t R' (by rw [List.getElem?_take, if_pos hji]; exact hy') rfl
                · rw [hdj] at h5; cases h5
          have hknow : ∀ l : List Operand, (∀ x ∈ l, ∀ t, x = .tmp t → t ∈ o'.looksAt ops) → knows A a w (E.take i) l := by
            intro l
            induction l with
            | nil => intro _; trivial
            | cons x xs ihx =>
              intro hl
              refine ⟨?_, ihx fun y hy => hl y (by simp [hy])⟩
              cases x with
              | tmp t =>
                have hs := hslot t (hl _ (by simp) t rfl)
                simp only []
                cases hlk : (E.take i).lookup t with
                | some R' =>
                  simp only []
                  have := hs.1 R' hlk
                  simpa [Act.eval] using this
                | none =>
                  simp only []
                  have := hs.2 hlk
                  simp only [Act.eval, Array.getD_eq_getD_getElem?, this]
              | _ => rfl
          have hops : knows A a w (E.take i) o'.op.operands.toList := hknow _ fun x hx t ht => by
            subst ht
            exact List.mem_append_left _ (List.mem_filterMap.2 ⟨.tmp t, hx, rfl⟩)
          -- behind it
          have key : ∀ v w', Ext W w' → R v w' → J (upd (fun j => listed.getD j false) i) (sputO (sl A) o'.dst v) w' → wpAny P .any ops Q n (listed.setIfInBounds i true) (A.put o'.dst v) w' := by
            intro v w' hww hR hjj
            refine ih _ _ _ ?_ ?_
            · have h6 : (List.range ops.size).countP (fun k => !listed.getD k false) = (List.range ops.size).countP (fun k => !(listed.setIfInBounds i true).getD k false) + 1 := by
                have gen : ∀ (l : List Nat), l.Nodup → i ∈ l → l.countP (fun k => !listed.getD k false) = l.countP (fun k => !(listed.setIfInBounds i true).getD k false) + 1 := by
                  intro l
                  induction l with
                  | nil => intro _ h; cases h
                  | cons x xs ihl =>
                    intro hnd hmem
                    rw [List.nodup_cons] at hnd
                    rcases List.mem_cons.1 hmem with rfl | hmem
                    · have h7 : xs.countP (fun k => !listed.getD k false) = xs.countP (fun k => !(listed.setIfInBounds i true).getD k false) := by
                        refine List.countP_congr fun k hk => ?_
                        rw [getD_set_ne _ (fun e => hnd.1 (by rw [e]; exact hk))]
                      rw [List.countP_cons, List.countP_cons, h7]
                      have h8 : (listed.setIfInBounds i true).getD i false = true := by simp [Array.getD_eq_getD_getElem?, show i < listed.size by omega]
                      rw [h1, h8]; simp
                    · have hne : i ≠ x := fun e => hnd.1 (by rw [← e]; exact hmem)
                      rw [List.countP_cons, List.countP_cons, ihl hnd.2 hmem, getD_set_ne _ hne]; omega
                exact gen _ List.nodup_range (List.mem_range.2 hio)
              omega
            · refine ⟨by simpa using hI.size, fun k hk j hj => ?_, fun k hk => ?_, hww, ?_, ?_, fun t ht => ?_, fun k d' R' hk hE' => ?_, ?_⟩
              · by_cases hki : i = k
                · subst hki
                  have := h3 j hj
                  exact getD_set_true this
                · rw [getD_set_ne _ hki] at hk
                  exact getD_set_true (hI.clo k hk j hj)
              · rw [getD_set_ne _ (by omega)]; exact hI.post k hk
              · cases o'.dst with
                | none => exact hI.defs
                | some d => exact hI.defs
              · cases o'.dst with
                | none => exact hI.tsz
                | some d => simpa [Act.put] using hI.tsz
              · rcases hdst with ⟨hdst, hdl⟩ | ⟨hdst, -⟩
                · have hdt : d ≠ t := by
                    intro e; subst e
                    exact ht i him (by simp [Array.getD_eq_getD_getElem?, show i < listed.size by omega]) (by simp [h2, hdst])
                  rw [hdst]
                  simp only [Act.put]
                  rw [Array.getElem?_setIfInBounds_ne hdt]
                  exact hI.same t fun k hk hlk => ht k hk (getD_set_true hlk)
                · rw [hdst]
                  exact hI.same t fun k hk hlk => ht k hk (getD_set_true hlk)
              · by_cases hki : i = k
                · subst hki
                  rw [hx'] at hE'
                  cases hE'
                  rcases hdst with ⟨hdst, hdl⟩ | ⟨hdst, -, rfl⟩
                  · have hdA : d < A.tmps.size := by rw [hI.tsz]; exact hdl
                    rw [hdst]
                    simp only [Act.put]
                    have : (A.tmps.setIfInBounds d v).getD d undef = v := by simp [Array.getD_eq_getD_getElem?, hdA]
                    rw [this]; exact hR
                  · trivial
                · rw [getD_set_ne _ hki] at hk
                  have h7 := hI.has k d' R' hk hE'
                  rcases hdst with ⟨hdst, hdl⟩ | ⟨hdst, -⟩
                  · rcases (dstE k d' R' hE').1 with ⟨h8, -⟩ | ⟨-, -, rfl⟩
                    · have hne : d ≠ d' := fun e => by
                        subst e
                        exact hki (distinct i k d him (dstE k d R' hE').2 (by simp [h2, hdst]) h8)
                      rw [hdst]
                      simp only [Act.put]
                      have : (A.tmps.setIfInBounds d v).getD d' undef = A.tmps.getD d' undef := by simp [Array.getD_eq_getD_getElem?, Array.getElem?_setIfInBounds_ne hne]
                      rw [this]
                      exact (e2 k d' R' hE').st _ _ _ h7
                    · trivial
                  · rw [hdst]
                    exact (e2 k d' R' hE').st _ _ _ h7
              · have e1 : (fun j => (listed.setIfInBounds i true).getD j false) = upd (fun j => listed.getD j false) i := by
                  funext j
                  unfold upd
                  by_cases hji : j = i
                  · subst hji; simp [Array.getD_eq_getD_getElem?, show j < listed.size by omega]
                  · rw [getD_set_ne _ (fun e => hji e.symm)]; simp [hji]
                have e2' : sl (A.put o'.dst v) = sputO (sl A) o'.dst v := by
                  rcases hdst with ⟨hdst, hdl⟩ | ⟨hdst, -⟩
                  · have hdA : d < A.tmps.size := by rw [hI.tsz]; exact hdl
                    rw [hdst]
                    funext t
                    unfold sl sputO sput
                    simp only [Act.put]
                    by_cases htd : t = d
                    · subst htd; simp [Array.getD_eq_getD_getElem?, hdA]
                    · rw [if_neg htd]; simp [Array.getD_eq_getD_getElem?, Array.getElem?_setIfInBounds_ne (fun e => htd e.symm)]
                  · rw [hdst]; rfl
                rw [e1, e2']; exact hjj
          unfold wpOp
          simp only [h2]
          obtain ⟨hg, hr⟩ := hdo
          rw [if_pos (by simp [Region.wanted, hg])]
          exact .inl (wp_weaken (hr A w _ hI.ext hI.jj h1 h3 hops _ key))
  have h0 : (List.range ops.size).countP (fun i => !(Array.replicate ops.size false).getD i false) = ops.size := by
    have : (List.range ops.size).countP (fun i => !(Array.replicate ops.size false).getD i false) = (List.range ops.size).length := by
      rw [List.countP_eq_length]
      intro i hi
      have := List.mem_range.1 hi
      simp [Array.getD_eq_getD_getElem?, this]
    rw [this, List.length_range]
  have hf : ∀ i, (Array.replicate ops.size false).getD i false = false := by
    intro i
    by_cases h : i < ops.size
    · simp [Array.getD_eq_getD_getElem?, h]
    · simp [Array.getD_eq_getD_getElem?, Array.getElem?_eq_none, show ops.size ≤ i by omega]
  have ef : (fun j => (Array.replicate ops.size false).getD j false) = fun _ => false := funext hf
  exact main ops.size _ a _ h0 ⟨by simp, fun i hi => absurd hi (by rw [hf]; simp), fun i _ => hf i, (Ext.rfl' W).drew', rfl, rfl, fun _ _ => rfl, fun i d R hi => absurd hi (by rw [hf]; simp), by rw [ef]; exact hJ0⟩
theorem wp_region_J (m : Nat) (J : Inv) {id : Nat} {a : Act} {W : World} (hm : P.follows .mixedOrders = true) (hc : okI ops m = true) (hJ0 : J (fun _ => false) (sl a) W.drew)
    (h : walkI P ops J W a (fun A w => J (fun j => decide (j < m)) (sl A) w → wpList P ops Q (ops.toList.drop m) A w) (ops.toList.take m) []) : (Code.region id ops true).wp P Q a W :=
  wp_region_any hm (wpAny_region_D m J hc hJ0 h)
/-- a fixed value -/
abbrev Is (u : Value) : Prop1 := fun v _ => v = u
/-- an operation that the state tells of -/
theorem walkI_step {J : Inv} {W : World} {a : Act} {K : Act → World → Prop} {o : Oper} {rest : List Oper} {E : Env} {d : Tmp} (hd : o.dst = some d) (hl : d < a.tmps.size) (hg : o.guard = none)
    (hr : ∀ A w dn, Ext W w → J dn (sl A) w → dn E.length = false → (∀ j ∈ afters ops E.length, dn j = true) → knows A a w E o.op.operands.toList → ∀ K : Act → World → Prop, (∀ v w', Ext W w' → J (upd dn E.length) (sput (sl A) d v) w' → K (A.put (some d) v) w') → o.wp P A w K (fun _ _ _ => False))
    (h : walkI P ops J W a K rest (E ++ [(d, Any)])) : walkI P ops J W a K (o :: rest) E :=
  ⟨d, Any, .inl ⟨hd, hl⟩, fun _ _ _ h => h, ⟨hg, by
    unfold RunsI; rw [hd]
    exact fun A w dn h1 h2 h3 h4 h5 K hK => hr A w dn h1 h2 h3 h4 h5 K fun v w' g1 g2 => hK v w' g1 trivial g2⟩, h⟩
/-- an operation of a fixed value, that leaves the world alone -/
theorem walkI_is {J : Inv} {W : World} {a : Act} {K : Act → World → Prop} {o : Oper} {rest : List Oper} {E : Env} {d : Tmp} {u : Value} (hd : o.dst = some d) (hl : d < a.tmps.size) (hg : o.guard = none)
    (hj : ∀ dn s w, J dn s w → J (upd dn E.length) (sput s d u) w)
    (hr : ∀ A w dn, Ext W w → J dn (sl A) w → (∀ j ∈ afters ops E.length, dn j = true) → knows A a w E o.op.operands.toList → ∀ K : Act → World → Prop, K (A.put (some d) u) w → o.wp P A w K (fun _ _ _ => False))
    (h : walkI P ops J W a K rest (E ++ [(d, Is u)])) : walkI P ops J W a K (o :: rest) E :=
  ⟨d, Is u, .inl ⟨hd, hl⟩, fun _ _ _ h => h, ⟨hg, by
    unfold RunsI; rw [hd]
    exact fun A w dn h1 h2 _ h4 h5 K hK => hr A w dn h1 h2 h4 h5 K (hK u w h1 rfl (hj _ _ _ h2))⟩, h⟩
/-- an operation that bears no slot (a store): the state tells of it -/
theorem walkI_none {J : Inv} {W : World} {a : Act} {K : Act → World → Prop} {o : Oper} {rest : List Oper} {E : Env} (n : Nat) (hd : o.dst = none) (hn : a.tmps.size ≤ n) (hg : o.guard = none)
    (hr : ∀ A w dn, Ext W w → J dn (sl A) w → dn E.length = false → (∀ j ∈ afters ops E.length, dn j = true) → knows A a w E o.op.operands.toList → ∀ K : Act → World → Prop, (∀ w', Ext W w' → J (upd dn E.length) (sl A) w' → K A w') → o.wp P A w K (fun _ _ _ => False))
    (h : walkI P ops J W a K rest (E ++ [(n, Any)])) : walkI P ops J W a K (o :: rest) E :=
  ⟨n, Any, .inr ⟨hd, hn, rfl⟩, fun _ _ _ h => h, ⟨hg, by
    unfold RunsI; rw [hd]
    exact fun A w dn h1 h2 h3 h4 h5 K hK => hr A w dn h1 h2 h3 h4 h5 K fun w' g1 g2 => hK undef w' g1 trivial g2⟩, h⟩
theorem walkI_nil {J : Inv} {W : World} {a : Act} {K : Act → World → Prop} {E : Env} (h : ∀ w, Ext W w → fins K w E a) : walkI P ops J W a K [] E := h
end
end Go.Proofs.YtnhcplmcddlgnaaGreat.Pj
namespace Go.Proofs.YtnhcplmcddlgnaaGreat
open Go.RowKit
set_option linter.unusedSimpArgs false
set_option linter.unusedVariables false
end Go.Proofs.YtnhcplmcddlgnaaGreat
namespace Go.Proofs.YtnhcplmcddlgnaaGreat
open Go.RowKit Go.Shelf
set_option linter.unusedSimpArgs false
set_option linter.unusedVariables false
section
variable {α : Type} {E : PH → List Value → α → Prop} {sz : Nat} {H : PH} {T : TypeId} {v : Value}
end
end Go.Proofs.YtnhcplmcddlgnaaGreat
