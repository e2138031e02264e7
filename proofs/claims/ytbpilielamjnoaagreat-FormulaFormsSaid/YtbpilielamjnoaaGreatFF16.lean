/- Lemmas for FF, part 17: the reference of package formula: pushed, and more. -/
import Derived.Test.YtbpilielamjnoaaGreatFF05
import Derived.Test.YtbpilielamjnoaaGreatFF08
import Derived.Test.YtbpilielamjnoaaGreatFF09
import Derived.Test.YtbpilielamjnoaaGreatFF10
import Derived.Test.YtbpilielamjnoaaGreatFF11
import Derived.Test.YtbpilielamjnoaaGreatFF13
import Derived.Test.YtbpilielamjnoaaGreatFF14
set_option linter.unusedSimpArgs false
set_option linter.unusedVariables false
namespace Go.Proofs.YtbpilielamjnoaaGreat
open Go.RowKit Go.Shelf
def pushB (neg : Bool) (f : Fm) : Fm := if neg then pushN f else pushP f
set_option maxRecDepth 100000 in
set_option maxHeartbeats 4000000 in
theorem rpushed_c (f : Fm) : ∀ (neg : Bool) (H : PH) (cs : List Value) (w : World), PLe H (ph w) → FmR H cs f → wholeB f = true → f.bulk ≤ 400000 → Calls Tryz.prog 64 #[.agg cs.toArray, .bool neg] w (NewF w H (pushB neg f)) := by
  induction f using Fm.ind with
  | h f ih =>
    intro neg H cs w hl hr hw hb
    obtain ⟨a3, c3, a4, c4, rfl, i1, i2, -, hlen4, hfi, hfk⟩ := hr.form
    have hkl := f.kids_le
    have hwk : ∀ x ∈ f.kids, wholeB x = true := by
      rw [wholeB_eq, Bool.and_eq_true, List.all_eq_true] at hw; exact hw.2
    have hform : formed1 f = true := by
      rw [wholeB_eq, Bool.and_eq_true] at hw; exact hw.1
    have hbk : ∀ x ∈ f.kids, x.bulk ≤ 400000 := fun x hx => by
      have h1 := f.bulk_eq
      have h2 : x.bulk ≤ sumN Fm.bulk f.kids := sumN_mem Fm.bulk hx
      omega
    have HI := Lib.hid (fun x hx neg H cs w a b => ih x hx neg H cs w a b (hwk x hx) (hbk x hx))
    clear ih hw hwk hbk
    unfold fmC
    have hM0 := ((Mem.start w H hl).new' #[.int .i64 f.op, .int .i64 f.n, .slice a3 f.inn.length c3, .slice a4 f.kids.length c4] 29 (n := w.heap.size) rfl).new' #[.int .i64 0, .int .i64 0, .slice none 0 0, .slice none 0 0] 29 (n := w.heap.size + 1) (by simp)
    simp only [List.cons_append, List.nil_append] at hM0
    have one : f.op = 6 → ∃ g0, f.kids = [g0] := by
      intro q
      obtain ⟨op, n, inn, kids⟩ := f
      simp only [Fm.op, Fm.kids] at *
      subst q
      have hl : kids.length = 1 := by
        rw [formed1_mk] at hform
        split at hform
        · cases hform
        · simpa using hform
      exact List.length_eq_one_iff.1 hl
    go_enter Tryz.func64, Tryz.ntmps64
    go_upto_region 1 with (fail)
    generalize World.alloc _ _ = w1 at *
    generalize hg4 : w.heap.size + 1 = g4 at *
    generalize hg2 : w.heap.size = g2 at *
    by_cases q6 : f.op = 6
    · have b6 : (f.op == 6) = true := by simpa using q6
      obtain ⟨g0, hk0⟩ := one q6
      have hv : Hid (pushB neg f = pushB (!neg) g0) := by
        show _ = _
        unfold pushB
        cases neg
        · simp [pushP_eq f, q6, hk0, pushNF]
        · simp [pushN_eq f, q6, hk0, pushPF]
      have u0 : w1.cell? ⟨g2, 0, none⟩ = some (.int .i64 f.op) := (hM0.box 0 rfl).facts.1 0
      have u3 : w1.cell? ⟨g2, 3, none⟩ = some (.slice a4 f.kids.length c4) := (hM0.box 0 rfl).facts.1 3
      have ul := (hM0.box 0 rfl).lt
      obtain ⟨kb, ko, k3, m3, k4, m4, ek, z0, z1, z2, z3, hE, zl⟩ := FmsR.atH hfk (hM0.le.trans hM0.ple) 0 (by rw [hk0]; simp)
      cases ek
      have hg0 : f.kids[0]'(by rw [hk0]; simp) = g0 := by simp [hk0]
      rw [hg0] at z0 z1 z2 z3 hE
      simp only [Nat.zero_mul, Nat.add_zero] at z0 z1 z2 z3
      have hkl : f.kids.length = 1 := by rw [hk0]; rfl
      rw [hkl] at u3
      have hHx := HI.out g0 (by rw [hk0]; simp) (!neg) _ _ w1 hM0.ple (mono_FmR _ _ _ _ hM0.le hE)
      unfold fmC at hHx
      have hb0 : (0 : Nat) < 1 := by omega
      clear q6 hkl hg0 one hE
      go_wp2_with fail
      refine hHx.mono ?_
      rintro e w4 ⟨p3, q3, p4, q4, rfl, hx4, hQ⟩
      have hM5 := hM0.up hx4
      rw [← hv.out] at hQ ⊢
      generalize pushB neg f = R at *
      generalize up H w1 w4 = H4 at *
      clear hM0 hx4 u0 u3 ul z0 z1 z2 z3 zl hHx
      have rz0 : _ = some (Value.int .i64 0) := (hM5.box 1 rfl).facts.1 0
      have rz1 : _ = some (Value.int .i64 0) := (hM5.box 1 rfl).facts.1 1
      have rz2 : _ = some (Value.slice none 0 0) := (hM5.box 1 rfl).facts.1 2
      have rz3 : _ = some (Value.slice none 0 0) := (hM5.box 1 rfl).facts.1 3
      obtain ⟨-, rzf⟩ := (hM5.box 1 rfl).facts
      have rzl := (hM5.box 1 rfl).lt
      have hM8 := hM5.set4 1 rfl (.int .i64 R.op) (.int .i64 R.n) (.slice p3 R.inn.length q3) (.slice p4 R.kids.length q4)
      simp only [List.set_cons_zero, List.set_cons_succ] at hM8
      clear hM5
      go_wp2_with fail
      generalize World.setCell _ _ _ = w9 at *
      obtain ⟨rq', -⟩ := (hM8.box 1 rfl).facts
      have rq0 : _ = some ((.int .i64 R.op) : Value) := rq' 0
      have rq1 : _ = some ((.int .i64 R.n) : Value) := rq' 1
      have rq2 : _ = some ((.slice p3 R.inn.length q3) : Value) := rq' 2
      have rq3 : _ = some ((.slice p4 R.kids.length q4) : Value) := rq' 3
      refine bodyPost_ret (v := .agg #[(.int .i64 R.op), (.int .i64 R.n), (.slice p3 R.inn.length q3), (.slice p4 R.kids.length q4)]) (by simp [results, Tryz.results64, go_sem, rq0, rq1, rq2, rq3]) rfl ?_
      exact ⟨p3, q3, p4, q4, rfl, hM8.ex, mono_FmR _ _ _ _ hM8.ub hQ⟩
    · have b6 : (f.op == 6) = false := by simpa using q6
      clear one
      cases neg with
      | false =>
        have hv : Hid (pushB false f = .mk f.op f.n f.inn (f.kids.map (pushB false))) := by
          show _ = _
          show pushP f = _
          rw [pushP_eq, if_neg q6]; rfl
        have hM2 := hM0.nil mono_FmR 4 29
        simp only [List.cons_append, List.nil_append] at hM2
        have u0 : w1.cell? ⟨g2, 0, none⟩ = some (.int .i64 f.op) := (hM0.box 0 rfl).facts.1 0
        have ul := (hM0.box 0 rfl).lt
        clear hM0
        go_wp2_with fail
        go_loopw [6, 7] (fun v i wr => ∃ (k : Nat) (out : List Fm) (H' : PH), k ≤ f.kids.length ∧ i = .int .i64 k ∧ Mem w H [box g2 #[.int .i64 f.op, .int .i64 f.n, .slice a3 f.inn.length c3, .slice a4 f.kids.length c4] 29, box g4 #[.int .i64 0, .int .i64 0, .slice none 0 0, .slice none 0 0] 29, own mono_FmR 4 29 v out] H' wr ∧ Hid (out = (f.kids.take k).map (pushB false)) ∧ out.length ≤ 1000000) (fun _ i _ => f.kids.length - (intOf i).toNat)
        case atStart => exact ⟨0, [], H, by omega, rfl, hM2, Lib.hid (by simp), by simp⟩
        case round =>
          clear hM2 u0 ul
          obtain ⟨k, out, H', hk2, rfl, hM, hout, hol⟩ := hrel
          obtain ⟨va, vc, rfl, -⟩ := hM.form 2 rfl
          have u3 : wr.cell? ⟨g2, 3, none⟩ = some (.slice a4 f.kids.length c4) := (hM.box 0 rfl).facts.1 3
          have ul := (hM.box 0 rfl).lt
          by_cases hlt : k < f.kids.length
          · obtain ⟨kb, ko, k3, m3, k4, m4, ek, z0, z1, z2, z3, hE, zl⟩ := FmsR.atH hfk (hM.le.trans hM.ple) k hlt
            cases ek
            have htk : Hid ((f.kids.take (k + 1)).map (pushB false) = (f.kids.take k).map (pushB false) ++ [pushB false f.kids[k]]) := by
              show _ = _
              rw [List.take_succ_eq_append_getElem hlt, List.map_append]; rfl
            have hHx := HI.out f.kids[k] (List.getElem_mem hlt) false
            generalize f.kids[k] = x at *
            have hH2 := hHx H' _ wr hM.ple (mono_FmR _ _ _ _ hM.le hE)
            unfold fmC at hH2
            clear hHx hE
            go_wp2_with fail
            refine hH2.mono ?_
            rintro e w4 ⟨p3, q3, p4, q4, rfl, hx4, hQ⟩
            have hM4 := hM.up hx4
            generalize up H' wr w4 = H4 at *
            clear hM hx4 hH2 u3 ul z0 z1 z2 z3 zl
            generalize pushB false x = g at *
            unfold fmC at hQ
            have hM5 := hM4.ext (Ext.new w4 (.cells #[.int .i64 g.op, .int .i64 g.n, .slice p3 g.inn.length q3, .slice p4 g.kids.length q4] 29))
            have hS := Src.lit1 (E := FmR) (H := H4) (w := w4.alloc (.cells #[.int .i64 g.op, .int .i64 g.n, .slice p3 g.inn.length q3, .slice p4 g.kids.length q4] 29)) (b := w4.heap.size) (sz := 4) hQ rfl (fun j => by rw [(Proofs.YtbpilielamjnoaaGreat.Own.new w4 #[.int .i64 g.op, .int .i64 g.n, .slice p3 g.inn.length q3, .slice p4 g.kids.length q4] 29).facts.1 j]; simp)
            clear hM4
            go_wp2_with (first | (at_builtin; refine wpList_append_M 2 rfl _ _ 23 rfl Tryz.underlying23 infoFm rfl rfl rfl hM5 rfl hS one_FmR (by simp; omega) (by simp; omega) ?c5))
            case c5 =>
            intro v' w' hM6
            try simp only [List.set_cons_zero, List.set_cons_succ] at hM6
            clear hM5 hS
            obtain ⟨na, nc, rfl, -⟩ := hM6.form 2 rfl
            have hol2 : out.length = k := by rw [hout.out, List.length_map, List.length_take]; omega
            go_wp2_with fail
            go_roundw
            case rel => exact ⟨k + 1, out ++ [g], H4, by omega, by go_num, hM6, Lib.hid (by rw [htk.out, hout.out]), by simp; omega⟩
            case measure => simp [intOf]; omega
          · obtain rfl : k = f.kids.length := by omega
            have e3 := (hM.box 0 rfl).facts.2 3
            obtain ⟨H5, hl5, hM5, hR5⟩ := hM.freezeS 2 rfl
            replace hM5 := hM5.pick [0, 1] (by decide)
            simp only [List.set_cons_succ, List.set_cons_zero, List.map_cons, List.map_nil, List.getElem?_cons_zero, List.getElem?_cons_succ, Option.getD_some] at hM5
            have hout' : Hid (out = f.kids.map (pushB false)) := by
              show _ = _
              rw [hout.out, List.take_length]
            have hfi5 := hfi.mono mono_ItvR hM5.le
            clear hM hout
            have hM7 := hM5.set 0 rfl 3 (.slice va out.length vc)
            simp only [List.set_cons_zero, List.setIfInBounds_toArray, List.set_cons_succ] at hM7
            clear hM5
            go_upto_region 10 with (fail)
            generalize World.setCell _ _ _ = w5 at *
            clear u3 e3 ul
            have u0 : _ = some (Value.int .i64 f.op) := (hM7.box 0 rfl).facts.1 0
            have u1 : _ = some (Value.int .i64 f.n) := (hM7.box 0 rfl).facts.1 1
            have u2 : _ = some (Value.slice a3 f.inn.length c3) := (hM7.box 0 rfl).facts.1 2
            have u3 : _ = some (Value.slice va out.length vc) := (hM7.box 0 rfl).facts.1 3
            have e0 := (hM7.box 0 rfl).facts.2 0
            have ul := (hM7.box 0 rfl).lt
            have rz0 : _ = some (Value.int .i64 0) := (hM7.box 1 rfl).facts.1 0
            have rz1 : _ = some (Value.int .i64 0) := (hM7.box 1 rfl).facts.1 1
            have rz2 : _ = some (Value.slice none 0 0) := (hM7.box 1 rfl).facts.1 2
            have rz3 : _ = some (Value.slice none 0 0) := (hM7.box 1 rfl).facts.1 3
            obtain ⟨-, rzf⟩ := (hM7.box 1 rfl).facts
            have rzl := (hM7.box 1 rfl).lt
            have hM8 := hM7.set4 1 rfl (.int .i64 f.op) (.int .i64 f.n) (.slice a3 f.inn.length c3) (.slice va out.length vc)
            simp only [List.set_cons_zero, List.set_cons_succ] at hM8
            clear hM7
            go_wp2_with fail
            generalize World.setCell _ _ _ = w9 at *
            obtain ⟨rq', -⟩ := (hM8.box 1 rfl).facts
            have rq0 : _ = some ((.int .i64 f.op) : Value) := rq' 0
            have rq1 : _ = some ((.int .i64 f.n) : Value) := rq' 1
            have rq2 : _ = some ((.slice a3 f.inn.length c3) : Value) := rq' 2
            have rq3 : _ = some ((.slice va out.length vc) : Value) := rq' 3
            refine bodyPost_ret (v := .agg #[(.int .i64 f.op), (.int .i64 f.n), (.slice a3 f.inn.length c3), (.slice va out.length vc)]) (by simp [results, Tryz.results64, go_sem, rq0, rq1, rq2, rq3]) rfl ?_
            obtain rfl := hout'.out
            rw [hv.out]
            exact ⟨a3, c3, va, vc, rfl, hM8.ex, mono_FmR _ _ _ _ hM8.ub (FmR.of (f := .mk f.op f.n f.inn (f.kids.map (pushB false))) i1 i2 hfi5 hR5)⟩
      | true =>
        by_cases q3 : f.op = 3
        · have b3 : (f.op != 3) = false := by simpa using q3
          have hv : Hid (pushB true f = .mk 6 0 [] [.mk f.op f.n f.inn (f.kids.map (pushB false))]) := by
            show _ = _
            show pushN f = _
            rw [pushN_eq, if_neg (by omega), if_neg q6, if_neg (by rw [q3]; simp), if_neg (by omega), if_neg (by omega)]; rfl
          have k0 : (f.op == 0) = false := by simp; omega
          have k4 : (f.op == 4) = false := by simp; omega
          have k5 : (f.op == 5) = false := by simp; omega
          clear q3 q6
          have hM2 := hM0.nil mono_FmR 4 29
          simp only [List.cons_append, List.nil_append] at hM2
          have u0 : w1.cell? ⟨g2, 0, none⟩ = some (.int .i64 f.op) := (hM0.box 0 rfl).facts.1 0
          have ul := (hM0.box 0 rfl).lt
          clear hM0
          go_wp2_with fail
          go_loopw [6, 7] (fun v i wr => ∃ (k : Nat) (out : List Fm) (H' : PH), k ≤ f.kids.length ∧ i = .int .i64 k ∧ Mem w H [box g2 #[.int .i64 f.op, .int .i64 f.n, .slice a3 f.inn.length c3, .slice a4 f.kids.length c4] 29, box g4 #[.int .i64 0, .int .i64 0, .slice none 0 0, .slice none 0 0] 29, own mono_FmR 4 29 v out] H' wr ∧ Hid (out = (f.kids.take k).map (pushB false)) ∧ out.length ≤ 1000000) (fun _ i _ => f.kids.length - (intOf i).toNat)
          case atStart => exact ⟨0, [], H, by omega, rfl, hM2, Lib.hid (by simp), by simp⟩
          case round =>
            clear hM2 u0 ul
            obtain ⟨k, out, H', hk2, rfl, hM, hout, hol⟩ := hrel
            obtain ⟨va, vc, rfl, -⟩ := hM.form 2 rfl
            have u3 : wr.cell? ⟨g2, 3, none⟩ = some (.slice a4 f.kids.length c4) := (hM.box 0 rfl).facts.1 3
            have ul := (hM.box 0 rfl).lt
            by_cases hlt : k < f.kids.length
            · obtain ⟨kb, ko, k3, m3, k4, m4, ek, z0, z1, z2, z3, hE, zl⟩ := FmsR.atH hfk (hM.le.trans hM.ple) k hlt
              cases ek
              have htk : Hid ((f.kids.take (k + 1)).map (pushB false) = (f.kids.take k).map (pushB false) ++ [pushB false f.kids[k]]) := by
                show _ = _
                rw [List.take_succ_eq_append_getElem hlt, List.map_append]; rfl
              have hHx := HI.out f.kids[k] (List.getElem_mem hlt) false
              generalize f.kids[k] = x at *
              have hH2 := hHx H' _ wr hM.ple (mono_FmR _ _ _ _ hM.le hE)
              unfold fmC at hH2
              clear hHx hE
              go_wp2_with fail
              refine hH2.mono ?_
              rintro e w4 ⟨p3, q3, p4, q4, rfl, hx4, hQ⟩
              have hM4 := hM.up hx4
              generalize up H' wr w4 = H4 at *
              clear hM hx4 hH2 u3 ul z0 z1 z2 z3 zl
              generalize pushB false x = g at *
              unfold fmC at hQ
              have hM5 := hM4.ext (Ext.new w4 (.cells #[.int .i64 g.op, .int .i64 g.n, .slice p3 g.inn.length q3, .slice p4 g.kids.length q4] 29))
              have hS := Src.lit1 (E := FmR) (H := H4) (w := w4.alloc (.cells #[.int .i64 g.op, .int .i64 g.n, .slice p3 g.inn.length q3, .slice p4 g.kids.length q4] 29)) (b := w4.heap.size) (sz := 4) hQ rfl (fun j => by rw [(Proofs.YtbpilielamjnoaaGreat.Own.new w4 #[.int .i64 g.op, .int .i64 g.n, .slice p3 g.inn.length q3, .slice p4 g.kids.length q4] 29).facts.1 j]; simp)
              clear hM4
              go_wp2_with (first | (at_builtin; refine wpList_append_M 2 rfl _ _ 23 rfl Tryz.underlying23 infoFm rfl rfl rfl hM5 rfl hS one_FmR (by simp; omega) (by simp; omega) ?c5))
              case c5 =>
              intro v' w' hM6
              try simp only [List.set_cons_zero, List.set_cons_succ] at hM6
              clear hM5 hS
              obtain ⟨na, nc, rfl, -⟩ := hM6.form 2 rfl
              have hol2 : out.length = k := by rw [hout.out, List.length_map, List.length_take]; omega
              go_wp2_with fail
              go_roundw
              case rel => exact ⟨k + 1, out ++ [g], H4, by omega, by go_num, hM6, Lib.hid (by rw [htk.out, hout.out]), by simp; omega⟩
              case measure => simp [intOf]; omega
            · obtain rfl : k = f.kids.length := by omega
              have e3 := (hM.box 0 rfl).facts.2 3
              obtain ⟨H5, hl5, hM5, hR5⟩ := hM.freezeS 2 rfl
              replace hM5 := hM5.pick [0, 1] (by decide)
              simp only [List.set_cons_succ, List.set_cons_zero, List.map_cons, List.map_nil, List.getElem?_cons_zero, List.getElem?_cons_succ, Option.getD_some] at hM5
              have hout' : Hid (out = f.kids.map (pushB false)) := by
                show _ = _
                rw [hout.out, List.take_length]
              have hfi5 := hfi.mono mono_ItvR hM5.le
              clear hM hout
              have hM7 := hM5.set 0 rfl 3 (.slice va out.length vc)
              simp only [List.set_cons_zero, List.setIfInBounds_toArray, List.set_cons_succ] at hM7
              clear hM5
              go_upto_region 10 with (fail)
              generalize World.setCell _ _ _ = w5 at *
              clear u3 e3 ul
              have u0 : _ = some (Value.int .i64 f.op) := (hM7.box 0 rfl).facts.1 0
              have u1 : _ = some (Value.int .i64 f.n) := (hM7.box 0 rfl).facts.1 1
              have u2 : _ = some (Value.slice a3 f.inn.length c3) := (hM7.box 0 rfl).facts.1 2
              have u3 : _ = some (Value.slice va out.length vc) := (hM7.box 0 rfl).facts.1 3
              have e0 := (hM7.box 0 rfl).facts.2 0
              have ul := (hM7.box 0 rfl).lt
              obtain rfl := hout'.out
              have hR := FmR.of (f := .mk f.op f.n f.inn (f.kids.map (pushB false))) i1 i2 hfi5 hR5
              have hnn := not7_c _ a3 c3 va vc w5 hM7.ple hR
              unfold fmV at hnn
              simp only [Fm.op, Fm.n, Fm.inn, Fm.kids, List.length_map] at hnn
              go_wp2_with fail
              refine hnn.mono ?_
              rintro e w6 ⟨b, rfl, hx6, hR6⟩
              have hM9 := hM7.up hx6
              generalize up H5 w5 w6 = H9 at *
              clear hM7 hx6 hnn u0 u1 u2 u3 ul e0
              have rz0 : _ = some (Value.int .i64 0) := (hM9.box 1 rfl).facts.1 0
              have rz1 : _ = some (Value.int .i64 0) := (hM9.box 1 rfl).facts.1 1
              have rz2 : _ = some (Value.slice none 0 0) := (hM9.box 1 rfl).facts.1 2
              have rz3 : _ = some (Value.slice none 0 0) := (hM9.box 1 rfl).facts.1 3
              obtain ⟨-, rzf⟩ := (hM9.box 1 rfl).facts
              have rzl := (hM9.box 1 rfl).lt
              have hM8 := hM9.set4 1 rfl (.int .i64 6) (.int .i64 0) (.slice none 0 0) (.slice (some ⟨b, 0, none⟩) 1 1)
              simp only [List.set_cons_zero, List.set_cons_succ] at hM8
              clear hM9
              go_wp2_with fail
              generalize World.setCell _ _ _ = w9 at *
              obtain ⟨rq', -⟩ := (hM8.box 1 rfl).facts
              have rq0 : _ = some ((.int .i64 6) : Value) := rq' 0
              have rq1 : _ = some ((.int .i64 0) : Value) := rq' 1
              have rq2 : _ = some ((.slice none 0 0) : Value) := rq' 2
              have rq3 : _ = some ((.slice (some ⟨b, 0, none⟩) 1 1) : Value) := rq' 3
              refine bodyPost_ret (v := .agg #[(.int .i64 6), (.int .i64 0), (.slice none 0 0), (.slice (some ⟨b, 0, none⟩) 1 1)]) (by simp [results, Tryz.results64, go_sem, rq0, rq1, rq2, rq3]) rfl ?_
              rw [hv.out]
              exact ⟨none, 0, some ⟨b, 0, none⟩, 1, rfl, hM8.ex, mono_FmR _ _ _ _ hM8.ub hR6⟩
        · have b3 : (f.op != 3) = true := by simpa using q3
          have hkN : f.op ≠ 4 → f.op ≠ 5 → f.kids = [] := by
            intro h4 h5
            unfold formed1 at hform
            split at hform
            · cases hform
            · split at hform
              · exact List.isEmpty_iff.1 hform
              · split at hform
                · simp only [Bool.and_eq_true] at hform; exact List.isEmpty_iff.1 hform.1.1
                · split at hform
                  · simp only [Bool.and_eq_true] at hform; exact List.isEmpty_iff.1 hform.1.1.1
                  · split at hform
                    · omega
                    · simp [h4, h5] at hform
          have hM2 := hM0.nil mono_FmR 4 29
          simp only [List.cons_append, List.nil_append] at hM2
          have u0 : w1.cell? ⟨g2, 0, none⟩ = some (.int .i64 f.op) := (hM0.box 0 rfl).facts.1 0
          have ul := (hM0.box 0 rfl).lt
          clear hM0
          go_wp2_with fail
          go_loopw [6, 7] (fun v i wr => ∃ (k : Nat) (out : List Fm) (H' : PH), k ≤ f.kids.length ∧ i = .int .i64 k ∧ Mem w H [box g2 #[.int .i64 f.op, .int .i64 f.n, .slice a3 f.inn.length c3, .slice a4 f.kids.length c4] 29, box g4 #[.int .i64 0, .int .i64 0, .slice none 0 0, .slice none 0 0] 29, own mono_FmR 4 29 v out] H' wr ∧ Hid (out = (f.kids.take k).map (pushB true)) ∧ out.length ≤ 1000000) (fun _ i _ => f.kids.length - (intOf i).toNat)
          case atStart => exact ⟨0, [], H, by omega, rfl, hM2, Lib.hid (by simp), by simp⟩
          case round =>
            clear hM2 u0 ul
            obtain ⟨k, out, H', hk2, rfl, hM, hout, hol⟩ := hrel
            obtain ⟨va, vc, rfl, -⟩ := hM.form 2 rfl
            have u3 : wr.cell? ⟨g2, 3, none⟩ = some (.slice a4 f.kids.length c4) := (hM.box 0 rfl).facts.1 3
            have ul := (hM.box 0 rfl).lt
            by_cases hlt : k < f.kids.length
            · obtain ⟨kb, ko, k3, m3, k4, m4, ek, z0, z1, z2, z3, hE, zl⟩ := FmsR.atH hfk (hM.le.trans hM.ple) k hlt
              cases ek
              have htk : Hid ((f.kids.take (k + 1)).map (pushB true) = (f.kids.take k).map (pushB true) ++ [pushB true f.kids[k]]) := by
                show _ = _
                rw [List.take_succ_eq_append_getElem hlt, List.map_append]; rfl
              have hHx := HI.out f.kids[k] (List.getElem_mem hlt) true
              generalize f.kids[k] = x at *
              have hH2 := hHx H' _ wr hM.ple (mono_FmR _ _ _ _ hM.le hE)
              unfold fmC at hH2
              clear hHx hE
              go_wp2_with fail
              refine hH2.mono ?_
              rintro e w4 ⟨p3, q3, p4, q4, rfl, hx4, hQ⟩
              have hM4 := hM.up hx4
              generalize up H' wr w4 = H4 at *
              clear hM hx4 hH2 u3 ul z0 z1 z2 z3 zl
              generalize pushB true x = g at *
              unfold fmC at hQ
              have hM5 := hM4.ext (Ext.new w4 (.cells #[.int .i64 g.op, .int .i64 g.n, .slice p3 g.inn.length q3, .slice p4 g.kids.length q4] 29))
              have hS := Src.lit1 (E := FmR) (H := H4) (w := w4.alloc (.cells #[.int .i64 g.op, .int .i64 g.n, .slice p3 g.inn.length q3, .slice p4 g.kids.length q4] 29)) (b := w4.heap.size) (sz := 4) hQ rfl (fun j => by rw [(Proofs.YtbpilielamjnoaaGreat.Own.new w4 #[.int .i64 g.op, .int .i64 g.n, .slice p3 g.inn.length q3, .slice p4 g.kids.length q4] 29).facts.1 j]; simp)
              clear hM4
              go_wp2_with (first | (at_builtin; refine wpList_append_M 2 rfl _ _ 23 rfl Tryz.underlying23 infoFm rfl rfl rfl hM5 rfl hS one_FmR (by simp; omega) (by simp; omega) ?c5))
              case c5 =>
              intro v' w' hM6
              try simp only [List.set_cons_zero, List.set_cons_succ] at hM6
              clear hM5 hS
              obtain ⟨na, nc, rfl, -⟩ := hM6.form 2 rfl
              have hol2 : out.length = k := by rw [hout.out, List.length_map, List.length_take]; omega
              go_wp2_with fail
              go_roundw
              case rel => exact ⟨k + 1, out ++ [g], H4, by omega, by go_num, hM6, Lib.hid (by rw [htk.out, hout.out]), by simp; omega⟩
              case measure => simp [intOf]; omega
            · obtain rfl : k = f.kids.length := by omega
              have e3 := (hM.box 0 rfl).facts.2 3
              obtain ⟨H5, hl5, hM5, hR5⟩ := hM.freezeS 2 rfl
              replace hM5 := hM5.pick [0, 1] (by decide)
              simp only [List.set_cons_succ, List.set_cons_zero, List.map_cons, List.map_nil, List.getElem?_cons_zero, List.getElem?_cons_succ, Option.getD_some] at hM5
              have hout' : Hid (out = f.kids.map (pushB true)) := by
                show _ = _
                rw [hout.out, List.take_length]
              have hfi5 := hfi.mono mono_ItvR hM5.le
              clear hM hout
              have hM7 := hM5.set 0 rfl 3 (.slice va out.length vc)
              simp only [List.set_cons_zero, List.setIfInBounds_toArray, List.set_cons_succ] at hM7
              clear hM5
              go_upto_region 10 with (fail)
              generalize World.setCell _ _ _ = w5 at *
              clear u3 e3 ul
              have u0 : _ = some (Value.int .i64 f.op) := (hM7.box 0 rfl).facts.1 0
              have u1 : _ = some (Value.int .i64 f.n) := (hM7.box 0 rfl).facts.1 1
              have u2 : _ = some (Value.slice a3 f.inn.length c3) := (hM7.box 0 rfl).facts.1 2
              have u3 : _ = some (Value.slice va out.length vc) := (hM7.box 0 rfl).facts.1 3
              have e0 := (hM7.box 0 rfl).facts.2 0
              have ul := (hM7.box 0 rfl).lt
              by_cases k0 : f.op = 0
              · have k0' : (f.op == 0) = true := by simpa using k0
                have hv : Hid (pushB true f = neverF) := by
                  show _ = _
                  show pushN f = _
                  rw [pushN_eq, if_pos k0]
                have rz0 : _ = some (Value.int .i64 0) := (hM7.box 1 rfl).facts.1 0
                have rz1 : _ = some (Value.int .i64 0) := (hM7.box 1 rfl).facts.1 1
                have rz2 : _ = some (Value.slice none 0 0) := (hM7.box 1 rfl).facts.1 2
                have rz3 : _ = some (Value.slice none 0 0) := (hM7.box 1 rfl).facts.1 3
                obtain ⟨-, rzf⟩ := (hM7.box 1 rfl).facts
                have rzl := (hM7.box 1 rfl).lt
                have hM8 := hM7.set4 1 rfl (.int .i64 5) (.int .i64 0) (.slice none 0 0) (.slice none 0 0)
                simp only [List.set_cons_zero, List.set_cons_succ] at hM8
                clear hM7
                go_wp2_with fail
                generalize World.setCell _ _ _ = w9 at *
                obtain ⟨rq', -⟩ := (hM8.box 1 rfl).facts
                have rq0 : _ = some ((.int .i64 5) : Value) := rq' 0
                have rq1 : _ = some ((.int .i64 0) : Value) := rq' 1
                have rq2 : _ = some ((.slice none 0 0) : Value) := rq' 2
                have rq3 : _ = some ((.slice none 0 0) : Value) := rq' 3
                refine bodyPost_ret (v := .agg #[(.int .i64 5), (.int .i64 0), (.slice none 0 0), (.slice none 0 0)]) (by simp [results, Tryz.results64, go_sem, rq0, rq1, rq2, rq3]) rfl ?_
                rw [hv.out]
                exact ⟨none, 0, none, 0, rfl, hM8.ex, neverF_R _⟩
              have k0' : (f.op == 0) = false := by simpa using k0
              by_cases k4 : f.op = 4
              · have k4' : (f.op == 4) = true := by simpa using k4
                have hv : Hid (pushB true f = .mk 5 f.n f.inn (f.kids.map (pushB true))) := by
                  show _ = _
                  show pushN f = _
                  rw [pushN_eq, if_neg k0, if_neg q6, if_neg (by omega), if_pos k4]; rfl
                have hM9 := hM7.set 0 rfl 0 (.int .i64 5)
                simp only [List.set_cons_zero, List.setIfInBounds_toArray, List.set_cons_succ] at hM9
                clear hM7
                go_upto_region 17 with (fail)
                generalize World.setCell _ _ _ = w6 at *
                clear u0 u1 u2 u3 e0 ul
                have u0 : _ = some (Value.int .i64 5) := (hM9.box 0 rfl).facts.1 0
                have u1 : _ = some (Value.int .i64 f.n) := (hM9.box 0 rfl).facts.1 1
                have u2 : _ = some (Value.slice a3 f.inn.length c3) := (hM9.box 0 rfl).facts.1 2
                have u3 : _ = some (Value.slice va out.length vc) := (hM9.box 0 rfl).facts.1 3
                have e0 := (hM9.box 0 rfl).facts.2 0
                have ul := (hM9.box 0 rfl).lt
                have rz0 : _ = some (Value.int .i64 0) := (hM9.box 1 rfl).facts.1 0
                have rz1 : _ = some (Value.int .i64 0) := (hM9.box 1 rfl).facts.1 1
                have rz2 : _ = some (Value.slice none 0 0) := (hM9.box 1 rfl).facts.1 2
                have rz3 : _ = some (Value.slice none 0 0) := (hM9.box 1 rfl).facts.1 3
                obtain ⟨-, rzf⟩ := (hM9.box 1 rfl).facts
                have rzl := (hM9.box 1 rfl).lt
                have hM8 := hM9.set4 1 rfl (.int .i64 5) (.int .i64 f.n) (.slice a3 f.inn.length c3) (.slice va out.length vc)
                simp only [List.set_cons_zero, List.set_cons_succ] at hM8
                clear hM9
                go_wp2_with fail
                generalize World.setCell _ _ _ = w9 at *
                obtain ⟨rq', -⟩ := (hM8.box 1 rfl).facts
                have rq0 : _ = some ((.int .i64 5) : Value) := rq' 0
                have rq1 : _ = some ((.int .i64 f.n) : Value) := rq' 1
                have rq2 : _ = some ((.slice a3 f.inn.length c3) : Value) := rq' 2
                have rq3 : _ = some ((.slice va out.length vc) : Value) := rq' 3
                refine bodyPost_ret (v := .agg #[(.int .i64 5), (.int .i64 f.n), (.slice a3 f.inn.length c3), (.slice va out.length vc)]) (by simp [results, Tryz.results64, go_sem, rq0, rq1, rq2, rq3]) rfl ?_
                obtain rfl := hout'.out
                rw [hv.out]
                exact ⟨a3, c3, va, vc, rfl, hM8.ex, mono_FmR _ _ _ _ hM8.ub (FmR.of (f := .mk 5 f.n f.inn (f.kids.map (pushB true))) (by simp [Fm.op, I64]) i2 hfi5 hR5)⟩
              have k4' : (f.op == 4) = false := by simpa using k4
              by_cases k5 : f.op = 5
              · have k5' : (f.op == 5) = true := by simpa using k5
                by_cases kn : f.kids = []
                · have hv : Hid (pushB true f = noF) := by
                    show _ = _
                    show pushN f = _
                    rw [pushN_eq, if_neg k0, if_neg q6, if_pos ⟨k5, kn⟩]
                  have ho0 : out.length = 0 := by rw [hout'.out, kn]; rfl
                  have hb0 : ((out.length : Int) == 0) = true := by simp [ho0]
                  have rz0 : _ = some (Value.int .i64 0) := (hM7.box 1 rfl).facts.1 0
                  have rz1 : _ = some (Value.int .i64 0) := (hM7.box 1 rfl).facts.1 1
                  have rz2 : _ = some (Value.slice none 0 0) := (hM7.box 1 rfl).facts.1 2
                  have rz3 : _ = some (Value.slice none 0 0) := (hM7.box 1 rfl).facts.1 3
                  obtain ⟨-, rzf⟩ := (hM7.box 1 rfl).facts
                  have rzl := (hM7.box 1 rfl).lt
                  have hM8 := hM7.set4 1 rfl (.int .i64 0) (.int .i64 0) (.slice none 0 0) (.slice none 0 0)
                  simp only [List.set_cons_zero, List.set_cons_succ] at hM8
                  clear hM7
                  go_wp2_with fail
                  generalize World.setCell _ _ _ = w9 at *
                  obtain ⟨rq', -⟩ := (hM8.box 1 rfl).facts
                  have rq0 : _ = some ((.int .i64 0) : Value) := rq' 0
                  have rq1 : _ = some ((.int .i64 0) : Value) := rq' 1
                  have rq2 : _ = some ((.slice none 0 0) : Value) := rq' 2
                  have rq3 : _ = some ((.slice none 0 0) : Value) := rq' 3
                  refine bodyPost_ret (v := .agg #[(.int .i64 0), (.int .i64 0), (.slice none 0 0), (.slice none 0 0)]) (by simp [results, Tryz.results64, go_sem, rq0, rq1, rq2, rq3]) rfl ?_
                  rw [hv.out]
                  exact ⟨none, 0, none, 0, rfl, hM8.ex, noF_R _⟩
                · have hv : Hid (pushB true f = .mk 4 f.n f.inn (f.kids.map (pushB true))) := by
                    show _ = _
                    show pushN f = _
                    rw [pushN_eq, if_neg k0, if_neg q6, if_neg (by simp [kn]), if_neg k4, if_pos k5]; rfl
                  have hb0 : ((out.length : Int) == 0) = false := by
                    have : out.length ≠ 0 := by rw [hout'.out, List.length_map]; simpa using kn
                    simpa using this
                  have hM9 := hM7.set 0 rfl 0 (.int .i64 4)
                  simp only [List.set_cons_zero, List.setIfInBounds_toArray, List.set_cons_succ] at hM9
                  clear hM7
                  go_upto_region 22 with (fail)
                  generalize World.setCell _ _ _ = w6 at *
                  clear u0 u1 u2 u3 e0 ul
                  have u0 : _ = some (Value.int .i64 4) := (hM9.box 0 rfl).facts.1 0
                  have u1 : _ = some (Value.int .i64 f.n) := (hM9.box 0 rfl).facts.1 1
                  have u2 : _ = some (Value.slice a3 f.inn.length c3) := (hM9.box 0 rfl).facts.1 2
                  have u3 : _ = some (Value.slice va out.length vc) := (hM9.box 0 rfl).facts.1 3
                  have e0 := (hM9.box 0 rfl).facts.2 0
                  have ul := (hM9.box 0 rfl).lt
                  have rz0 : _ = some (Value.int .i64 0) := (hM9.box 1 rfl).facts.1 0
                  have rz1 : _ = some (Value.int .i64 0) := (hM9.box 1 rfl).facts.1 1
                  have rz2 : _ = some (Value.slice none 0 0) := (hM9.box 1 rfl).facts.1 2
                  have rz3 : _ = some (Value.slice none 0 0) := (hM9.box 1 rfl).facts.1 3
                  obtain ⟨-, rzf⟩ := (hM9.box 1 rfl).facts
                  have rzl := (hM9.box 1 rfl).lt
                  have hM8 := hM9.set4 1 rfl (.int .i64 4) (.int .i64 f.n) (.slice a3 f.inn.length c3) (.slice va out.length vc)
                  simp only [List.set_cons_zero, List.set_cons_succ] at hM8
                  clear hM9
                  go_wp2_with fail
                  generalize World.setCell _ _ _ = w9 at *
                  obtain ⟨rq', -⟩ := (hM8.box 1 rfl).facts
                  have rq0 : _ = some ((.int .i64 4) : Value) := rq' 0
                  have rq1 : _ = some ((.int .i64 f.n) : Value) := rq' 1
                  have rq2 : _ = some ((.slice a3 f.inn.length c3) : Value) := rq' 2
                  have rq3 : _ = some ((.slice va out.length vc) : Value) := rq' 3
                  refine bodyPost_ret (v := .agg #[(.int .i64 4), (.int .i64 f.n), (.slice a3 f.inn.length c3), (.slice va out.length vc)]) (by simp [results, Tryz.results64, go_sem, rq0, rq1, rq2, rq3]) rfl ?_
                  obtain rfl := hout'.out
                  rw [hv.out]
                  exact ⟨a3, c3, va, vc, rfl, hM8.ex, mono_FmR _ _ _ _ hM8.ub (FmR.of (f := .mk 4 f.n f.inn (f.kids.map (pushB true))) (by simp [Fm.op, I64]) i2 hfi5 hR5)⟩
              have k5' : (f.op == 5) = false := by simpa using k5
              have hkn := hkN k4 k5
              have hv : Hid (pushB true f = .mk 6 0 [] [.mk f.op f.n f.inn (f.kids.map (pushB true))]) := by
                show _ = _
                show pushN f = _
                rw [pushN_eq, if_neg k0, if_neg q6, if_neg (by omega), if_neg k4, if_neg k5, hkn]; rfl
              clear hkn hkN
              obtain rfl := hout'.out
              have hR := FmR.of (f := .mk f.op f.n f.inn (f.kids.map (pushB true))) i1 i2 hfi5 hR5
              have hnn := not7_c _ a3 c3 va vc w5 hM7.ple hR
              unfold fmV at hnn
              simp only [Fm.op, Fm.n, Fm.inn, Fm.kids, List.length_map] at hnn
              go_wp2_with fail
              refine hnn.mono ?_
              rintro e w6 ⟨b, rfl, hx6, hR6⟩
              have hM9 := hM7.up hx6
              generalize up H5 w5 w6 = H9 at *
              clear hM7 hx6 hnn u0 u1 u2 u3 ul e0
              have rz0 : _ = some (Value.int .i64 0) := (hM9.box 1 rfl).facts.1 0
              have rz1 : _ = some (Value.int .i64 0) := (hM9.box 1 rfl).facts.1 1
              have rz2 : _ = some (Value.slice none 0 0) := (hM9.box 1 rfl).facts.1 2
              have rz3 : _ = some (Value.slice none 0 0) := (hM9.box 1 rfl).facts.1 3
              obtain ⟨-, rzf⟩ := (hM9.box 1 rfl).facts
              have rzl := (hM9.box 1 rfl).lt
              have hM8 := hM9.set4 1 rfl (.int .i64 6) (.int .i64 0) (.slice none 0 0) (.slice (some ⟨b, 0, none⟩) 1 1)
              simp only [List.set_cons_zero, List.set_cons_succ] at hM8
              clear hM9
              go_wp2_with fail
              generalize World.setCell _ _ _ = w9 at *
              obtain ⟨rq', -⟩ := (hM8.box 1 rfl).facts
              have rq0 : _ = some ((.int .i64 6) : Value) := rq' 0
              have rq1 : _ = some ((.int .i64 0) : Value) := rq' 1
              have rq2 : _ = some ((.slice none 0 0) : Value) := rq' 2
              have rq3 : _ = some ((.slice (some ⟨b, 0, none⟩) 1 1) : Value) := rq' 3
              refine bodyPost_ret (v := .agg #[(.int .i64 6), (.int .i64 0), (.slice none 0 0), (.slice (some ⟨b, 0, none⟩) 1 1)]) (by simp [results, Tryz.results64, go_sem, rq0, rq1, rq2, rq3]) rfl ?_
              rw [hv.out]
              exact ⟨none, 0, some ⟨b, 0, none⟩, 1, rfl, hM8.ex, mono_FmR _ _ _ _ hM8.ub hR6⟩
set_option maxRecDepth 100000 in
set_option maxHeartbeats 8000000 in
theorem rpush7_c (f : Fm) (cs : List Value) (w : World) (hr : FmR (ph w) cs f) (hb : f.bulk ≤ 400000) : Calls Tryz.prog 25 #[.agg cs.toArray] w (PushQ w (pushE f)) := by
  have hr0 := hr
  obtain ⟨a3, c3, a4, c4, rfl, -⟩ := hr.form
  by_cases hf : validF f = 0
  · have hb2 := (push_bulk f).1
    have hb1 := valid_bulk hf
    have hw := (validF_0 hf).2.2
    have n0 : ((0 : Int) != 0) = false := rfl
    have hres : (validF (pushP f) = 0 → pushE f = (pushP f, 0)) ∧ (validF (pushP f) ≠ 0 → pushE f = (noF, 4)) := by
      unfold pushE
      exact ⟨fun h => by rw [if_pos hf, if_pos h], fun h => by rw [if_pos hf, if_neg h]⟩
    have hM := ((Mem.start w (ph w) (fun _ _ h => h)).new' #[.int .i64 f.op, .int .i64 f.n, .slice a3 f.inn.length c3, .slice a4 f.kids.length c4] 29 (n := w.heap.size) rfl).new' #[.int .i64 0, .int .i64 0, .slice none 0 0, .slice none 0 0] 29 (n := w.heap.size + 1) (by simp)
    simp only [List.cons_append, List.nil_append] at hM
    unfold fmC at hr ⊢
    go_enter Tryz.func25, Tryz.ntmps25
    go_upto_region 1 with (fail)
    generalize World.alloc _ _ = w1 at *
    generalize hg4 : w.heap.size + 1 = g2 at *
    generalize hg3 : w.heap.size = g1 at *
    have u0 : w1.cell? ⟨g1, 0, none⟩ = some (.int .i64 f.op) := (hM.box 0 rfl).facts.1 0
    have u1 : w1.cell? ⟨g1, 1, none⟩ = some (.int .i64 f.n) := (hM.box 0 rfl).facts.1 1
    have u2 : w1.cell? ⟨g1, 2, none⟩ = some (.slice a3 f.inn.length c3) := (hM.box 0 rfl).facts.1 2
    have u3 : w1.cell? ⟨g1, 3, none⟩ = some (.slice a4 f.kids.length c4) := (hM.box 0 rfl).facts.1 3
    have ul := (hM.box 0 rfl).lt
    have hv := rfvalid_c f (fmC f a3 c3 a4 c4) w1 (mono_FmR _ _ _ _ hM.ple hr0) (by omega)
    rw [hf] at hv
    go_wp2_with fail
    refine RetV_at hv ?_
    intro w2 hx2
    replace hM := hM.ext hx2
    clear u0 u1 u2 u3 ul hv hx2
    have u0 : w2.cell? ⟨g1, 0, none⟩ = some (.int .i64 f.op) := (hM.box 0 rfl).facts.1 0
    have u1 : w2.cell? ⟨g1, 1, none⟩ = some (.int .i64 f.n) := (hM.box 0 rfl).facts.1 1
    have u2 : w2.cell? ⟨g1, 2, none⟩ = some (.slice a3 f.inn.length c3) := (hM.box 0 rfl).facts.1 2
    have u3 : w2.cell? ⟨g1, 3, none⟩ = some (.slice a4 f.kids.length c4) := (hM.box 0 rfl).facts.1 3
    have ul := (hM.box 0 rfl).lt
    have hcall := rpushed_c f false (ph w) (fmC f a3 c3 a4 c4) w2 hM.ple hr0 hw (by omega)
    unfold pushB at hcall
    simp only [Bool.false_eq_true, if_false] at hcall
    unfold fmC at hcall
    replace hres := Lib.hid hres
    generalize pushP f = R at *
    go_wp2_with fail
    refine hcall.mono ?_
    rintro e w4 ⟨p3, q3, p4, q4, rfl, hx4, hQ⟩
    have hM4 := hM.up hx4
    generalize up (ph w) w2 w4 = H4 at *
    clear hM hcall u0 u1 u2 u3 ul hx4
    go_upto_region 5 with (fail)
    have hM5 := (hM4.pick [1] (by decide)).new' #[.int .i64 R.op, .int .i64 R.n, .slice p3 R.inn.length q3, .slice p4 R.kids.length q4] 29 (n := w4.heap.size) rfl
    simp only [List.map_cons, List.map_nil, List.getElem?_cons_zero, List.getElem?_cons_succ, Option.getD_some, List.cons_append, List.nil_append] at hM5
    clear hM4
    generalize w4.alloc _ = w5 at *
    generalize w4.heap.size = g7 at *
    have u0 : w5.cell? ⟨g7, 0, none⟩ = some (.int .i64 R.op) := (hM5.box 1 rfl).facts.1 0
    have u1 : w5.cell? ⟨g7, 1, none⟩ = some (.int .i64 R.n) := (hM5.box 1 rfl).facts.1 1
    have u2 : w5.cell? ⟨g7, 2, none⟩ = some (.slice p3 R.inn.length q3) := (hM5.box 1 rfl).facts.1 2
    have u3 : w5.cell? ⟨g7, 3, none⟩ = some (.slice p4 R.kids.length q4) := (hM5.box 1 rfl).facts.1 3
    have ul := (hM5.box 1 rfl).lt
    have hv := rfvalid_c R (fmC R p3 q3 p4 q4) w5 (mono_FmR _ _ _ _ hM5.ple hQ) (by omega)
    by_cases hp : validF R = 0
    · have hE := Lib.hid (hres.out.1 hp)
      rw [hp] at hv
      clear hp hres
      unfold fmC at hv
      go_wp2_with fail
      refine RetV_at hv ?_
      intro w6 hx6
      replace hM5 := hM5.ext hx6
      clear u0 u1 u2 u3 ul hv hx6
      have u0 : w6.cell? ⟨g7, 0, none⟩ = some (.int .i64 R.op) := (hM5.box 1 rfl).facts.1 0
      have u1 : w6.cell? ⟨g7, 1, none⟩ = some (.int .i64 R.n) := (hM5.box 1 rfl).facts.1 1
      have u2 : w6.cell? ⟨g7, 2, none⟩ = some (.slice p3 R.inn.length q3) := (hM5.box 1 rfl).facts.1 2
      have u3 : w6.cell? ⟨g7, 3, none⟩ = some (.slice p4 R.kids.length q4) := (hM5.box 1 rfl).facts.1 3
      have ul := (hM5.box 1 rfl).lt
      have rz0 : _ = some (Value.int .i64 0) := (hM5.box 0 rfl).facts.1 0
      have rz1 : _ = some (Value.int .i64 0) := (hM5.box 0 rfl).facts.1 1
      have rz2 : _ = some (Value.slice none 0 0) := (hM5.box 0 rfl).facts.1 2
      have rz3 : _ = some (Value.slice none 0 0) := (hM5.box 0 rfl).facts.1 3
      obtain ⟨-, rzf⟩ := (hM5.box 0 rfl).facts
      have rzl := (hM5.box 0 rfl).lt
      have hM8 := hM5.set4 0 rfl (.int .i64 R.op) (.int .i64 R.n) (.slice p3 R.inn.length q3) (.slice p4 R.kids.length q4)
      simp only [List.set_cons_zero, List.set_cons_succ] at hM8
      clear hM5
      go_wp2_with fail
      generalize World.setCell _ _ _ = w9 at *
      obtain ⟨rq', -⟩ := (hM8.box 0 rfl).facts
      have rq0 : _ = some ((.int .i64 R.op) : Value) := rq' 0
      have rq1 : _ = some ((.int .i64 R.n) : Value) := rq' 1
      have rq2 : _ = some ((.slice p3 R.inn.length q3) : Value) := rq' 2
      have rq3 : _ = some ((.slice p4 R.kids.length q4) : Value) := rq' 3
      refine bodyPost_ret (v := .tuple #[.agg #[(.int .i64 R.op), (.int .i64 R.n), (.slice p3 R.inn.length q3), (.slice p4 R.kids.length q4)], .int .i64 0]) (by simp [results, Tryz.results25, go_sem, rq0, rq1, rq2, rq3]) rfl ?_
      rw [hE.out]
      exact ⟨p3, q3, p4, q4, rfl, hM8.ex, mono_FmR _ _ _ _ hM8.ple hQ⟩
    · have hE := Lib.hid (hres.out.2 hp)
      have n1 : (validF R != 0) = true := by simpa using hp
      generalize validF R = z at *
      clear hp hres
      unfold fmC at hv
      go_wp2_with fail
      refine RetV_at hv ?_
      intro w6 hx6
      replace hM5 := hM5.ext hx6
      clear u0 u1 u2 u3 ul hv hx6
      have rz0 : _ = some (Value.int .i64 0) := (hM5.box 0 rfl).facts.1 0
      have rz1 : _ = some (Value.int .i64 0) := (hM5.box 0 rfl).facts.1 1
      have rz2 : _ = some (Value.slice none 0 0) := (hM5.box 0 rfl).facts.1 2
      have rz3 : _ = some (Value.slice none 0 0) := (hM5.box 0 rfl).facts.1 3
      obtain ⟨-, rzf⟩ := (hM5.box 0 rfl).facts
      have rzl := (hM5.box 0 rfl).lt
      have hM8 := hM5.set4 0 rfl (.int .i64 0) (.int .i64 0) (.slice none 0 0) (.slice none 0 0)
      simp only [List.set_cons_zero, List.set_cons_succ] at hM8
      clear hM5
      go_wp2_with fail
      generalize World.setCell _ _ _ = w9 at *
      obtain ⟨rq', -⟩ := (hM8.box 0 rfl).facts
      have rq0 : _ = some ((.int .i64 0) : Value) := rq' 0
      have rq1 : _ = some ((.int .i64 0) : Value) := rq' 1
      have rq2 : _ = some ((.slice none 0 0) : Value) := rq' 2
      have rq3 : _ = some ((.slice none 0 0) : Value) := rq' 3
      refine bodyPost_ret (v := .tuple #[.agg #[(.int .i64 0), (.int .i64 0), (.slice none 0 0), (.slice none 0 0)], .int .i64 4]) (by simp [results, Tryz.results25, go_sem, rq0, rq1, rq2, rq3]) rfl ?_
      rw [hE.out]
      exact ⟨none, 0, none, 0, rfl, hM8.ex, noF_R _⟩
  · have hres : pushE f = (noF, validF f) := by unfold pushE; rw [if_neg hf]
    rw [hres]
    obtain ⟨z, hz⟩ : ∃ z, validF f = z := ⟨_, rfl⟩
    rw [hz] at hf ⊢
    have n0 : (z != 0) = true := by simpa using hf
    clear hf
    have hf := hz
    clear hz hres
    have hM := ((Mem.start w (ph w) (fun _ _ h => h)).new' #[.int .i64 f.op, .int .i64 f.n, .slice a3 f.inn.length c3, .slice a4 f.kids.length c4] 29 (n := w.heap.size) rfl).new' #[.int .i64 0, .int .i64 0, .slice none 0 0, .slice none 0 0] 29 (n := w.heap.size + 1) (by simp)
    simp only [List.cons_append, List.nil_append] at hM
    unfold fmC at hr ⊢
    go_enter Tryz.func25, Tryz.ntmps25
    go_upto_region 1 with (fail)
    generalize World.alloc _ _ = w1 at *
    generalize hg4 : w.heap.size + 1 = g2 at *
    generalize hg3 : w.heap.size = g1 at *
    have u0 : w1.cell? ⟨g1, 0, none⟩ = some (.int .i64 f.op) := (hM.box 0 rfl).facts.1 0
    have u1 : w1.cell? ⟨g1, 1, none⟩ = some (.int .i64 f.n) := (hM.box 0 rfl).facts.1 1
    have u2 : w1.cell? ⟨g1, 2, none⟩ = some (.slice a3 f.inn.length c3) := (hM.box 0 rfl).facts.1 2
    have u3 : w1.cell? ⟨g1, 3, none⟩ = some (.slice a4 f.kids.length c4) := (hM.box 0 rfl).facts.1 3
    have ul := (hM.box 0 rfl).lt
    have hv := rfvalid_c f (fmC f a3 c3 a4 c4) w1 (mono_FmR _ _ _ _ hM.ple hr0) (by omega)
    rw [hf] at hv
    clear hf
    go_wp2_with fail
    refine RetV_at hv ?_
    intro w2 hx2
    replace hM := hM.ext hx2
    clear u0 u1 u2 u3 ul hv hx2
    have rz0 : _ = some (Value.int .i64 0) := (hM.box 1 rfl).facts.1 0
    have rz1 : _ = some (Value.int .i64 0) := (hM.box 1 rfl).facts.1 1
    have rz2 : _ = some (Value.slice none 0 0) := (hM.box 1 rfl).facts.1 2
    have rz3 : _ = some (Value.slice none 0 0) := (hM.box 1 rfl).facts.1 3
    obtain ⟨-, rzf⟩ := (hM.box 1 rfl).facts
    have rzl := (hM.box 1 rfl).lt
    have hM8 := hM.set4 1 rfl (.int .i64 0) (.int .i64 0) (.slice none 0 0) (.slice none 0 0)
    simp only [List.set_cons_zero, List.set_cons_succ] at hM8
    clear hM
    go_wp2_with fail
    generalize World.setCell _ _ _ = w9 at *
    obtain ⟨rq', -⟩ := (hM8.box 1 rfl).facts
    have rq0 : _ = some ((.int .i64 0) : Value) := rq' 0
    have rq1 : _ = some ((.int .i64 0) : Value) := rq' 1
    have rq2 : _ = some ((.slice none 0 0) : Value) := rq' 2
    have rq3 : _ = some ((.slice none 0 0) : Value) := rq' 3
    refine bodyPost_ret (v := .tuple #[.agg #[(.int .i64 0), (.int .i64 0), (.slice none 0 0), (.slice none 0 0)], .int .i64 z]) (by simp [results, Tryz.results25, go_sem, rq0, rq1, rq2, rq3]) rfl ?_
    exact ⟨none, 0, none, 0, rfl, hM8.ex, noF_R _⟩
theorem insF_drop (f : Fm) : ∀ (l : List Fm) (k : Nat), (∀ j x, l[j]? = some x → j < k → fcmpJ x f < 0) → insF f l = l.take k ++ insF f (l.drop k)
  | l, 0, _ => by simp
  | [], k + 1, _ => by simp
  | x :: xs, k + 1, h => by
    have h0 := h 0 x rfl (by omega)
    rw [insF, if_pos h0, List.take_succ_cons, List.drop_succ_cons, insF_drop f xs k (fun j y hj hk => h (j + 1) y hj (by omega))]; rfl
theorem insF_end {f : Fm} {l : List Fm} {k : Nat} (h : ∀ j x, l[j]? = some x → j < k → fcmpJ x f < 0) (hk : k = l.length) : insF f l = l.take k ++ [f] ++ l.drop k := by
  rw [insF_drop f l k h, hk, List.drop_length]; simp [insF]
theorem insF_at {f : Fm} {l : List Fm} {k : Nat} (h : ∀ j x, l[j]? = some x → j < k → fcmpJ x f < 0) {x : Fm} (hk : l[k]? = some x) (hn : ¬ fcmpJ x f < 0) (hne : x ≠ f) : insF f l = l.take k ++ [f] ++ l.drop k := by
  obtain ⟨hk1, rfl⟩ := List.getElem?_eq_some_iff.1 hk
  rw [insF_drop f l k h, List.drop_eq_getElem_cons hk1, insF, if_neg hn, if_neg hne]; simp
theorem insF_is {f : Fm} {l : List Fm} {k : Nat} (h : ∀ j x, l[j]? = some x → j < k → fcmpJ x f < 0) {x : Fm} (hk : l[k]? = some x) (hn : ¬ fcmpJ x f < 0) (he : x = f) : insF f l = l := by
  obtain ⟨hk1, rfl⟩ := List.getElem?_eq_some_iff.1 hk
  rw [insF_drop f l k h, List.drop_eq_getElem_cons hk1, insF, if_neg hn, if_pos he, ← List.drop_eq_getElem_cons hk1, List.take_append_drop]
theorem insF_len (f : Fm) : ∀ l : List Fm, (insF f l).length ≤ l.length + 1
  | [] => by simp [insF]
  | x :: xs => by
    rw [insF]
    have := insF_len f xs
    split
    · simp only [List.length_cons]; omega
    · split <;> simp
section
variable {α : Type} {E : PH → List Value → α → Prop} {sz : Nat} {h : PH} {b : Nat}
theorem RowRep.takeG : ∀ {xs : List α} {o : Nat} (k : Nat), RowRep h E sz b o xs → RowRep h E sz b o (xs.take k)
  | _, _, 0, _ => by rw [List.take_zero]; trivial
  | [], _, k + 1, _ => by rw [List.take_nil]; trivial
  | x :: xs, o, k + 1, hr => ⟨hr.1, RowRep.takeG k hr.2⟩
end
theorem fmsR_take {H : PH} {a : Option Addr} {n c : Nat} {l : List Fm} (hr : FmsR H (.slice a n c) l) (k c' : Nat) (hk : k ≤ l.length) (h1 : k ≤ c') (h2 : c' ≤ c) : FmsR H (.slice a k c') (l.take k) := by
  obtain ⟨a', c', h1, h2, h3, h4⟩ := hr
  cases h1
  refine ⟨_, _, by rw [List.length_take, Nat.min_eq_left hk], by rw [List.length_take, Nat.min_eq_left hk]; omega, by omega, ?_⟩
  rcases h4 with rfl | ⟨b, o, h6, h5⟩
  · exact .inl (by simp)
  · exact .inr ⟨b, o, h6, h5.takeG k⟩
theorem fmsR_drop {H : PH} {b o n c : Nat} {l : List Fm} (hr : FmsR H (.slice (some ⟨b, o, none⟩) n c) l) (k : Nat) (hk : k < l.length) : FmsR H (.slice (some ⟨b, o + k * 4, none⟩) (l.length - k) (c - k)) (l.drop k) := by
  obtain ⟨a', c', h1, h2, h3, h4⟩ := hr
  cases h1
  refine ⟨_, c - k, by rw [List.length_drop], by rw [List.length_drop]; omega, by omega, ?_⟩
  rcases h4 with rfl | ⟨b, o, h6, h5⟩
  · exact .inl (by simp)
  · cases h6
    exact .inr ⟨_, _, rfl, h5.dropG k⟩
theorem fmsR_none {H : PH} {a : Option Addr} {n c : Nat} (hn : n = 0) (hc : c ≤ maxLen) : FmsR H (.slice a n c) [] := by subst hn; exact ⟨a, c, rfl, Nat.zero_le _, hc, .inl rfl⟩
theorem fmsR_cap {H : PH} {a : Option Addr} {n c : Nat} {l : List Fm} (hr : FmsR H (.slice a n c) l) : l.length ≤ c ∧ c ≤ maxLen := by
  obtain ⟨a', c', h1, h2, h3, h4⟩ := hr
  cases h1; exact ⟨h2, h3⟩
def FmsQ (w : World) (H : PH) (l : List Fm) (e : Ending) (w' : World) : Prop := ∃ v, e = .returned v ∧ Ext w w' ∧ FmsR (up H w w') v l
set_option maxRecDepth 100000 in
set_option maxHeartbeats 8000000 in
theorem rput_c {H : PH} (l : List Fm) (f : Fm) (v : Value) (cs : List Value) (w : World) (hl : PLe H (ph w)) (hr : FmsR H v l) (hf : FmR H cs f) (hb : f.bulk ≤ 400000) (hbl : ∀ x ∈ l, x.bulk ≤ 400000) (hll : l.length ≤ 400000) :
    Calls Tryz.prog 155 #[v, .agg cs.toArray] w (FmsQ w H (insF f l)) := by
  obtain ⟨a, c, rfl, -, hr⟩ := hr.form
  obtain ⟨hc0, hc1⟩ := fmsR_cap hr
  obtain ⟨a3, c3, a4, c4, rfl, i1, i2, hil, hkl, hi, hk⟩ := hf.form
  unfold fmC at hf ⊢
  have hM0 := (Mem.start w H hl).new' #[.int .i64 f.op, .int .i64 f.n, .slice a3 f.inn.length c3, .slice a4 f.kids.length c4] 29 (n := w.heap.size) rfl
  simp only [List.nil_append] at hM0
  go_enter Tryz.func155, Tryz.ntmps155
  go_upto_block 0 with (fail)
  generalize World.alloc _ _ = w1 at *
  go_wp2_with fail
  go_loopw [5] (fun i wr => ∃ k : Nat, k ≤ l.length ∧ i = .int .i64 k ∧ Hid (∀ j x, l[j]? = some x → j < k → fcmpJ x f < 0) ∧ Mem w H [box w.heap.size #[.int .i64 f.op, .int .i64 f.n, .slice a3 f.inn.length c3, .slice a4 f.kids.length c4] 29] H wr) (fun i _ => l.length - (intOf i).toNat)
  case atStart => exact ⟨0, by omega, rfl, Lib.hid (fun j x _ h => by omega), hM0⟩
  case round =>
    clear hM0
    obtain ⟨k, hkl2, rfl, hlt, hM⟩ := hrel
    by_cases hk3 : k < l.length
    · have b0 : decide ((k : Int) < (l.length : Int)) = true := by simp; omega
      obtain ⟨kb, ko, k3, m3, k4, m4, ek, z0, z1, z2, z3, hE, zl⟩ := FmsR.atH hr hM.ple k hk3
      cases ek
      have hxl : l[k]? = some l[k] := List.getElem?_eq_getElem hk3
      have hxb := hbl _ (List.getElem_mem hk3)
      generalize l[k] = x at *
      obtain ⟨uc, uf⟩ := (hM.box 0 rfl).facts
      have ul := (hM.box 0 rfl).lt
      have u0 : _ = some (Value.int .i64 f.op) := uc 0
      have u1 : _ = some (Value.int .i64 f.n) := uc 1
      have u2 : _ = some (Value.slice a3 f.inn.length c3) := uc 2
      have u3 : _ = some (Value.slice a4 f.kids.length c4) := uc 3
      have hcp := Lib.hid (fun W (e : Ext wr W) => rcmpB_c x f _ _ W (mono_FmR _ _ _ _ (hM.ple.trans e.ple) hE) (mono_FmR _ _ _ _ (hM.ple.trans e.ple) hf) hxb hb)
      have hsm := Lib.hid (fun W (e : Ext wr W) => rsameB_c x f _ _ W (mono_FmR _ _ _ _ (hM.ple.trans e.ple) hE) (mono_FmR _ _ _ _ (hM.ple.trans e.ple) hf) hxb hb)
      simp only [fmC] at hcp hsm
      rw [cmpF_J] at hcp
      have hxl := Lib.hid hxl
      clear uc uf
      go_upto_region 2 with (fail)
      (refine wp_region_I 13 (by kernel_rfl) (by kernel_rfl) ?_; simp only [List.toList_toArray, List.take_succ_cons, List.take_zero, List.drop_succ_cons, List.drop_zero])
      iterate 5 (refine walkI_is (u := ?_) rfl (by simp) rfl ?_ ?_; rotate_left; (focus (intro A w' hS hA K hK; (simp only [List.map_cons, List.map_nil, knows, Is, Op.operands, Call.operands, List.lookup_cons, List.lookup_nil, Nat.reduceBEq, Bool.false_eq_true, if_false, if_true, Act.eval, Array.getD_eq_getD_getElem?, List.getElem?_toArray, List.getElem?_cons_succ, List.getElem?_cons_zero, Option.getD_some, and_true, true_and, List.append_toArray, List.nil_append, List.cons_append, List.toList_toArray, Array.toList_append, Option.toArray, List.append_nil] at hA); (obtain ⟨hSc, hSf, hSs⟩ := hS.cells; go_simp; exact hK _ xN))); (try simp only [List.nil_append, List.cons_append]))
      iterate 5 (refine walkI_yesis (u := ?_) rfl (by simp) rfl rfl rfl ?_ ?_; rotate_left; (focus (intro A w' hS hA K hK; (simp only [List.map_cons, List.map_nil, knows, Is, Op.operands, Call.operands, List.lookup_cons, List.lookup_nil, Nat.reduceBEq, Bool.false_eq_true, if_false, if_true, Act.eval, Array.getD_eq_getD_getElem?, List.getElem?_toArray, List.getElem?_cons_succ, List.getElem?_cons_zero, Option.getD_some, and_true, true_and, List.append_toArray, List.nil_append, List.cons_append, List.toList_toArray, Array.toList_append, Option.toArray, List.append_nil] at hA); (obtain ⟨hSc, hSf, hSs⟩ := hS.cells; go_simp; exact hK _ xN))); (try simp only [List.nil_append, List.cons_append]))
      (refine walkI_yesis (u := ?_) rfl (by simp) rfl rfl rfl ?_ ?_; rotate_left; (focus (intro A w' hS hA K hK; (simp only [List.map_cons, List.map_nil, knows, Is, Op.operands, Call.operands, List.lookup_cons, List.lookup_nil, Nat.reduceBEq, Bool.false_eq_true, if_false, if_true, Act.eval, Array.getD_eq_getD_getElem?, List.getElem?_toArray, List.getElem?_cons_succ, List.getElem?_cons_zero, Option.getD_some, and_true, true_and, List.append_toArray, List.nil_append, List.cons_append, List.toList_toArray, Array.toList_append, Option.toArray, List.append_nil] at hA); first | (go_simp; refine RetV_at (hcp.out _ hS) ?_; intro w'' hx''; exact hK _ hx'') | (obtain ⟨hSc, hSf, hSs⟩ := hS.cells; go_simp; exact hK _ xN))); (try simp only [List.nil_append, List.cons_append]))
      (refine walkI_yesis (u := ?_) rfl (by simp) rfl rfl rfl ?_ ?_; rotate_left; (focus (intro A w' hS hA K hK; (simp only [List.map_cons, List.map_nil, knows, Is, Op.operands, Call.operands, List.lookup_cons, List.lookup_nil, Nat.reduceBEq, Bool.false_eq_true, if_false, if_true, Act.eval, Array.getD_eq_getD_getElem?, List.getElem?_toArray, List.getElem?_cons_succ, List.getElem?_cons_zero, Option.getD_some, and_true, true_and, List.append_toArray, List.nil_append, List.cons_append, List.toList_toArray, Array.toList_append, Option.toArray, List.append_nil] at hA); (obtain ⟨hSc, hSf, hSs⟩ := hS.cells; go_simp; exact hK _ xN))); (try simp only [List.nil_append, List.cons_append]))
      (refine walkI_is (u := ?_) rfl (by simp) rfl ?_ ?_; rotate_left; (focus (intro A w' hS hA K hK; (simp only [List.map_cons, List.map_nil, knows, Is, Op.operands, Call.operands, List.lookup_cons, List.lookup_nil, Nat.reduceBEq, Bool.false_eq_true, if_false, if_true, Act.eval, Array.getD_eq_getD_getElem?, List.getElem?_toArray, List.getElem?_cons_succ, List.getElem?_cons_zero, Option.getD_some, and_true, true_and, List.append_toArray, List.nil_append, List.cons_append, List.toList_toArray, Array.toList_append, Option.toArray, List.append_nil] at hA); (obtain ⟨hSc, hSf, hSs⟩ := hS.cells; go_simp; exact hK _ xN))); (try simp only [List.nil_append, List.cons_append]))
      (refine walkI_nil ?_; simp only [List.nil_append, List.cons_append, fins, Is, forall_eq, Act.put, List.setIfInBounds_toArray, List.set_cons_zero, List.set_cons_succ])
      intro w3 hx3
      replace hM := hM.ext hx3
      by_cases hcl : fcmpJ x f < 0
      · have b1 : decide (fcmpJ x f < 0) = true := by simpa using hcl
        have hcl := Lib.hid hcl
        clear u0 u1 u2 u3 ul z0 z1 z2 z3 zl hcp hsm b0
        go_wp2_with fail
        go_roundw
        case rel =>
          refine ⟨k + 1, by omega, by go_num, Lib.hid fun j y hj hjk => ?_, hM⟩
          by_cases e : j = k
          · subst e; rw [hxl.out] at hj; cases hj; exact hcl.out
          · exact hlt.out j y hj (by omega)
        case measure => simp [intOf]; omega
      · have b1 : decide (fcmpJ x f < 0) = false := by simpa using hcl
        have hcl := Lib.hid hcl
        replace hsm := Lib.hid (fun W (e : Ext w3 W) => hsm.out W (hx3.then e))
        replace z0 := hx3.cell1 z0
        replace z1 := hx3.cell1 z1
        replace z2 := hx3.cell1 z2
        replace z3 := hx3.cell1 z3
        replace u0 := hx3.cell1 u0
        replace u1 := hx3.cell1 u1
        replace u2 := hx3.cell1 u2
        replace u3 := hx3.cell1 u3
        replace zl := cell_lt z0
        replace ul := cell_lt u0
        clear hcp hx3
        go_upto_region 4 with (fail)
        (refine wp_region_I 12 (by kernel_rfl) (by kernel_rfl) ?_; simp only [List.toList_toArray, List.take_succ_cons, List.take_zero, List.drop_succ_cons, List.drop_zero])
        iterate 5 (refine walkI_is (u := ?_) rfl (by simp) rfl ?_ ?_; rotate_left; (focus (intro A w' hS hA K hK; (simp only [List.map_cons, List.map_nil, knows, Is, Op.operands, Call.operands, List.lookup_cons, List.lookup_nil, Nat.reduceBEq, Bool.false_eq_true, if_false, if_true, Act.eval, Array.getD_eq_getD_getElem?, List.getElem?_toArray, List.getElem?_cons_succ, List.getElem?_cons_zero, Option.getD_some, and_true, true_and, List.append_toArray, List.nil_append, List.cons_append, List.toList_toArray, Array.toList_append, Option.toArray, List.append_nil] at hA); (obtain ⟨hSc, hSf, hSs⟩ := hS.cells; go_simp; exact hK _ xN))); (try simp only [List.nil_append, List.cons_append]))
        iterate 5 (refine walkI_yesis (u := ?_) rfl (by simp) rfl rfl rfl ?_ ?_; rotate_left; (focus (intro A w' hS hA K hK; (simp only [List.map_cons, List.map_nil, knows, Is, Op.operands, Call.operands, List.lookup_cons, List.lookup_nil, Nat.reduceBEq, Bool.false_eq_true, if_false, if_true, Act.eval, Array.getD_eq_getD_getElem?, List.getElem?_toArray, List.getElem?_cons_succ, List.getElem?_cons_zero, Option.getD_some, and_true, true_and, List.append_toArray, List.nil_append, List.cons_append, List.toList_toArray, Array.toList_append, Option.toArray, List.append_nil] at hA); (obtain ⟨hSc, hSf, hSs⟩ := hS.cells; go_simp; exact hK _ xN))); (try simp only [List.nil_append, List.cons_append]))
        (refine walkI_yesis (u := ?_) rfl (by simp) rfl rfl rfl ?_ ?_; rotate_left; (focus (intro A w' hS hA K hK; (simp only [List.map_cons, List.map_nil, knows, Is, Op.operands, Call.operands, List.lookup_cons, List.lookup_nil, Nat.reduceBEq, Bool.false_eq_true, if_false, if_true, Act.eval, Array.getD_eq_getD_getElem?, List.getElem?_toArray, List.getElem?_cons_succ, List.getElem?_cons_zero, Option.getD_some, and_true, true_and, List.append_toArray, List.nil_append, List.cons_append, List.toList_toArray, Array.toList_append, Option.toArray, List.append_nil] at hA); first | (go_simp; refine RetV_at (hsm.out _ hS) ?_; intro w'' hx''; exact hK _ hx'') | (obtain ⟨hSc, hSf, hSs⟩ := hS.cells; go_simp; exact hK _ xN))); (try simp only [List.nil_append, List.cons_append]))
        (refine walkI_is (u := ?_) rfl (by simp) rfl ?_ ?_; rotate_left; (focus (intro A w' hS hA K hK; (simp only [List.map_cons, List.map_nil, knows, Is, Op.operands, Call.operands, List.lookup_cons, List.lookup_nil, Nat.reduceBEq, Bool.false_eq_true, if_false, if_true, Act.eval, Array.getD_eq_getD_getElem?, List.getElem?_toArray, List.getElem?_cons_succ, List.getElem?_cons_zero, Option.getD_some, and_true, true_and, List.append_toArray, List.nil_append, List.cons_append, List.toList_toArray, Array.toList_append, Option.toArray, List.append_nil] at hA); (obtain ⟨hSc, hSf, hSs⟩ := hS.cells; go_simp; exact hK _ xN))); (try simp only [List.nil_append, List.cons_append]))
        (refine walkI_nil ?_; simp only [List.nil_append, List.cons_append, fins, Is, forall_eq, Act.put, List.setIfInBounds_toArray, List.set_cons_zero, List.set_cons_succ])
        intro w4 hx4
        replace hM := hM.ext hx4
        clear hsm hx4 z0 z1 z2 z3 zl u0 u1 u2 u3 ul hE b0 b1
        by_cases hxf : x = f
        · rw [B_t hxf]
          have hv : Hid (insF f l = l) := Lib.hid (insF_is hlt.out hxl.out hcl.out hxf)
          have hrr := hr.mono mono_FmR hM.ub
          have hx9 := hM.ex
          clear hM hlt
          go_wp2_with fail
          go_ret
          exact ⟨_, rfl, hx9, by rw [hv.out]; exact hrr⟩
        · rw [B_f hxf]
          have hins : Hid (insF f l = l.take k ++ f :: l.drop k) := Lib.hid (by have h := insF_at hlt.out hxl.out hcl.out hxf; simpa using h)
          have hN := hM.nil mono_FmR 4 29
          simp only [List.cons_append, List.nil_append] at hN
          have htk := Lib.hid (show (l.take k).length = k by rw [List.length_take]; omega)
          have hdk := Lib.hid (show (l.drop k : List Fm).length = l.length - k by exact List.length_drop)
          have hS1 := Src.ofRep (fmsR_take hr k c hkl2 (by omega) (Nat.le_refl c)) hN.ple
          have hwl : IntKind.i64.wrap ((l.length : Int) - (k : Int)) = (l.length : Int) - (k : Int) := by rw [IntKind.wrap_i64]; omega
          have hcz : (k : Int) ≤ (c : Int) := by omega
          clear hlt
          go_wp2_with (first | (at_builtin; refine wpList_append_M 1 rfl _ _ 23 rfl Tryz.underlying23 infoFm rfl rfl rfl hN rfl hS1 one_FmR (by simp only [List.length_nil, htk.out]; omega) (by simp only [List.length_nil, htk.out]; omega) ?c5))
          case c5 =>
          intro v5 w5 hM5
          try simp only [List.set_cons_zero, List.set_cons_succ, List.nil_append] at hM5
          obtain ⟨a5, k5, rfl, -⟩ := hM5.form 1 rfl
          clear hM hN hS1
          obtain ⟨uc, uf⟩ := (hM5.box 0 rfl).facts
          have ul := (hM5.box 0 rfl).lt
          have u0 : _ = some (Value.int .i64 f.op) := uc 0
          have u1 : _ = some (Value.int .i64 f.n) := uc 1
          have u2 : _ = some (Value.slice a3 f.inn.length c3) := uc 2
          have u3 : _ = some (Value.slice a4 f.kids.length c4) := uc 3
          have hM6 := hM5.ext (Ext.new w5 (.cells #[.int .i64 f.op, .int .i64 f.n, .slice a3 f.inn.length c3, .slice a4 f.kids.length c4] 29))
          have hS2 := Src.lit1 (E := FmR) (H := H) (w := w5.alloc (.cells #[.int .i64 f.op, .int .i64 f.n, .slice a3 f.inn.length c3, .slice a4 f.kids.length c4] 29)) (b := w5.heap.size) (sz := 4) hf rfl (fun j => by rw [(Proofs.YtbpilielamjnoaaGreat.Own.new w5 #[.int .i64 f.op, .int .i64 f.n, .slice a3 f.inn.length c3, .slice a4 f.kids.length c4] 29).facts.1 j]; simp)
          clear hM5
          go_wp2_with (first | (at_builtin; refine wpList_append_M 1 rfl _ _ 23 rfl Tryz.underlying23 infoFm rfl rfl rfl hM6 rfl hS2 one_FmR (by simp only [List.length_singleton, htk.out]; omega) (by simp only [List.length_singleton, htk.out]; omega) ?d5))
          case d5 =>
          intro v7 w7 hM7
          try simp only [List.set_cons_zero, List.set_cons_succ, List.nil_append] at hM7
          obtain ⟨a7, k7, rfl, -⟩ := hM7.form 1 rfl
          have hS3 := Src.ofRep (fmsR_drop hr k hk3) hM7.ple
          clear hM6 hS2 u0 u1 u2 u3 uc uf ul
          go_wp2_with (first | (at_builtin; refine wpList_append_M 1 rfl _ _ 23 rfl Tryz.underlying23 infoFm rfl rfl rfl hM7 rfl hS3 one_FmR (by simp only [List.length_append, List.length_singleton, htk.out, hdk.out]; omega) (by simp only [List.length_append, List.length_singleton, htk.out, hdk.out]; omega) ?e5))
          case e5 =>
          intro v9 w9 hM9
          try simp only [List.set_cons_zero, List.set_cons_succ, List.nil_append] at hM9
          obtain ⟨a9, k9, rfl, -⟩ := hM9.form 1 rfl
          obtain ⟨H6, hl6, hM10, hR6⟩ := hM9.freezeS 1 rfl
          go_wp2_with fail
          go_ret
          exact ⟨_, rfl, hM9.ex, by rw [hins.out]; exact hR6.mono mono_FmR hM10.ub⟩
    · have b0 : decide ((k : Int) < (l.length : Int)) = false := by simp; omega
      go_upto_region 2 with (fail)
      (refine wp_region_I 13 (by kernel_rfl) (by kernel_rfl) ?_; simp only [List.toList_toArray, List.take_succ_cons, List.take_zero, List.drop_succ_cons, List.drop_zero])
      iterate 5 (refine walkI_is (u := ?_) rfl (by simp) rfl ?_ ?_; rotate_left; (focus (intro A w' hS hA K hK; (simp only [List.map_cons, List.map_nil, knows, Is, Op.operands, Call.operands, List.lookup_cons, List.lookup_nil, Nat.reduceBEq, Bool.false_eq_true, if_false, if_true, Act.eval, Array.getD_eq_getD_getElem?, List.getElem?_toArray, List.getElem?_cons_succ, List.getElem?_cons_zero, Option.getD_some, and_true, true_and, List.append_toArray, List.nil_append, List.cons_append, List.toList_toArray, Array.toList_append, Option.toArray, List.append_nil] at hA); (obtain ⟨hSc, hSf, hSs⟩ := hS.cells; go_simp; exact hK _ xN))); (try simp only [List.nil_append, List.cons_append]))
      iterate 7 (refine walkI_no rfl (by simp) rfl rfl rfl ?_ ?_; (focus (simp [undef]; done)); (try simp only [List.nil_append, List.cons_append]))
      (refine walkI_is (u := ?_) rfl (by simp) rfl ?_ ?_; rotate_left; (focus (intro A w' hS hA K hK; (simp only [List.map_cons, List.map_nil, knows, Is, Op.operands, Call.operands, List.lookup_cons, List.lookup_nil, Nat.reduceBEq, Bool.false_eq_true, if_false, if_true, Act.eval, Array.getD_eq_getD_getElem?, List.getElem?_toArray, List.getElem?_cons_succ, List.getElem?_cons_zero, Option.getD_some, and_true, true_and, List.append_toArray, List.nil_append, List.cons_append, List.toList_toArray, Array.toList_append, Option.toArray, List.append_nil] at hA); (obtain ⟨hSc, hSf, hSs⟩ := hS.cells; go_simp; exact hK _ xN))); (try simp only [List.nil_append, List.cons_append]))
      (refine walkI_nil ?_; simp only [List.nil_append, List.cons_append, fins, Is, forall_eq, Act.put, List.setIfInBounds_toArray, List.set_cons_zero, List.set_cons_succ])
      intro w3 hx3
      replace hM := hM.ext hx3
      clear hx3
      go_upto_region 4 with (fail)
      (refine wp_region_I 12 (by kernel_rfl) (by kernel_rfl) ?_; simp only [List.toList_toArray, List.take_succ_cons, List.take_zero, List.drop_succ_cons, List.drop_zero])
      iterate 5 (refine walkI_is (u := ?_) rfl (by simp) rfl ?_ ?_; rotate_left; (focus (intro A w' hS hA K hK; (simp only [List.map_cons, List.map_nil, knows, Is, Op.operands, Call.operands, List.lookup_cons, List.lookup_nil, Nat.reduceBEq, Bool.false_eq_true, if_false, if_true, Act.eval, Array.getD_eq_getD_getElem?, List.getElem?_toArray, List.getElem?_cons_succ, List.getElem?_cons_zero, Option.getD_some, and_true, true_and, List.append_toArray, List.nil_append, List.cons_append, List.toList_toArray, Array.toList_append, Option.toArray, List.append_nil] at hA); (obtain ⟨hSc, hSf, hSs⟩ := hS.cells; go_simp; exact hK _ xN))); (try simp only [List.nil_append, List.cons_append]))
      iterate 6 (refine walkI_no rfl (by simp) rfl rfl rfl ?_ ?_; (focus (simp [undef]; done)); (try simp only [List.nil_append, List.cons_append]))
      (refine walkI_is (u := ?_) rfl (by simp) rfl ?_ ?_; rotate_left; (focus (intro A w' hS hA K hK; (simp only [List.map_cons, List.map_nil, knows, Is, Op.operands, Call.operands, List.lookup_cons, List.lookup_nil, Nat.reduceBEq, Bool.false_eq_true, if_false, if_true, Act.eval, Array.getD_eq_getD_getElem?, List.getElem?_toArray, List.getElem?_cons_succ, List.getElem?_cons_zero, Option.getD_some, and_true, true_and, List.append_toArray, List.nil_append, List.cons_append, List.toList_toArray, Array.toList_append, Option.toArray, List.append_nil] at hA); (obtain ⟨hSc, hSf, hSs⟩ := hS.cells; go_simp; exact hK _ xN))); (try simp only [List.nil_append, List.cons_append]))
      (refine walkI_nil ?_; simp only [List.nil_append, List.cons_append, fins, Is, forall_eq, Act.put, List.setIfInBounds_toArray, List.set_cons_zero, List.set_cons_succ])
      intro w4 hx4
      replace hM := hM.ext hx4
      clear hx4 b0
      have hins : Hid (insF f l = l.take k ++ [f]) := Lib.hid (by have h := insF_end hlt.out (show k = l.length by omega); rwa [List.drop_eq_nil_of_le (by omega), List.append_nil] at h)
      have hN := hM.nil mono_FmR 4 29
      simp only [List.cons_append, List.nil_append] at hN
      have htk := Lib.hid (show (l.take k).length = k by rw [List.length_take]; omega)
      have hdk := Lib.hid (show ([] : List Fm).length = l.length - k by (simp; omega))
      have hS1 := Src.ofRep (fmsR_take hr k c hkl2 (by omega) (Nat.le_refl c)) hN.ple
      have hwl : IntKind.i64.wrap ((l.length : Int) - (k : Int)) = (l.length : Int) - (k : Int) := by rw [IntKind.wrap_i64]; omega
      have hcz : (k : Int) ≤ (c : Int) := by omega
      clear hlt
      go_wp2_with (first | (at_builtin; refine wpList_append_M 1 rfl _ _ 23 rfl Tryz.underlying23 infoFm rfl rfl rfl hN rfl hS1 one_FmR (by simp only [List.length_nil, htk.out]; omega) (by simp only [List.length_nil, htk.out]; omega) ?c5))
      case c5 =>
      intro v5 w5 hM5
      try simp only [List.set_cons_zero, List.set_cons_succ, List.nil_append] at hM5
      obtain ⟨a5, k5, rfl, -⟩ := hM5.form 1 rfl
      clear hM hN hS1
      obtain ⟨uc, uf⟩ := (hM5.box 0 rfl).facts
      have ul := (hM5.box 0 rfl).lt
      have u0 : _ = some (Value.int .i64 f.op) := uc 0
      have u1 : _ = some (Value.int .i64 f.n) := uc 1
      have u2 : _ = some (Value.slice a3 f.inn.length c3) := uc 2
      have u3 : _ = some (Value.slice a4 f.kids.length c4) := uc 3
      have hM6 := hM5.ext (Ext.new w5 (.cells #[.int .i64 f.op, .int .i64 f.n, .slice a3 f.inn.length c3, .slice a4 f.kids.length c4] 29))
      have hS2 := Src.lit1 (E := FmR) (H := H) (w := w5.alloc (.cells #[.int .i64 f.op, .int .i64 f.n, .slice a3 f.inn.length c3, .slice a4 f.kids.length c4] 29)) (b := w5.heap.size) (sz := 4) hf rfl (fun j => by rw [(Proofs.YtbpilielamjnoaaGreat.Own.new w5 #[.int .i64 f.op, .int .i64 f.n, .slice a3 f.inn.length c3, .slice a4 f.kids.length c4] 29).facts.1 j]; simp)
      clear hM5
      go_wp2_with (first | (at_builtin; refine wpList_append_M 1 rfl _ _ 23 rfl Tryz.underlying23 infoFm rfl rfl rfl hM6 rfl hS2 one_FmR (by simp only [List.length_singleton, htk.out]; omega) (by simp only [List.length_singleton, htk.out]; omega) ?d5))
      case d5 =>
      intro v7 w7 hM7
      try simp only [List.set_cons_zero, List.set_cons_succ, List.nil_append] at hM7
      obtain ⟨a7, k7, rfl, -⟩ := hM7.form 1 rfl
      have hS3 := Lib.hid (fun x n y (h1 : n = 0) (h2 : y ≤ maxLen) => Src.ofRep (fmsR_none (H := H) (a := x) h1 h2) hM7.ple)
      clear hM6 hS2 u0 u1 u2 u3 uc uf ul
      by_cases hck : c = k
      · skip
        go_wp2_with (first | (at_builtin; refine wpList_append_M 1 rfl _ _ 23 rfl Tryz.underlying23 infoFm rfl rfl rfl hM7 rfl (hS3.out _ _ _ (by omega) (by omega)) one_FmR (by simp only [List.length_append, List.length_singleton, htk.out, hdk.out]; omega) (by simp only [List.length_append, List.length_singleton, htk.out, hdk.out]; omega) ?e5))
        case e5 =>
        intro v9 w9 hM9
        try simp only [List.set_cons_zero, List.set_cons_succ, List.nil_append] at hM9
        obtain ⟨a9, k9, rfl, -⟩ := hM9.form 1 rfl
        obtain ⟨H6, hl6, hM10, hR6⟩ := hM9.freezeS 1 rfl
        go_wp2_with fail
        go_ret
        exact ⟨_, rfl, hM9.ex, by rw [hins.out]; exact hR6.mono mono_FmR hM10.ub⟩
      · skip
        go_wp2_with (first | (at_builtin; refine wpList_append_M 1 rfl _ _ 23 rfl Tryz.underlying23 infoFm rfl rfl rfl hM7 rfl (hS3.out _ _ _ (by omega) (by omega)) one_FmR (by simp only [List.length_append, List.length_singleton, htk.out, hdk.out]; omega) (by simp only [List.length_append, List.length_singleton, htk.out, hdk.out]; omega) ?e5))
        case e5 =>
        intro v9 w9 hM9
        try simp only [List.set_cons_zero, List.set_cons_succ, List.nil_append] at hM9
        obtain ⟨a9, k9, rfl, -⟩ := hM9.form 1 rfl
        obtain ⟨H6, hl6, hM10, hR6⟩ := hM9.freezeS 1 rfl
        go_wp2_with fail
        go_ret
        exact ⟨_, rfl, hM9.ex, by rw [hins.out]; exact hR6.mono mono_FmR hM10.ub⟩
theorem rnever_c (f : Fm) (cs : List Value) (w : World) (hr : FmR (ph w) cs f) : Calls Tryz.prog 112 #[.agg cs.toArray] w (RetV w (.bool (neverB f))) := by
  obtain ⟨a3, c3, a4, c4, rfl, -⟩ := hr.form
  unfold fmC
  by_cases h5 : f.op = 5
  · have b5 : (f.op == 5) = true := by simpa using h5
    have hv : Hid (neverB f = ((f.kids.length : Int) == 0)) := by
      show _ = _
      unfold neverB
      rw [Bool.eq_iff_iff, decide_eq_true_iff, ← List.length_eq_zero_iff]
      simp [h5]
    clear h5 hr
    go_enter Tryz.func112, Tryz.ntmps112
    go_wp2_with fail
    go_ret
    exact ⟨ret_bool hv.out.symm, xE⟩
  · have b5 : (f.op == 5) = false := by simpa using h5
    have hv : Hid (neverB f = false) := by
      show _ = _
      unfold neverB
      simp [h5]
    clear h5 hr
    go_enter Tryz.func112, Tryz.ntmps112
    go_wp2_with fail
    go_ret
    exact ⟨ret_bool hv.out.symm, xE⟩
end Go.Proofs.YtbpilielamjnoaaGreat
