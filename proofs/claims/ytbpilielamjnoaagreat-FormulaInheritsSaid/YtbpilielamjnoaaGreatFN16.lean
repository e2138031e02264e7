/- the law's plain: a formula without OpNot; what holds still holds with more.; the law FormulaMeaning: the walk.; things of the reference: Size, Deep, formed, Valid, Value (as in SizeDeep and RefValid, for the seats of formulas). -/
import Derived.Test.YtbpilielamjnoaaGreatFN01
import Derived.Test.YtbpilielamjnoaaGreatFN10
import Derived.Test.YtbpilielamjnoaaGreatFN14
import Derived.Test.YtbpilielamjnoaaGreatFN15
namespace Go.Proofs.YtbpilielamjnoaaGreat
open Go.RowKit Go.Shelf
set_option linter.unusedSimpArgs false
set_option linter.unusedVariables false
mutual
def plainF : Fm → Fm
  | .mk op n inn kids => if op = 6 then plainFst kids else .mk op n inn (plainFs kids)
def plainFs : List Fm → List Fm
  | [] => []
  | f :: l => plainF f :: plainFs l
def plainFst : List Fm → Fm
  | [] => noF
  | f :: _ => plainF f
end
theorem plainFs_eq : ∀ l : List Fm, plainFs l = l.map plainF
  | [] => rfl
  | f :: l => by rw [plainFs, List.map_cons, plainFs_eq l]
theorem plainF_eq (f : Fm) : plainF f = if f.op = 6 then plainFst f.kids else .mk f.op f.n f.inn (f.kids.map plainF) := by
  cases f; rw [plainF, plainFs_eq]; rfl
theorem plainFst_one (g : Fm) : plainFst [g] = plainF g := rfl
theorem plain_size (f : Fm) : (plainF f).size ≤ f.size ∧ (plainF f).bulk ≤ f.bulk ∧ (plainF f).deep ≤ f.deep := by
  induction f using Fm.ind with
  | h f ih =>
    have h1 := sumN_map_mono (m := Fm.size) (g := plainF) f.kids fun x hx => (ih x hx).1
    have h2 := sumN_map_mono (m := Fm.bulk) (g := plainF) f.kids fun x hx => (ih x hx).2.1
    have h3 := maxN_map_mono (m := Fm.deep) (g := plainF) f.kids fun x hx => (ih x hx).2.2
    have e1 := f.size_eq
    have e2 := f.bulk_eq
    have e3 := f.deep_eq
    rw [plainF_eq]
    split
    · cases hk : f.kids with
      | nil =>
        show noF.size ≤ _ ∧ noF.bulk ≤ _ ∧ noF.deep ≤ _
        rw [no_size, no_bulk, no_deep]; omega
      | cons g l =>
        have hg : g ∈ f.kids := by rw [hk]; simp
        have h4 := ih g hg
        have h5 := Fm.kid_size hg
        have h6 := Fm.kid_le hg
        have h7 := kid_deep hg
        show (plainF g).size ≤ _ ∧ (plainF g).bulk ≤ _ ∧ (plainF g).deep ≤ _
        omega
    · rw [size_mk, bulk_mk, deep_mk]; omega
theorem plain_whole {cl : Int} (f : Fm) : wholeN cl f = true → wholeN cl (plainF f) = true := by
  induction f using Fm.ind with
  | h f ih =>
    intro h
    have e := f.eta
    have h' := h
    rw [e] at h'
    rw [plainF_eq]
    split
    · rename_i h6
      obtain ⟨g, hg⟩ := formed_one (wholeN_formed h) (.inr h6)
      rw [hg, plainFst_one]
      exact ih g (by rw [hg]; simp) (wholeN_k h (by rw [hg]; simp))
    · refine wholeN_mk' h' (by simp) fun g hg => ?_
      obtain ⟨x, hx, rfl⟩ := List.mem_map.1 hg
      exact ih x hx (wholeN_k h hx)
inductive NoNot : Fm → Prop where
  | mk (f : Fm) (h6 : f.op ≠ 6) (hk : ∀ g ∈ f.kids, NoNot g) : NoNot f
theorem plain_no {cl : Int} (f : Fm) : wholeN cl f = true → NoNot (plainF f) := by
  induction f using Fm.ind with
  | h f ih =>
    intro h
    rw [plainF_eq]
    split
    · rename_i h6
      obtain ⟨g, hg⟩ := formed_one (wholeN_formed h) (.inr h6)
      rw [hg, plainFst_one]
      exact ih g (by rw [hg]; simp) (wholeN_k h (by rw [hg]; simp))
    · rename_i h6
      refine .mk _ h6 fun g hg => ?_
      obtain ⟨x, hx, rfl⟩ := List.mem_map.1 hg
      exact ih x hx (wholeN_k h hx)
def Up (ps : List (List Int)) (t u : Thing) : Prop := (∀ c ∈ t.cls, ∀ n, isTx ps c n → ∃ d ∈ u.cls, isTx ps d n) ∧ u.vals = t.vals ∧ ∀ p ∈ t.parts, p ∈ u.parts
theorem hold_up {ps : List (List Int)} {t u : Thing} (hu : Up ps t u) (f : Fm) : NoNot f → hold ps f t = true → hold ps f u = true := by
  induction f using Fm.ind with
  | h f ih =>
    intro hn h
    cases hn with
    | mk _ h6 hk =>
    rw [hold_eq] at h ⊢
    by_cases h1 : f.op = 1
    · rw [if_pos h1] at h ⊢
      obtain ⟨c, hc, h2⟩ := List.any_eq_true.1 h
      obtain ⟨d, hd, h3⟩ := hu.1 c hc f.n (B_iff.1 h2)
      exact List.any_eq_true.2 ⟨d, hd, B_iff.2 h3⟩
    rw [if_neg h1] at h ⊢
    by_cases h2 : f.op = 2
    · rw [if_pos h2] at h ⊢
      rw [hu.2.1]; exact h
    rw [if_neg h2] at h ⊢
    by_cases h3 : f.op = 3
    · rw [if_pos h3] at h ⊢
      obtain ⟨p, hp, h4⟩ := List.any_eq_true.1 h
      exact List.any_eq_true.2 ⟨p, hu.2.2 p hp, h4⟩
    rw [if_neg h3] at h ⊢
    by_cases h4 : f.op = 4
    · rw [if_pos h4] at h ⊢
      rw [List.all_eq_true] at h ⊢
      exact fun g hg => ih g hg (hk g hg) (h g hg)
    rw [if_neg h4] at h ⊢
    by_cases h5 : f.op = 5
    · rw [if_pos h5] at h ⊢
      obtain ⟨g, hg, h7⟩ := List.any_eq_true.1 h
      exact List.any_eq_true.2 ⟨g, hg, ih g hg (hk g hg) h7⟩
    rw [if_neg h5, if_neg h6]
theorem rch_trans {ps : List (List Int)} {a b c : Nat} (h : Rch ps a b) : Rch ps b c → Rch ps a c := by
  induction h with
  | refl => exact id
  | step hl hp _ ih => exact fun k => .step hl hp (ih k)
theorem isTx_trans {ps : List (List Int)} {a b c : Int} (h : isTx ps a b) (k : isTx ps b c) : isTx ps a c :=
  ⟨h.1, h.2.1, k.2.2.1, k.2.2.2.1, rch_trans h.2.2.2.2 k.2.2.2.2⟩
set_option maxRecDepth 100000 in
set_option maxHeartbeats 8000000 in
theorem plain_c (f : Fm) : ∀ (H : PH) (cs : List Value) (w : World), PLe H (ph w) → FmR H cs f → wholeB f = true → f.bulk ≤ 400000 → Calls Tryz.prog 36 #[.agg cs.toArray] w (NewF w H (plainF f)) := by
  induction f using Fm.ind with
  | h f ih =>
    intro H cs w hl hr hw hb
    obtain ⟨a3, c3, a4, c4, rfl, i1, i2, -, -, hfi, hfk⟩ := hr.form
    have hkl := f.kids_le
    have hwk : ∀ x ∈ f.kids, wholeB x = true := fun x hx => by
      have h2 := hw
      rw [wholeB_eq, Bool.and_eq_true, List.all_eq_true] at h2
      exact h2.2 x hx
    have hfo : formed1 f = true := by rw [wholeB_eq, Bool.and_eq_true] at hw; exact hw.1
    have HI : Hid (∀ x ∈ f.kids, ∀ (H : PH) (cs : List Value) (w : World), PLe H (ph w) → FmR H cs x → Calls Tryz.prog 36 #[.agg cs.toArray] w (NewF w H (plainF x))) := by
      show ∀ x ∈ f.kids, ∀ (H : PH) (cs : List Value) (w : World), PLe H (ph w) → FmR H cs x → Calls Tryz.prog 36 #[.agg cs.toArray] w (NewF w H (plainF x))
      intro x hx H cs w h1 h2
      have := Fm.kid_le hx
      exact ih x hx H cs w h1 h2 (hwk x hx) (by omega)
    clear ih hwk
    have hM := ((Mem.start w H hl).new' #[.int .i64 f.op, .int .i64 f.n, .slice a3 f.inn.length c3, .slice a4 f.kids.length c4] 29 (n := w.heap.size) rfl).new' #[.int .i64 0, .int .i64 0, .slice none 0 0, .slice none 0 0] 29 (n := w.heap.size + 1) (by simp)
    simp only [List.cons_append, List.nil_append] at hM
    unfold fmC
    by_cases h6 : f.op = 6
    · have b6 : (f.op == 6) = true := by simpa using h6
      obtain ⟨g, hg⟩ := formed_one hfo (.inr h6)
      have hJ : plainF f = plainF g := by rw [plainF_eq, if_pos h6, hg]; rfl
      rw [hJ]
      have hg1 : g ∈ f.kids := by rw [hg]; simp
      have hk1 : f.kids.length = 1 := by rw [hg]; rfl
      rw [hg] at hfk
      have hHg := HI.out g hg1
      rw [hk1] at hM ⊢
      clear HI hg hg1 hk1 h6 hJ hfo hw
      go_enter Tryz.func36, Tryz.ntmps36
      go_upto_region 1 with (fail)
      generalize World.alloc _ _ = w1 at *
      generalize hg4 : w.heap.size + 1 = g2 at *
      generalize hg3 : w.heap.size = g1 at *
      obtain ⟨kb, ko, k3, m3, k4, m4, ek, z0, z1, z2, z3, hE, zl⟩ := FmsR.atH hfk hM.ple 0 (by simp)
      cases ek
      simp only [List.getElem_cons_zero, Nat.zero_mul, Nat.add_zero] at z0 z1 z2 z3 hE
      have u0 : w1.cell? ⟨g1, 0, none⟩ = some (.int .i64 f.op) := (hM.box 0 rfl).facts.1 0
      have u3 : w1.cell? ⟨g1, 3, none⟩ = some (.slice (some ⟨kb, ko, none⟩) 1 c4) := (hM.box 0 rfl).facts.1 3
      have ul := (hM.box 0 rfl).lt
      have hc := hHg H _ w1 hM.ple hE
      unfold fmC at hc
      generalize plainF g = R at *
      clear hHg hE
      go_wp2_with fail
      refine hc.mono ?_
      rintro e w4 ⟨r3, s3, r4, s4, rfl, hx4, hQ⟩
      have hM4 := hM.up hx4
      generalize up H w1 w4 = H4 at *
      clear hM hx4 hc u0 u3 ul z0 z1 z2 z3 zl
      have rz0 : _ = some (Value.int .i64 0) := (hM4.box 1 rfl).facts.1 0
      have rz1 : _ = some (Value.int .i64 0) := (hM4.box 1 rfl).facts.1 1
      have rz2 : _ = some (Value.slice none 0 0) := (hM4.box 1 rfl).facts.1 2
      have rz3 : _ = some (Value.slice none 0 0) := (hM4.box 1 rfl).facts.1 3
      obtain ⟨-, rzf⟩ := (hM4.box 1 rfl).facts
      have rzl := (hM4.box 1 rfl).lt
      have hM8 := hM4.set4 1 rfl (.int .i64 R.op) (.int .i64 R.n) (.slice r3 R.inn.length s3) (.slice r4 R.kids.length s4)
      simp only [List.set_cons_zero, List.set_cons_succ] at hM8
      clear hM4
      go_wp2_with fail
      generalize World.setCell _ _ _ = w9 at *
      obtain ⟨rq', -⟩ := (hM8.box 1 rfl).facts
      have rq0 : _ = some ((.int .i64 R.op) : Value) := rq' 0
      have rq1 : _ = some ((.int .i64 R.n) : Value) := rq' 1
      have rq2 : _ = some ((.slice r3 R.inn.length s3) : Value) := rq' 2
      have rq3 : _ = some ((.slice r4 R.kids.length s4) : Value) := rq' 3
      refine bodyPost_ret (v := .agg #[(.int .i64 R.op), (.int .i64 R.n), (.slice r3 R.inn.length s3), (.slice r4 R.kids.length s4)]) (by simp [results, Tryz.results36, go_sem, rq0, rq1, rq2, rq3]) rfl ?_
      exact ⟨r3, s3, r4, s4, rfl, hM8.ex, mono_FmR _ _ _ _ hM8.ub hQ⟩
    · have b6 : (f.op == 6) = false := by simpa using h6
      have hJ : Hid (plainF f = .mk f.op f.n f.inn (f.kids.map plainF)) := by show _ = _; rw [plainF_eq, if_neg h6]
      generalize plainF f = J at *
      clear h6 hfo hw
      go_enter Tryz.func36, Tryz.ntmps36
      go_upto_region 1 with (fail)
      generalize World.alloc _ _ = w1 at *
      generalize hg4 : w.heap.size + 1 = g2 at *
      generalize hg3 : w.heap.size = g1 at *
      have u0 : w1.cell? ⟨g1, 0, none⟩ = some (.int .i64 f.op) := (hM.box 0 rfl).facts.1 0
      have ul := (hM.box 0 rfl).lt
      have hM0 := hM.nil mono_FmR 4 29
      simp only [List.cons_append, List.nil_append] at hM0
      go_wp2_with fail
      go_loopw [3, 4] (fun v i wr => ∃ (k : Nat) (out : List Fm) (H' : PH), k ≤ f.kids.length ∧ i = .int .i64 k ∧ Mem w H [box g1 #[.int .i64 f.op, .int .i64 f.n, .slice a3 f.inn.length c3, .slice a4 f.kids.length c4] 29, box g2 #[.int .i64 0, .int .i64 0, .slice none 0 0, .slice none 0 0] 29, own mono_FmR 4 29 v out] H' wr ∧ Hid (out = (f.kids.take k).map plainF) ∧ out.length ≤ k) (fun _ i _ => f.kids.length - (intOf i).toNat)
      case atStart => exact ⟨0, [], H, by omega, rfl, hM0, Lib.hid (by simp), by simp⟩
      case round =>
        clear hM hM0 u0 ul
        obtain ⟨k, out, H', hk2, rfl, hM, hout, hol⟩ := hrel
        obtain ⟨va, vc, rfl, -⟩ := hM.form 2 rfl
        have u3 : wr.cell? ⟨g1, 3, none⟩ = some (.slice a4 f.kids.length c4) := (hM.box 0 rfl).facts.1 3
        have ul := (hM.box 0 rfl).lt
        by_cases hlt : k < f.kids.length
        · obtain ⟨kb, ko, k3, m3, k4, m4, ek, z0, z1, z2, z3, hE, zl⟩ := FmsR.atH hfk (hM.le.trans hM.ple) k hlt
          cases ek
          have htk : Hid ((f.kids.take (k + 1)).map plainF = (f.kids.take k).map plainF ++ [plainF f.kids[k]]) := by
            show _ = _
            rw [List.take_succ_eq_append_getElem hlt, List.map_append]; rfl
          have hc := HI.out f.kids[k] (List.getElem_mem hlt) H' _ wr hM.ple (mono_FmR _ _ _ _ hM.le hE)
          have hd1 : decide (k < f.kids.length) = true := decide_eq_true hlt
          generalize f.kids[k] = x at *
          generalize plainF x = g at *
          unfold fmC at hc
          clear hE
          go_wp2_with fail
          refine hc.mono ?_
          rintro e w4 ⟨p3, q3, p4, q4, rfl, hx4, hQ⟩
          have hM4 := hM.up hx4
          generalize up H' wr w4 = H4 at *
          clear hM hx4 hc z0 z1 z2 z3 zl u3 ul
          unfold fmC at hQ
          have hM5 := hM4.ext (Ext.new w4 (.cells #[.int .i64 g.op, .int .i64 g.n, .slice p3 g.inn.length q3, .slice p4 g.kids.length q4] 29))
          have hS := Src.lit1 (E := FmR) (H := H4) (w := w4.alloc (.cells #[.int .i64 g.op, .int .i64 g.n, .slice p3 g.inn.length q3, .slice p4 g.kids.length q4] 29)) (b := w4.heap.size) (sz := 4) hQ rfl (fun j => by rw [(Proofs.YtbpilielamjnoaaGreat.Own.new w4 #[.int .i64 g.op, .int .i64 g.n, .slice p3 g.inn.length q3, .slice p4 g.kids.length q4] 29).facts.1 j]; simp)
          clear hM4
          go_wp2_with (first | (at_builtin; refine wpList_append_M 2 rfl _ _ 23 rfl Tryz.underlying23 infoFm rfl rfl rfl hM5 rfl hS one_FmR (by simp; omega) (by simp; omega) ?c5))
          case c5 =>
          intro v' w' hM6
          try simp only [List.set_cons_zero, List.set_cons_succ] at hM6
          clear hM5 hS
          obtain ⟨na, nc, rfl, -⟩ := hM6.form 2 rfl
          go_wp2_with fail
          go_roundw
          case rel => exact ⟨k + 1, out ++ [g], H4, by omega, by go_num, hM6, Lib.hid (by rw [htk.out, hout.out]), by simp; omega⟩
          case measure => simp [intOf]; omega
        · obtain rfl : k = f.kids.length := by omega
          have hd1 : decide (f.kids.length < f.kids.length) = false := by simp
          obtain ⟨H5, hl5, hM5, hR5⟩ := hM.freezeS 2 rfl
          replace hM5 := hM5.pick [0, 1] (by decide)
          simp only [List.set_cons_succ, List.set_cons_zero, List.map_cons, List.map_nil, List.getElem?_cons_zero, List.getElem?_cons_succ, Option.getD_some] at hM5
          have hout' : Hid (out = f.kids.map plainF) := by show _ = _; rw [hout.out, List.take_length]
          have hF : FmR H5 (fmC (.mk f.op f.n f.inn out) a3 c3 va vc) (.mk f.op f.n f.inn out) := FmR.of (f := .mk f.op f.n f.inn out) i1 i2 (hfi.mono mono_ItvR hM5.le) hR5
          clear hM hout u3 ul
          have u3 : wr.cell? ⟨g1, 3, none⟩ = some (.slice a4 f.kids.length c4) := (hM5.box 0 rfl).facts.1 3
          have e3 := (hM5.box 0 rfl).facts.2 3
          have ul := (hM5.box 0 rfl).lt
          have hM6 := hM5.set 0 rfl 3 (.slice va out.length vc)
          simp only [List.set_cons_zero, List.setIfInBounds_toArray, List.set_cons_succ] at hM6
          clear hM5
          go_upto_region 9 with (fail)
          generalize World.setCell _ _ _ = w5 at *
          clear u3 e3 ul
          have u0 : w5.cell? ⟨g1, 0, none⟩ = some (.int .i64 f.op) := (hM6.box 0 rfl).facts.1 0
          have u1 : w5.cell? ⟨g1, 1, none⟩ = some (.int .i64 f.n) := (hM6.box 0 rfl).facts.1 1
          have u2 : w5.cell? ⟨g1, 2, none⟩ = some (.slice a3 f.inn.length c3) := (hM6.box 0 rfl).facts.1 2
          have u3 : w5.cell? ⟨g1, 3, none⟩ = some (.slice va out.length vc) := (hM6.box 0 rfl).facts.1 3
          have ul := (hM6.box 0 rfl).lt
          have rz0 : _ = some (Value.int .i64 0) := (hM6.box 1 rfl).facts.1 0
          have rz1 : _ = some (Value.int .i64 0) := (hM6.box 1 rfl).facts.1 1
          have rz2 : _ = some (Value.slice none 0 0) := (hM6.box 1 rfl).facts.1 2
          have rz3 : _ = some (Value.slice none 0 0) := (hM6.box 1 rfl).facts.1 3
          obtain ⟨-, rzf⟩ := (hM6.box 1 rfl).facts
          have rzl := (hM6.box 1 rfl).lt
          have hM8 := hM6.set4 1 rfl (.int .i64 f.op) (.int .i64 f.n) (.slice a3 f.inn.length c3) (.slice va out.length vc)
          simp only [List.set_cons_zero, List.set_cons_succ] at hM8
          clear hM6
          go_wp2_with fail
          generalize World.setCell _ _ _ = w9 at *
          obtain ⟨rq', -⟩ := (hM8.box 1 rfl).facts
          have rq0 : _ = some ((.int .i64 f.op) : Value) := rq' 0
          have rq1 : _ = some ((.int .i64 f.n) : Value) := rq' 1
          have rq2 : _ = some ((.slice a3 f.inn.length c3) : Value) := rq' 2
          have rq3 : _ = some ((.slice va out.length vc) : Value) := rq' 3
          refine bodyPost_ret (v := .agg #[(.int .i64 f.op), (.int .i64 f.n), (.slice a3 f.inn.length c3), (.slice va out.length vc)]) (by simp [results, Tryz.results36, go_sem, rq0, rq1, rq2, rq3]) rfl ?_
          obtain rfl := hout'.out
          exact ⟨a3, c3, va, vc, by rw [hJ.out]; rfl, hM8.ex, by rw [hJ.out]; exact mono_FmR _ _ _ _ hM8.ub hF⟩
end Go.Proofs.YtbpilielamjnoaaGreat
namespace Go.Proofs.YtbpilielamjnoaaGreat
open Go.RowKit Go.Shelf
set_option linter.unusedSimpArgs false
set_option linter.unusedVariables false
def FmQ (w : World) (cl : Int) (sz dp : Nat) (e : Ending) (w' : World) : Prop := ∃ f a3 c3 a4 c4, e = .returned (fmV f a3 c3 a4 c4) ∧ Ext w w' ∧ FmR (ph w') (fmC f a3 c3 a4 c4) f ∧ wholeN cl f = true ∧ f.size ≤ sz ∧ f.deep ≤ dp ∧ validF f = 0
theorem some07_q (l : List Int) (vl : Value) (cl lf : Int) (d : Nat) (D : Int) (w : World) (hD : (d : Int) + 1 = D) (hr : IntsR (ph w) vl l) (hc0 : 0 < cl) (hc1 : cl ≤ 64) (hd : d ≤ 7) (h0 : 0 ≤ lf) (h1 : lf ≤ 30) :
    Calls Tryz.prog 19 #[vl, .int .i64 cl, .int .i64 lf, .int .i64 D] w (FmQ w cl (3 * lf.toNat + 1) (d + 1)) := by
  subst hD
  refine (some07_n l vl cl lf d w (fun _ _ h => h) hr hc0 hc1 hd h0 (by omega)).mono ?_
  rintro e w1 ⟨f, a3, c3, a4, c4, rfl, hF, hw, ⟨hz, hdp⟩, hx1⟩
  have hsz : f.size ≤ 3 * lf.toNat + 1 := by unfold SzP at hz; omega
  exact ⟨f, a3, c3, a4, c4, rfl, hx1, mono_FmR _ _ _ _ (up_ple (noH_le _) hx1) hF, hw, hsz, by omega, validF_of (by omega) (by omega) (wholeN_B hw)⟩
end Go.Proofs.YtbpilielamjnoaaGreat
namespace Go.Proofs.YtbpilielamjnoaaGreat
open Go.RowKit
set_option linter.unusedSimpArgs false
set_option linter.unusedVariables false
set_option maxHeartbeats 400000 in
theorem size_r (t : Thing) : ∀ (cs : List Value) (w : World), ThingR (ph w) cs t → t.size < 1000000 →
    Calls Tryz.prog 78 #[.agg cs.toArray] w (RetV w (.int .i64 t.size)) := by
  induction t using Thing.ind with
  | h t ih =>
    intro cs w hr hs
    obtain ⟨a1, c1, a2, c2, a3, c3, rfl, -, -, hlen, -, -, hp⟩ := hr.form
    rw [Thing.size_eq] at hs
    go_enter Tryz.func78, Tryz.ntmps78
    go_wp2
    go_loopw [3, 4] (fun n i wr => ∃ k : Nat, k ≤ t.parts.length ∧ i = .int .i64 k ∧ n = .int .i64 (1 + sumN Thing.size (t.parts.take k) : Nat) ∧ Own wr w.heap.size #[.slice a1 t.cls.length c1, .slice a2 t.vals.length c2, .slice a3 t.parts.length c3] 41 ∧ Ext w wr) (fun _ i _ => t.parts.length - (intOf i).toNat)
    case atStart => exact ⟨0, Nat.zero_le _, rfl, by simp [sumN], (by repeat (first | (with_reducible assumption) | (with_reducible exact Own.new _ _ _) | (with_reducible refine Own.new' _ _ _ ?_; (focus (simp; done))) | (with_reducible refine Own.alloc ?_ _) | (with_reducible refine Own.drew ?_) | (with_reducible refine Own.drewN ?_ _) | (with_reducible refine Own.keep (w := ?_) ?_ ?_; rotate_left; (with_reducible assumption); (exact (by with_reducible repeat (first | assumption | exact Ext.rfl' _ | exact Ext.new _ _ | refine Ext.alloc' ?_ _ | refine Ext.drew' ?_ | refine Ext.drewN' ?_ _ | (refine Ext.set' ?_ ?_ _; rotate_left; focus (first | omega | (simp; done) | (simp; omega))) | (refine Ext.then (b := ?_) ?_ ?_; rotate_left; rotate_left; assumption))))) | (with_reducible refine Own.keep (w := ?_) ?_ ?_; rotate_left; rotate_left; (with_reducible assumption)))), (by with_reducible repeat (first | assumption | exact Ext.rfl' _ | exact Ext.new _ _ | refine Ext.alloc' ?_ _ | refine Ext.drew' ?_ | refine Ext.drewN' ?_ _ | (refine Ext.set' ?_ ?_ _; rotate_left; focus (first | omega | (simp; done) | (simp; omega))) | (refine Ext.then (b := ?_) ?_ ?_; rotate_left; rotate_left; assumption)))⟩
    case round =>
      obtain ⟨k, hk, rfl, rfl, ho, hb⟩ := hrel
      obtain ⟨hoc, hof⟩ := ho.facts
      have hst := sumN_take_le Thing.size t.parts k
      by_cases hlt : k < t.parts.length
      · have hp' := hp.mono mono_ThingR hb.ple
        obtain ⟨b, o, b1, d1, b2, d2, b3, d3, rfl, h0, h1, h2, hE, hbl⟩ := ThingsR.at hp' k hlt
        have H3 := Lib.hid (sumN_take Thing.size t.parts k hlt)
        have hst2 := sumN_take_le Thing.size t.parts (k+1)
        rw [H3.out] at hst2
        have H := Lib.hid ih
        clear ih hp hp'
        go_wp2_with fail
        refine (H.out _ (by simp) _ _ (mono_ThingR _ _ _ _ (Ext.ple (by with_reducible repeat (first | assumption | exact Ext.rfl' _ | exact Ext.new _ _ | refine Ext.alloc' ?_ _ | refine Ext.drew' ?_ | refine Ext.drewN' ?_ _ | (refine Ext.set' ?_ ?_ _; rotate_left; focus (first | omega | (simp; done) | (simp; omega))) | (refine Ext.then (b := ?_) ?_ ?_; rotate_left; rotate_left; assumption)))) hE) (by omega)).mono ?_
        rintro e w1 ⟨rfl, hb1⟩
        go_wp2_with fail
        go_roundw
        case rel => exact ⟨k + 1, by omega, by go_num, by rw [H3.out]; go_num, (by repeat (first | (with_reducible assumption) | (with_reducible exact Own.new _ _ _) | (with_reducible refine Own.new' _ _ _ ?_; (focus (simp; done))) | (with_reducible refine Own.alloc ?_ _) | (with_reducible refine Own.drew ?_) | (with_reducible refine Own.drewN ?_ _) | (with_reducible refine Own.keep (w := ?_) ?_ ?_; rotate_left; (with_reducible assumption); (exact (by with_reducible repeat (first | assumption | exact Ext.rfl' _ | exact Ext.new _ _ | refine Ext.alloc' ?_ _ | refine Ext.drew' ?_ | refine Ext.drewN' ?_ _ | (refine Ext.set' ?_ ?_ _; rotate_left; focus (first | omega | (simp; done) | (simp; omega))) | (refine Ext.then (b := ?_) ?_ ?_; rotate_left; rotate_left; assumption))))) | (with_reducible refine Own.keep (w := ?_) ?_ ?_; rotate_left; rotate_left; (with_reducible assumption)))), (by with_reducible repeat (first | assumption | exact Ext.rfl' _ | exact Ext.new _ _ | refine Ext.alloc' ?_ _ | refine Ext.drew' ?_ | refine Ext.drewN' ?_ _ | (refine Ext.set' ?_ ?_ _; rotate_left; focus (first | omega | (simp; done) | (simp; omega))) | (refine Ext.then (b := ?_) ?_ ?_; rotate_left; rotate_left; assumption)))⟩
        case measure => simp [intOf]; omega
      · have hst2 : t.parts.take k = t.parts := List.take_of_length_le (by omega)
        have H3 := Lib.hid hst2
        clear hst2 ih hp
        go_wp2_with fail
        go_ret
        refine ⟨ret_int ?_, hb⟩
        rw [H3.out, Thing.size_eq]
set_option maxHeartbeats 400000 in
theorem deep_r (t : Thing) : ∀ (cs : List Value) (w : World), ThingR (ph w) cs t → t.deep < 1000000 →
    Calls Tryz.prog 79 #[.agg cs.toArray] w (RetV w (.int .i64 t.deep)) := by
  induction t using Thing.ind with
  | h t ih =>
    intro cs w hr hs
    obtain ⟨a1, c1, a2, c2, a3, c3, rfl, -, -, hlen, -, -, hp⟩ := hr.form
    rw [Thing.deep_eq] at hs
    go_enter Tryz.func79, Tryz.ntmps79
    go_wp2
    go_loopw [3, 4] (fun n i wr => ∃ k : Nat, k ≤ t.parts.length ∧ i = .int .i64 k ∧ n = .int .i64 (maxN Thing.deep (t.parts.take k) : Nat) ∧ Own wr w.heap.size #[.slice a1 t.cls.length c1, .slice a2 t.vals.length c2, .slice a3 t.parts.length c3] 41 ∧ Ext w wr) (fun _ i _ => t.parts.length - (intOf i).toNat)
    case atStart => exact ⟨0, Nat.zero_le _, rfl, by simp [maxN], (by repeat (first | (with_reducible assumption) | (with_reducible exact Own.new _ _ _) | (with_reducible refine Own.new' _ _ _ ?_; (focus (simp; done))) | (with_reducible refine Own.alloc ?_ _) | (with_reducible refine Own.drew ?_) | (with_reducible refine Own.drewN ?_ _) | (with_reducible refine Own.keep (w := ?_) ?_ ?_; rotate_left; (with_reducible assumption); (exact (by with_reducible repeat (first | assumption | exact Ext.rfl' _ | exact Ext.new _ _ | refine Ext.alloc' ?_ _ | refine Ext.drew' ?_ | refine Ext.drewN' ?_ _ | (refine Ext.set' ?_ ?_ _; rotate_left; focus (first | omega | (simp; done) | (simp; omega))) | (refine Ext.then (b := ?_) ?_ ?_; rotate_left; rotate_left; assumption))))) | (with_reducible refine Own.keep (w := ?_) ?_ ?_; rotate_left; rotate_left; (with_reducible assumption)))), (by with_reducible repeat (first | assumption | exact Ext.rfl' _ | exact Ext.new _ _ | refine Ext.alloc' ?_ _ | refine Ext.drew' ?_ | refine Ext.drewN' ?_ _ | (refine Ext.set' ?_ ?_ _; rotate_left; focus (first | omega | (simp; done) | (simp; omega))) | (refine Ext.then (b := ?_) ?_ ?_; rotate_left; rotate_left; assumption)))⟩
    case round =>
      obtain ⟨k, hk, rfl, rfl, ho, hb⟩ := hrel
      obtain ⟨hoc, hof⟩ := ho.facts
      have hst := maxN_take_le Thing.deep t.parts k
      by_cases hlt : k < t.parts.length
      · have hp' := hp.mono mono_ThingR hb.ple
        obtain ⟨b, o, b1, d1, b2, d2, b3, d3, rfl, h0, h1, h2, hE, hbl⟩ := ThingsR.at hp' k hlt
        have H3 := Lib.hid (maxN_take Thing.deep t.parts k hlt)
        have hst2 := maxN_take_le Thing.deep t.parts (k+1)
        rw [H3.out] at hst2
        have H := Lib.hid ih
        clear ih hp hp'
        go_wp2_with fail
        refine (H.out _ (by simp) _ _ (mono_ThingR _ _ _ _ (Ext.ple (by with_reducible repeat (first | assumption | exact Ext.rfl' _ | exact Ext.new _ _ | refine Ext.alloc' ?_ _ | refine Ext.drew' ?_ | refine Ext.drewN' ?_ _ | (refine Ext.set' ?_ ?_ _; rotate_left; focus (first | omega | (simp; done) | (simp; omega))) | (refine Ext.then (b := ?_) ?_ ?_; rotate_left; rotate_left; assumption)))) hE) (by omega)).mono ?_
        rintro e w1 ⟨rfl, hb1⟩
        go_wp2_with fail
        go_roundw
        case rel => exact ⟨k + 1, by omega, by go_num, by rw [H3.out]; go_num, (by repeat (first | (with_reducible assumption) | (with_reducible exact Own.new _ _ _) | (with_reducible refine Own.new' _ _ _ ?_; (focus (simp; done))) | (with_reducible refine Own.alloc ?_ _) | (with_reducible refine Own.drew ?_) | (with_reducible refine Own.drewN ?_ _) | (with_reducible refine Own.keep (w := ?_) ?_ ?_; rotate_left; (with_reducible assumption); (exact (by with_reducible repeat (first | assumption | exact Ext.rfl' _ | exact Ext.new _ _ | refine Ext.alloc' ?_ _ | refine Ext.drew' ?_ | refine Ext.drewN' ?_ _ | (refine Ext.set' ?_ ?_ _; rotate_left; focus (first | omega | (simp; done) | (simp; omega))) | (refine Ext.then (b := ?_) ?_ ?_; rotate_left; rotate_left; assumption))))) | (with_reducible refine Own.keep (w := ?_) ?_ ?_; rotate_left; rotate_left; (with_reducible assumption)))), (by with_reducible repeat (first | assumption | exact Ext.rfl' _ | exact Ext.new _ _ | refine Ext.alloc' ?_ _ | refine Ext.drew' ?_ | refine Ext.drewN' ?_ _ | (refine Ext.set' ?_ ?_ _; rotate_left; focus (first | omega | (simp; done) | (simp; omega))) | (refine Ext.then (b := ?_) ?_ ?_; rotate_left; rotate_left; assumption)))⟩
        case measure => simp [intOf]; omega
      · have hst2 : t.parts.take k = t.parts := List.take_of_length_le (by omega)
        have H3 := Lib.hid hst2
        clear hst2 ih hp
        go_wp2_with fail
        go_ret
        refine ⟨ret_int ?_, hb⟩
        rw [H3.out, Thing.deep_eq]; omega
theorem inc_of {l : List Int} {m : Int} (h : ∀ j, j < l.length → incAt l m j) : Inc l m := fun j hj => h j hj hj
set_option maxRecDepth 100000 in
set_option maxHeartbeats 1000000 in
theorem formed_r (t : Thing) : ∀ (cs : List Value) (w : World), ThingR (ph w) cs t →
    Calls Tryz.prog 80 #[.agg cs.toArray] w (RetV w (.bool (B t.formed))) := by
  induction t using Thing.ind with
  | h t ih =>
    intro cs w hr
    obtain ⟨a1, c1, a2, c2, a3, c3, rfl, l1, l2, l3, hc, hv, hp⟩ := hr.form
    have HI := Lib.hid ih; clear ih
    have hF := Lib.hid (Thing.formed_iff t)
    go_enter Tryz.func80, Tryz.ntmps80
    go_wp2_with fail
    go_loopw [3] (fun i wr => ∃ k : Nat, k ≤ t.cls.length ∧ i = .int .i64 k ∧ Hid (∀ j, j < k → incAt t.cls 64 j) ∧ Own wr w.heap.size #[.slice a1 t.cls.length c1, .slice a2 t.vals.length c2, .slice a3 t.parts.length c3] 41 ∧ Ext w wr) (fun i _ => t.cls.length - (intOf i).toNat)
    case atStart => exact ⟨0, Nat.zero_le _, rfl, Lib.hid (by simp), (by repeat (first | (with_reducible assumption) | (with_reducible exact Own.new _ _ _) | (with_reducible refine Own.new' _ _ _ ?_; (focus (simp; done))) | (with_reducible refine Own.alloc ?_ _) | (with_reducible refine Own.drew ?_) | (with_reducible refine Own.drewN ?_ _) | (with_reducible refine Own.keep (w := ?_) ?_ ?_; rotate_left; (with_reducible assumption); (exact (by with_reducible repeat (first | assumption | exact Ext.rfl' _ | exact Ext.new _ _ | refine Ext.alloc' ?_ _ | refine Ext.drew' ?_ | refine Ext.drewN' ?_ _ | (refine Ext.set' ?_ ?_ _; rotate_left; focus (first | omega | (simp; done) | (simp; omega))) | (refine Ext.then (b := ?_) ?_ ?_; rotate_left; rotate_left; assumption))))) | (with_reducible refine Own.keep (w := ?_) ?_ ?_; rotate_left; rotate_left; (with_reducible assumption)))), (by with_reducible repeat (first | assumption | exact Ext.rfl' _ | exact Ext.new _ _ | refine Ext.alloc' ?_ _ | refine Ext.drew' ?_ | refine Ext.drewN' ?_ _ | (refine Ext.set' ?_ ?_ _; rotate_left; focus (first | omega | (simp; done) | (simp; omega))) | (refine Ext.then (b := ?_) ?_ ?_; rotate_left; rotate_left; assumption)))⟩
    case round =>
      obtain ⟨k, hk, rfl, hi, ho, hb⟩ := hrel
      obtain ⟨q1, q2⟩ := ho.facts
      have q3 := ho.lt
      by_cases hlt : k < t.cls.length
      · have hc' := hc.mono mono_IntR hb.ple
        obtain ⟨b, o, rfl, h0, hi64, hbl⟩ := IntsR.at hc' k hlt
        have hkk : (¬ 0 < k ∧ (incAt t.cls 64 k ↔ 0 ≤ t.cls[k] ∧ t.cls[k] < 64)) ∨ (0 < k ∧ ∃ y, wr.cell? ⟨b, o + (k - 1), none⟩ = some (.int .i64 y) ∧ (incAt t.cls 64 k ↔ 0 ≤ t.cls[k] ∧ t.cls[k] < 64 ∧ y < t.cls[k])) := by
          by_cases hk0 : 0 < k
          · obtain ⟨b', o', he, h0', -, -⟩ := IntsR.at hc' (k - 1) (by omega)
            simp only [Option.some.injEq, Addr.mk.injEq, and_true] at he
            obtain ⟨rfl, rfl⟩ := he
            exact .inr ⟨hk0, _, h0', ⟨fun h => ⟨(h hlt).1, (h hlt).2.1, (h hlt).2.2 hk0⟩, fun h _ => ⟨h.1, h.2.1, fun _ => h.2.2⟩⟩⟩
          · exact .inl ⟨hk0, ⟨fun h => ⟨(h hlt).1, (h hlt).2.1⟩, fun h _ => ⟨h.1, h.2, fun h' => absurd h' hk0⟩⟩⟩
        generalize t.cls[k] = x at *
        clear hc hc'
        have bad : ¬ incAt t.cls 64 k → RetV w (.bool (B t.formed)) (.returned (.bool false)) wr := fun h => ⟨ret_f (fun h' => h ((hF.out.1 h').2.1 k)), hb⟩
        have good : incAt t.cls 64 k → ∀ j, j < k + 1 → incAt t.cls 64 j := fun h => below_succ hi.out h
        replace bad := Lib.hid bad
        replace good := Lib.hid good
        rcases hkk with ⟨hk0, hat⟩ | ⟨hk0, y, hy, hat⟩
        all_goals
          replace hat := Lib.hid hat
          by_cases g1 : x < 0
          · go_wp2_with fail
            go_ret
            exact bad.out (fun h => by have := hat.out.1 h; omega)
          · by_cases g2 : 63 < x
            · go_wp2_with fail
              go_ret
              exact bad.out (fun h => by have := hat.out.1 h; omega)
            · try by_cases g3 : x ≤ y
              all_goals
                go_wp2_with fail
                first
                | (go_ret
                   exact bad.out (fun h => by have := hat.out.1 h; omega))
                | (go_roundw
                   case rel => exact ⟨_, hlt, by go_num, Lib.hid (good.out (hat.out.2 (by omega))), (by repeat (first | (with_reducible assumption) | (with_reducible exact Own.new _ _ _) | (with_reducible refine Own.new' _ _ _ ?_; (focus (simp; done))) | (with_reducible refine Own.alloc ?_ _) | (with_reducible refine Own.drew ?_) | (with_reducible refine Own.drewN ?_ _) | (with_reducible refine Own.keep (w := ?_) ?_ ?_; rotate_left; (with_reducible assumption); (exact (by with_reducible repeat (first | assumption | exact Ext.rfl' _ | exact Ext.new _ _ | refine Ext.alloc' ?_ _ | refine Ext.drew' ?_ | refine Ext.drewN' ?_ _ | (refine Ext.set' ?_ ?_ _; rotate_left; focus (first | omega | (simp; done) | (simp; omega))) | (refine Ext.then (b := ?_) ?_ ?_; rotate_left; rotate_left; assumption))))) | (with_reducible refine Own.keep (w := ?_) ?_ ?_; rotate_left; rotate_left; (with_reducible assumption)))), (by with_reducible repeat (first | assumption | exact Ext.rfl' _ | exact Ext.new _ _ | refine Ext.alloc' ?_ _ | refine Ext.drew' ?_ | refine Ext.drewN' ?_ _ | (refine Ext.set' ?_ ?_ _; rotate_left; focus (first | omega | (simp; done) | (simp; omega))) | (refine Ext.then (b := ?_) ?_ ?_; rotate_left; rotate_left; assumption)))⟩
                   case measure => simp [intOf]; omega)
      · have hcl : Hid (Inc t.cls 64) := inc_of fun j hj => hi.out j (by omega)
        clear hc hi
        go_wp2_with fail
        go_loopw [5] (fun i wr => ∃ k : Nat, k ≤ t.vals.length ∧ i = .int .i64 k ∧ Hid (∀ x ∈ t.vals.take k, GoodP x.n) ∧ Hid (∀ j, j < k → incAt (t.vals.map Val.attr) 32 j) ∧ Own wr w.heap.size #[.slice a1 t.cls.length c1, .slice a2 t.vals.length c2, .slice a3 t.parts.length c3] 41 ∧ Ext w wr) (fun i _ => t.vals.length - (intOf i).toNat)
        case atStart => exact ⟨0, Nat.zero_le _, rfl, Lib.hid (by simp), Lib.hid (by simp), (by repeat (first | (with_reducible assumption) | (with_reducible exact Own.new _ _ _) | (with_reducible refine Own.new' _ _ _ ?_; (focus (simp; done))) | (with_reducible refine Own.alloc ?_ _) | (with_reducible refine Own.drew ?_) | (with_reducible refine Own.drewN ?_ _) | (with_reducible refine Own.keep (w := ?_) ?_ ?_; rotate_left; (with_reducible assumption); (exact (by with_reducible repeat (first | assumption | exact Ext.rfl' _ | exact Ext.new _ _ | refine Ext.alloc' ?_ _ | refine Ext.drew' ?_ | refine Ext.drewN' ?_ _ | (refine Ext.set' ?_ ?_ _; rotate_left; focus (first | omega | (simp; done) | (simp; omega))) | (refine Ext.then (b := ?_) ?_ ?_; rotate_left; rotate_left; assumption))))) | (with_reducible refine Own.keep (w := ?_) ?_ ?_; rotate_left; rotate_left; (with_reducible assumption)))), (by with_reducible repeat (first | assumption | exact Ext.rfl' _ | exact Ext.new _ _ | refine Ext.alloc' ?_ _ | refine Ext.drew' ?_ | refine Ext.drewN' ?_ _ | (refine Ext.set' ?_ ?_ _; rotate_left; focus (first | omega | (simp; done) | (simp; omega))) | (refine Ext.then (b := ?_) ?_ ?_; rotate_left; rotate_left; assumption)))⟩
        case round =>
          clear ho hb q1 q2 q3
          obtain ⟨k, hk, rfl, hg, hi, ho, hb⟩ := hrel
          obtain ⟨q1, q2⟩ := ho.facts
          have q3 := ho.lt
          by_cases hlt : k < t.vals.length
          · have hv' := hv.mono mono_ValR hb.ple
            obtain ⟨b, o, rfl, h0, h1, h2, i0, i1, i2, hbl⟩ := ValsR.at hv' k hlt
            have hml : k < (t.vals.map Val.attr).length := by simpa using hlt
            have hkk : (¬ 0 < k ∧ (incAt (t.vals.map Val.attr) 32 k ↔ 0 ≤ t.vals[k].attr ∧ t.vals[k].attr < 32)) ∨ (0 < k ∧ ∃ y, wr.cell? ⟨b, o + (k - 1) * 3, none⟩ = some (.int .i64 y) ∧ (incAt (t.vals.map Val.attr) 32 k ↔ 0 ≤ t.vals[k].attr ∧ t.vals[k].attr < 32 ∧ y < t.vals[k].attr)) := by
              by_cases hk0 : 0 < k
              · obtain ⟨b', o', he, h0', -⟩ := ValsR.at hv' (k - 1) (by omega)
                simp only [Option.some.injEq, Addr.mk.injEq, and_true] at he
                obtain ⟨rfl, rfl⟩ := he
                exact .inr ⟨hk0, _, h0', ⟨fun h => by have := h hml; simp only [List.getElem_map] at this; exact ⟨this.1, this.2.1, this.2.2 hk0⟩, fun h _ => by simp only [List.getElem_map]; exact ⟨h.1, h.2.1, fun _ => h.2.2⟩⟩⟩
              · exact .inl ⟨hk0, ⟨fun h => by have := h hml; simp only [List.getElem_map] at this; exact ⟨this.1, this.2.1⟩, fun h _ => by simp only [List.getElem_map]; exact ⟨h.1, h.2, fun h' => absurd h' hk0⟩⟩⟩
            have bad : Hid (¬ GoodP t.vals[k].n ∨ ¬ incAt (t.vals.map Val.attr) 32 k → ∀ w', Ext w w' → RetV w (.bool (B t.formed)) (.returned (.bool false)) w') := fun h w' hw' => ⟨ret_f (fun h' => by
              rcases h with h | h
              · exact h ((hF.out.1 h').1 _ (List.getElem_mem hlt))
              · exact h ((hF.out.1 h').2.2.1 k)), hw'⟩
            have good : Hid (GoodP t.vals[k].n → incAt (t.vals.map Val.attr) 32 k → (∀ x ∈ t.vals.take (k + 1), GoodP x.n) ∧ ∀ j, j < k + 1 → incAt (t.vals.map Val.attr) 32 j) := fun h h' => ⟨take_all hlt h hg.out, below_succ hi.out h'⟩
            generalize hve : t.vals[k] = v at *
            replace hve := Lib.hid hve
            clear hv hv'
            go_wp2_with fail
            refine (good6_c v.n _ i1 i2).mono ?_
            rintro e w4 ⟨rfl, hb4⟩
            have hx4 : Ext wr w4 := (by with_reducible repeat (first | assumption | exact Ext.rfl' _ | exact Ext.new _ _ | refine Ext.alloc' ?_ _ | refine Ext.drew' ?_ | refine Ext.drewN' ?_ _ | (refine Ext.set' ?_ ?_ _; rotate_left; focus (first | omega | (simp; done) | (simp; omega))) | (refine Ext.then (b := ?_) ?_ ?_; rotate_left; rotate_left; assumption)))
            have hbW : Ext w w4 := hb.then hx4
            have hoW := ho.keep hx4
            have hoV : Own w4 wr.heap.size #[.int .i64 v.attr, .int .i64 v.n.num, .int .i64 v.n.den] 83 := Own.keep (Own.new _ _ _) hb4
            replace h0 := hx4.cell1 h0
            replace hbl := cell_lt h0
            replace hkk : (¬ 0 < k ∧ Hid (incAt (t.vals.map Val.attr) 32 k ↔ 0 ≤ v.attr ∧ v.attr < 32)) ∨ (0 < k ∧ ∃ y, w4.cell? ⟨b, o + (k - 1) * 3, none⟩ = some (.int .i64 y) ∧ Hid (incAt (t.vals.map Val.attr) 32 k ↔ 0 ≤ v.attr ∧ v.attr < 32 ∧ y < v.attr)) := by
              rcases hkk with ⟨h1, h2⟩ | ⟨h1, y, h2, h3⟩
              · exact .inl ⟨h1, h2⟩
              · exact .inr ⟨h1, y, hx4.cell1 h2, h3⟩
            clear hx4 hb4 ho q1 q2 q3 h1 h2 hb
            obtain ⟨q1, q2⟩ := hoW.facts
            have q3 := hoW.lt
            obtain ⟨r1, r2⟩ := hoV.facts
            have r3 := hoV.lt
            by_cases hG : GoodP v.n
            · rw [B_t hG]
              replace hG := Lib.hid hG
              rcases hkk with ⟨hk0, hat⟩ | ⟨hk0, y, hy, hat⟩
              all_goals
                by_cases g1 : v.attr < 0
                · go_wp2_with fail
                  (refine wp_region_I 28 (by kernel_rfl) (by kernel_rfl) ?_; simp only [List.toList_toArray, List.take_succ_cons, List.take_zero, List.drop_succ_cons, List.drop_zero])
                  (repeat (first | (refine walkI_no rfl (by simp) rfl rfl rfl ?_ ?_; (focus (simp [undef]; done)); (try simp only [List.nil_append, List.cons_append])) | (refine walkI_is (u := ?_) rfl (by simp) rfl ?_ ?_; rotate_left; (focus (intro A w' hS hA K hK; (simp only [List.map_cons, List.map_nil, knows, Is, Op.operands, Call.operands, List.lookup_cons, List.lookup_nil, Nat.reduceBEq, Bool.false_eq_true, if_false, if_true, Act.eval, Array.getD_eq_getD_getElem?, List.getElem?_toArray, List.getElem?_cons_succ, List.getElem?_cons_zero, Option.getD_some, and_true, true_and, List.append_toArray, List.nil_append, List.cons_append, List.toList_toArray, Array.toList_append, Option.toArray, List.append_nil] at hA); (obtain ⟨hSc, hSf, hSs⟩ := hS.cells; go_simp; exact hK _ (by first | exact Ext.rfl' _ | exact Ext.new _ _ | assumption)))); (try simp only [List.nil_append, List.cons_append])) | (refine walkI_yesis (u := ?_) rfl (by simp) rfl rfl rfl ?_ ?_; rotate_left; (focus (intro A w' hS hA K hK; (simp only [List.map_cons, List.map_nil, knows, Is, Op.operands, Call.operands, List.lookup_cons, List.lookup_nil, Nat.reduceBEq, Bool.false_eq_true, if_false, if_true, Act.eval, Array.getD_eq_getD_getElem?, List.getElem?_toArray, List.getElem?_cons_succ, List.getElem?_cons_zero, Option.getD_some, and_true, true_and, List.append_toArray, List.nil_append, List.cons_append, List.toList_toArray, Array.toList_append, Option.toArray, List.append_nil] at hA); (obtain ⟨hSc, hSf, hSs⟩ := hS.cells; go_simp; exact hK _ (by first | exact Ext.rfl' _ | exact Ext.new _ _ | assumption)))); (try simp only [List.nil_append, List.cons_append]))))
                  (refine walkI_nil ?_; simp only [List.nil_append, List.cons_append, fins, Is, forall_eq, Act.put, List.setIfInBounds_toArray, List.set_cons_zero, List.set_cons_succ])
                  intro w5 hw5
                  go_wp2_with fail
                  go_ret
                  exact bad.out (.inr fun h => by have := hat.out.1 h; omega) _ (by with_reducible repeat (first | assumption | exact Ext.rfl' _ | exact Ext.new _ _ | refine Ext.alloc' ?_ _ | refine Ext.drew' ?_ | refine Ext.drewN' ?_ _ | (refine Ext.set' ?_ ?_ _; rotate_left; focus (first | omega | (simp; done) | (simp; omega))) | (refine Ext.then (b := ?_) ?_ ?_; rotate_left; rotate_left; assumption)))
                · have d1 : decide (v.attr < 0) = false := by simpa using g1
                  by_cases g2 : 31 < v.attr
                  · go_wp2_with fail
                    (refine wp_region_I 28 (by kernel_rfl) (by kernel_rfl) ?_; simp only [List.toList_toArray, List.take_succ_cons, List.take_zero, List.drop_succ_cons, List.drop_zero])
                    (repeat (first | (refine walkI_no rfl (by simp) rfl rfl rfl ?_ ?_; (focus (simp [undef]; done)); (try simp only [List.nil_append, List.cons_append])) | (refine walkI_is (u := ?_) rfl (by simp) rfl ?_ ?_; rotate_left; (focus (intro A w' hS hA K hK; (simp only [List.map_cons, List.map_nil, knows, Is, Op.operands, Call.operands, List.lookup_cons, List.lookup_nil, Nat.reduceBEq, Bool.false_eq_true, if_false, if_true, Act.eval, Array.getD_eq_getD_getElem?, List.getElem?_toArray, List.getElem?_cons_succ, List.getElem?_cons_zero, Option.getD_some, and_true, true_and, List.append_toArray, List.nil_append, List.cons_append, List.toList_toArray, Array.toList_append, Option.toArray, List.append_nil] at hA); (obtain ⟨hSc, hSf, hSs⟩ := hS.cells; go_simp; exact hK _ (by first | exact Ext.rfl' _ | exact Ext.new _ _ | assumption)))); (try simp only [List.nil_append, List.cons_append])) | (refine walkI_yesis (u := ?_) rfl (by simp) rfl rfl rfl ?_ ?_; rotate_left; (focus (intro A w' hS hA K hK; (simp only [List.map_cons, List.map_nil, knows, Is, Op.operands, Call.operands, List.lookup_cons, List.lookup_nil, Nat.reduceBEq, Bool.false_eq_true, if_false, if_true, Act.eval, Array.getD_eq_getD_getElem?, List.getElem?_toArray, List.getElem?_cons_succ, List.getElem?_cons_zero, Option.getD_some, and_true, true_and, List.append_toArray, List.nil_append, List.cons_append, List.toList_toArray, Array.toList_append, Option.toArray, List.append_nil] at hA); (obtain ⟨hSc, hSf, hSs⟩ := hS.cells; go_simp; exact hK _ (by first | exact Ext.rfl' _ | exact Ext.new _ _ | assumption)))); (try simp only [List.nil_append, List.cons_append]))))
                    (refine walkI_nil ?_; simp only [List.nil_append, List.cons_append, fins, Is, forall_eq, Act.put, List.setIfInBounds_toArray, List.set_cons_zero, List.set_cons_succ])
                    intro w5 hw5
                    go_wp2_with fail
                    go_ret
                    exact bad.out (.inr fun h => by have := hat.out.1 h; omega) _ (by with_reducible repeat (first | assumption | exact Ext.rfl' _ | exact Ext.new _ _ | refine Ext.alloc' ?_ _ | refine Ext.drew' ?_ | refine Ext.drewN' ?_ _ | (refine Ext.set' ?_ ?_ _; rotate_left; focus (first | omega | (simp; done) | (simp; omega))) | (refine Ext.then (b := ?_) ?_ ?_; rotate_left; rotate_left; assumption)))
                  · have d2 : decide (31 < v.attr) = false := by simpa using g2
                    try have d4 : decide (0 < (k : Int)) = false := by simpa using hk0
                    try have d5 : decide (0 < k) = false := by simpa using hk0
                    try have d6 : IntKind.i64.wrap ((k : Int) - 1) = (k : Int) - 1 := (by have : 0 < k := hk0; rw [IntKind.wrap_i64]; omega)
                    try have d7 : (1 : Int) ≤ k := (by have : 0 < k := hk0; omega)
                    try have d8 : (k : Int) - 1 < t.vals.length := (by have : 0 < k := hk0; omega)
                    try have d9 : ((k : Int) - 1).toNat = k - 1 := (by have : 0 < k := hk0; omega)
                    try by_cases g3 : v.attr ≤ y
                    all_goals
                      try have d3 : decide (v.attr ≤ y) = false := by simpa using g3
                      go_wp2_with fail
                      (refine wp_region_I 28 (by kernel_rfl) (by kernel_rfl) ?_; simp only [List.toList_toArray, List.take_succ_cons, List.take_zero, List.drop_succ_cons, List.drop_zero])
                      (repeat (first | (refine walkI_no rfl (by simp) rfl rfl rfl ?_ ?_; (focus (simp [undef]; done)); (try simp only [List.nil_append, List.cons_append])) | (refine walkI_is (u := ?_) rfl (by simp) rfl ?_ ?_; rotate_left; (focus (intro A w' hS hA K hK; (simp only [List.map_cons, List.map_nil, knows, Is, Op.operands, Call.operands, List.lookup_cons, List.lookup_nil, Nat.reduceBEq, Bool.false_eq_true, if_false, if_true, Act.eval, Array.getD_eq_getD_getElem?, List.getElem?_toArray, List.getElem?_cons_succ, List.getElem?_cons_zero, Option.getD_some, and_true, true_and, List.append_toArray, List.nil_append, List.cons_append, List.toList_toArray, Array.toList_append, Option.toArray, List.append_nil] at hA); (obtain ⟨hSc, hSf, hSs⟩ := hS.cells; go_simp; exact hK _ (by first | exact Ext.rfl' _ | exact Ext.new _ _ | assumption)))); (try simp only [List.nil_append, List.cons_append])) | (refine walkI_yesis (u := ?_) rfl (by simp) rfl rfl rfl ?_ ?_; rotate_left; (focus (intro A w' hS hA K hK; (simp only [List.map_cons, List.map_nil, knows, Is, Op.operands, Call.operands, List.lookup_cons, List.lookup_nil, Nat.reduceBEq, Bool.false_eq_true, if_false, if_true, Act.eval, Array.getD_eq_getD_getElem?, List.getElem?_toArray, List.getElem?_cons_succ, List.getElem?_cons_zero, Option.getD_some, and_true, true_and, List.append_toArray, List.nil_append, List.cons_append, List.toList_toArray, Array.toList_append, Option.toArray, List.append_nil] at hA); (obtain ⟨hSc, hSf, hSs⟩ := hS.cells; go_simp; exact hK _ (by first | exact Ext.rfl' _ | exact Ext.new _ _ | assumption)))); (try simp only [List.nil_append, List.cons_append]))))
                      (refine walkI_nil ?_; simp only [List.nil_append, List.cons_append, fins, Is, forall_eq, Act.put, List.setIfInBounds_toArray, List.set_cons_zero, List.set_cons_succ])
                      intro w5 hw5
                      have hbw5 : Ext w w5 := (by with_reducible repeat (first | assumption | exact Ext.rfl' _ | exact Ext.new _ _ | refine Ext.alloc' ?_ _ | refine Ext.drew' ?_ | refine Ext.drewN' ?_ _ | (refine Ext.set' ?_ ?_ _; rotate_left; focus (first | omega | (simp; done) | (simp; omega))) | (refine Ext.then (b := ?_) ?_ ?_; rotate_left; rotate_left; assumption)))
                      have hoW5 := hoW.keep hw5
                      go_wp2_with fail
                      first
                      | (go_ret
                         exact bad.out (.inr fun h => by have := hat.out.1 h; omega) _ hbw5)
                      | (go_roundw
                         case rel => exact ⟨_, hlt, by go_num, Lib.hid (good.out hG.out (hat.out.2 (by omega))).1, Lib.hid (good.out hG.out (hat.out.2 (by omega))).2, hoW5, hbw5⟩
                         case measure => simp [intOf]; omega)
            · rw [B_f hG]
              replace hG := Lib.hid hG
              go_wp2_with fail
              (refine wp_region_I 28 (by kernel_rfl) (by kernel_rfl) ?_; simp only [List.toList_toArray, List.take_succ_cons, List.take_zero, List.drop_succ_cons, List.drop_zero])
              (repeat (first | (refine walkI_no rfl (by simp) rfl rfl rfl ?_ ?_; (focus (simp [undef]; done)); (try simp only [List.nil_append, List.cons_append])) | (refine walkI_is (u := ?_) rfl (by simp) rfl ?_ ?_; rotate_left; (focus (intro A w' hS hA K hK; (simp only [List.map_cons, List.map_nil, knows, Is, Op.operands, Call.operands, List.lookup_cons, List.lookup_nil, Nat.reduceBEq, Bool.false_eq_true, if_false, if_true, Act.eval, Array.getD_eq_getD_getElem?, List.getElem?_toArray, List.getElem?_cons_succ, List.getElem?_cons_zero, Option.getD_some, and_true, true_and, List.append_toArray, List.nil_append, List.cons_append, List.toList_toArray, Array.toList_append, Option.toArray, List.append_nil] at hA); (obtain ⟨hSc, hSf, hSs⟩ := hS.cells; go_simp; exact hK _ (by first | exact Ext.rfl' _ | exact Ext.new _ _ | assumption)))); (try simp only [List.nil_append, List.cons_append])) | (refine walkI_yesis (u := ?_) rfl (by simp) rfl rfl rfl ?_ ?_; rotate_left; (focus (intro A w' hS hA K hK; (simp only [List.map_cons, List.map_nil, knows, Is, Op.operands, Call.operands, List.lookup_cons, List.lookup_nil, Nat.reduceBEq, Bool.false_eq_true, if_false, if_true, Act.eval, Array.getD_eq_getD_getElem?, List.getElem?_toArray, List.getElem?_cons_succ, List.getElem?_cons_zero, Option.getD_some, and_true, true_and, List.append_toArray, List.nil_append, List.cons_append, List.toList_toArray, Array.toList_append, Option.toArray, List.append_nil] at hA); (obtain ⟨hSc, hSf, hSs⟩ := hS.cells; go_simp; exact hK _ (by first | exact Ext.rfl' _ | exact Ext.new _ _ | assumption)))); (try simp only [List.nil_append, List.cons_append]))))
              (refine walkI_nil ?_; simp only [List.nil_append, List.cons_append, fins, Is, forall_eq, Act.put, List.setIfInBounds_toArray, List.set_cons_zero, List.set_cons_succ])
              intro w5 hw5
              go_wp2_with fail
              go_ret
              exact bad.out (.inl hG.out) _ (by with_reducible repeat (first | assumption | exact Ext.rfl' _ | exact Ext.new _ _ | refine Ext.alloc' ?_ _ | refine Ext.drew' ?_ | refine Ext.drewN' ?_ _ | (refine Ext.set' ?_ ?_ _; rotate_left; focus (first | omega | (simp; done) | (simp; omega))) | (refine Ext.then (b := ?_) ?_ ?_; rotate_left; rotate_left; assumption)))
          · have hvl : Hid ((∀ x ∈ t.vals, GoodP x.n) ∧ Inc (t.vals.map Val.attr) 32) := ⟨take_done (by omega) hg.out, inc_of fun j hj => hi.out j (by simp at hj; omega)⟩
            clear hv hi hg
            go_wp2_with fail
            go_loopw [8] (fun i wr => ∃ k : Nat, k ≤ t.parts.length ∧ i = .int .i64 k ∧ Hid (∀ p ∈ t.parts.take k, p.formed) ∧ Own wr w.heap.size #[.slice a1 t.cls.length c1, .slice a2 t.vals.length c2, .slice a3 t.parts.length c3] 41 ∧ Ext w wr) (fun i _ => t.parts.length - (intOf i).toNat)
            case atStart => exact ⟨0, Nat.zero_le _, rfl, Lib.hid (by simp), (by repeat (first | (with_reducible assumption) | (with_reducible exact Own.new _ _ _) | (with_reducible refine Own.new' _ _ _ ?_; (focus (simp; done))) | (with_reducible refine Own.alloc ?_ _) | (with_reducible refine Own.drew ?_) | (with_reducible refine Own.drewN ?_ _) | (with_reducible refine Own.keep (w := ?_) ?_ ?_; rotate_left; (with_reducible assumption); (exact (by with_reducible repeat (first | assumption | exact Ext.rfl' _ | exact Ext.new _ _ | refine Ext.alloc' ?_ _ | refine Ext.drew' ?_ | refine Ext.drewN' ?_ _ | (refine Ext.set' ?_ ?_ _; rotate_left; focus (first | omega | (simp; done) | (simp; omega))) | (refine Ext.then (b := ?_) ?_ ?_; rotate_left; rotate_left; assumption))))) | (with_reducible refine Own.keep (w := ?_) ?_ ?_; rotate_left; rotate_left; (with_reducible assumption)))), (by with_reducible repeat (first | assumption | exact Ext.rfl' _ | exact Ext.new _ _ | refine Ext.alloc' ?_ _ | refine Ext.drew' ?_ | refine Ext.drewN' ?_ _ | (refine Ext.set' ?_ ?_ _; rotate_left; focus (first | omega | (simp; done) | (simp; omega))) | (refine Ext.then (b := ?_) ?_ ?_; rotate_left; rotate_left; assumption)))⟩
            case round =>
              clear ho hb q1 q2 q3
              obtain ⟨k, hk, rfl, hg, ho, hb⟩ := hrel
              obtain ⟨q1, q2⟩ := ho.facts
              have q3 := ho.lt
              by_cases hlt : k < t.parts.length
              · obtain ⟨b, o, b1, d1, b2, d2, b3, d3, rfl, h0, h1, h2, hE, hbl⟩ := ThingsR.at (hp.mono mono_ThingR hb.ple) k hlt
                have good : Hid (t.parts[k].formed → ∀ p ∈ t.parts.take (k + 1), p.formed) := fun h => take_all hlt h hg.out
                have hpm := List.getElem_mem hlt
                generalize t.parts[k] = p at *
                clear hp
                go_wp2_with fail
                refine (HI.out p hpm _ _ (mono_ThingR _ _ _ _ (Ext.ple (by with_reducible repeat (first | assumption | exact Ext.rfl' _ | exact Ext.new _ _ | refine Ext.alloc' ?_ _ | refine Ext.drew' ?_ | refine Ext.drewN' ?_ _ | (refine Ext.set' ?_ ?_ _; rotate_left; focus (first | omega | (simp; done) | (simp; omega))) | (refine Ext.then (b := ?_) ?_ ?_; rotate_left; rotate_left; assumption)))) hE)).mono ?_
                rintro e w4 ⟨rfl, hb4⟩
                by_cases hG : p.formed
                · rw [B_t hG]
                  replace hG := Lib.hid hG
                  go_wp2_with fail
                  go_roundw
                  case rel => exact ⟨_, hlt, by go_num, Lib.hid (good.out hG.out), (by repeat (first | (with_reducible assumption) | (with_reducible exact Own.new _ _ _) | (with_reducible refine Own.new' _ _ _ ?_; (focus (simp; done))) | (with_reducible refine Own.alloc ?_ _) | (with_reducible refine Own.drew ?_) | (with_reducible refine Own.drewN ?_ _) | (with_reducible refine Own.keep (w := ?_) ?_ ?_; rotate_left; (with_reducible assumption); (exact (by with_reducible repeat (first | assumption | exact Ext.rfl' _ | exact Ext.new _ _ | refine Ext.alloc' ?_ _ | refine Ext.drew' ?_ | refine Ext.drewN' ?_ _ | (refine Ext.set' ?_ ?_ _; rotate_left; focus (first | omega | (simp; done) | (simp; omega))) | (refine Ext.then (b := ?_) ?_ ?_; rotate_left; rotate_left; assumption))))) | (with_reducible refine Own.keep (w := ?_) ?_ ?_; rotate_left; rotate_left; (with_reducible assumption)))), (by with_reducible repeat (first | assumption | exact Ext.rfl' _ | exact Ext.new _ _ | refine Ext.alloc' ?_ _ | refine Ext.drew' ?_ | refine Ext.drewN' ?_ _ | (refine Ext.set' ?_ ?_ _; rotate_left; focus (first | omega | (simp; done) | (simp; omega))) | (refine Ext.then (b := ?_) ?_ ?_; rotate_left; rotate_left; assumption)))⟩
                  case measure => simp [intOf]; omega
                · rw [B_f hG]
                  replace hG := Lib.hid hG
                  replace hpm := Lib.hid hpm
                  go_wp2_with fail
                  go_ret
                  exact ⟨ret_f (fun h' => hG.out ((hF.out.1 h').2.2.2 p hpm.out)), (by with_reducible repeat (first | assumption | exact Ext.rfl' _ | exact Ext.new _ _ | refine Ext.alloc' ?_ _ | refine Ext.drew' ?_ | refine Ext.drewN' ?_ _ | (refine Ext.set' ?_ ?_ _; rotate_left; focus (first | omega | (simp; done) | (simp; omega))) | (refine Ext.then (b := ?_) ?_ ?_; rotate_left; rotate_left; assumption)))⟩
              · clear hp
                go_wp2_with fail
                go_ret
                exact ⟨ret_t (hF.out.2 ⟨hvl.out.1, hcl.out, hvl.out.2, take_done (by omega) hg.out⟩), (by with_reducible repeat (first | assumption | exact Ext.rfl' _ | exact Ext.new _ _ | refine Ext.alloc' ?_ _ | refine Ext.drew' ?_ | refine Ext.drewN' ?_ _ | (refine Ext.set' ?_ ?_ _; rotate_left; focus (first | omega | (simp; done) | (simp; omega))) | (refine Ext.then (b := ?_) ?_ ?_; rotate_left; rotate_left; assumption)))⟩
theorem valid_r (t : Thing) (cs : List Value) (w : World) (hr : ThingR (ph w) cs t) (hs : t.bulk ≤ 999999) :
    Calls Tryz.prog 40 #[.agg cs.toArray] w (RetV w (.int .i64 (validV t))) := by
  obtain ⟨a1, c1, a2, c2, a3, c3, rfl, -, -, -, -, -, -⟩ := hr.form
  have hsz := t.size_le_bulk
  have hdp := t.deep_le_size
  have hV : Hid (validV t = if t.size ≤ 96 ∧ t.deep ≤ 8 then ErrIf t.formed 1 else 4) := by
    show _ = _
    unfold validV; split <;> simp [*]
  go_enter Tryz.func40, Tryz.ntmps40
  go_wp2_with fail
  refine (size_r t _ _ (mono_ThingR _ _ _ _ (Ext.ple (by with_reducible repeat (first | assumption | exact Ext.rfl' _ | exact Ext.new _ _ | refine Ext.alloc' ?_ _ | refine Ext.drew' ?_ | refine Ext.drewN' ?_ _ | (refine Ext.set' ?_ ?_ _; rotate_left; focus (first | omega | (simp; done) | (simp; omega))) | (refine Ext.then (b := ?_) ?_ ?_; rotate_left; rotate_left; assumption)))) hr) (by omega)).mono ?_
  rintro e w1 ⟨rfl, hb1⟩
  have ho := Own.keep (Own.new w _ _) hb1
  have hb : Ext w w1 := (by with_reducible repeat (first | assumption | exact Ext.rfl' _ | exact Ext.new _ _ | refine Ext.alloc' ?_ _ | refine Ext.drew' ?_ | refine Ext.drewN' ?_ _ | (refine Ext.set' ?_ ?_ _; rotate_left; focus (first | omega | (simp; done) | (simp; omega))) | (refine Ext.then (b := ?_) ?_ ?_; rotate_left; rotate_left; assumption)))
  clear hb1
  obtain ⟨q1, q2⟩ := ho.facts
  by_cases h1 : (96 : Int) < t.size
  · go_wp2_with fail
    go_ret
    exact ⟨ret_int (by rw [hV.out, if_neg (by omega)]), hb⟩
  · have d1 : decide ((96 : Int) < t.size) = false := by simpa using h1
    go_wp2_with fail
    refine (deep_r t _ _ (mono_ThingR _ _ _ _ (Ext.ple (by with_reducible repeat (first | assumption | exact Ext.rfl' _ | exact Ext.new _ _ | refine Ext.alloc' ?_ _ | refine Ext.drew' ?_ | refine Ext.drewN' ?_ _ | (refine Ext.set' ?_ ?_ _; rotate_left; focus (first | omega | (simp; done) | (simp; omega))) | (refine Ext.then (b := ?_) ?_ ?_; rotate_left; rotate_left; assumption)))) hr) (by omega)).mono ?_
    rintro e w2 ⟨rfl, hb2⟩
    replace ho := ho.keep hb2
    replace hb := hb.then hb2
    clear hb2 q1 q2
    obtain ⟨q1, q2⟩ := ho.facts
    by_cases h2 : (8 : Int) < t.deep
    · go_wp2_with fail
      go_ret
      exact ⟨ret_int (by rw [hV.out, if_neg (by omega)]), hb⟩
    · go_wp2_with fail
      refine (formed_r t _ _ (mono_ThingR _ _ _ _ (Ext.ple (by with_reducible repeat (first | assumption | exact Ext.rfl' _ | exact Ext.new _ _ | refine Ext.alloc' ?_ _ | refine Ext.drew' ?_ | refine Ext.drewN' ?_ _ | (refine Ext.set' ?_ ?_ _; rotate_left; focus (first | omega | (simp; done) | (simp; omega))) | (refine Ext.then (b := ?_) ?_ ?_; rotate_left; rotate_left; assumption)))) hr)).mono ?_
      rintro e w3 ⟨rfl, hb3⟩
      by_cases hF : t.formed
      · rw [B_t hF]
        replace hF := Lib.hid hF
        go_wp2_with fail
        go_ret
        exact ⟨ret_int (by rw [hV.out, if_pos (by omega), ErrIf_t hF.out]), (by with_reducible repeat (first | assumption | exact Ext.rfl' _ | exact Ext.new _ _ | refine Ext.alloc' ?_ _ | refine Ext.drew' ?_ | refine Ext.drewN' ?_ _ | (refine Ext.set' ?_ ?_ _; rotate_left; focus (first | omega | (simp; done) | (simp; omega))) | (refine Ext.then (b := ?_) ?_ ?_; rotate_left; rotate_left; assumption)))⟩
      · rw [B_f hF]
        replace hF := Lib.hid hF
        go_wp2_with fail
        go_ret
        exact ⟨ret_int (by rw [hV.out, if_pos (by omega), ErrIf_f hF.out]), (by with_reducible repeat (first | assumption | exact Ext.rfl' _ | exact Ext.new _ _ | refine Ext.alloc' ?_ _ | refine Ext.drew' ?_ | refine Ext.drewN' ?_ _ | (refine Ext.set' ?_ ?_ _; rotate_left; focus (first | omega | (simp; done) | (simp; omega))) | (refine Ext.then (b := ?_) ?_ ?_; rotate_left; rotate_left; assumption)))⟩
end Go.Proofs.YtbpilielamjnoaaGreat
