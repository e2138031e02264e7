/- Lemmas for CB, part 16: formula.read: the walk, and more. -/
import Derived.Test.YtnpnjcaomakehaaGreatCB00
import Derived.Test.YtnpnjcaomakehaaGreatCB01
import Derived.Test.YtnpnjcaomakehaaGreatCB05
import Derived.Test.YtnpnjcaomakehaaGreatCB06
import Derived.Test.YtnpnjcaomakehaaGreatCB08
import Derived.Test.YtnpnjcaomakehaaGreatCB10
import Derived.Test.YtnpnjcaomakehaaGreatCB11
import Derived.Test.YtnpnjcaomakehaaGreatCB12
import Derived.Test.YtnpnjcaomakehaaGreatCB14
set_option linter.unusedSimpArgs false
set_option linter.unusedVariables false
namespace Go.Proofs.YtnpnjcaomakehaaGreat
open Go.RowKit Go.Shelf
def ReadQ (HR : PH) (w : World) (g b : Nat) (s : RS) (L : Int) (e : Ending) (w' : World) : Prop :=
  ∃ f a3 c3 a4 c4 s' L', e = .returned (fmV f a3 c3 a4 c4) ∧ FmR (up noH w w') (fmC f a3 c3 a4 c4) f ∧ RdF s L f s' L' ∧ Rd HR w' g s' ∧ Own w' b #[.int .i64 L'] 3 ∧ ExtGB g b w w' ∧ Small s'
theorem ints8_at {w : World} {a : Option Addr} {n c : Nat} {p0 p1 p2 p3 p4 p5 p6 p7 : Int} (hr : IntsR (ph w) (.slice a n c) [p0, p1, p2, p3, p4, p5, p6, p7]) :
    ∃ b o, a = some ⟨b, o, none⟩ ∧ w.cell? ⟨b, o, none⟩ = some (.int .i64 p0) ∧ w.cell? ⟨b, o + 1, none⟩ = some (.int .i64 p1) ∧ w.cell? ⟨b, o + 2, none⟩ = some (.int .i64 p2) ∧ w.cell? ⟨b, o + 3, none⟩ = some (.int .i64 p3) ∧
      w.cell? ⟨b, o + 4, none⟩ = some (.int .i64 p4) ∧ w.cell? ⟨b, o + 5, none⟩ = some (.int .i64 p5) ∧ w.cell? ⟨b, o + 6, none⟩ = some (.int .i64 p6) ∧ w.cell? ⟨b, o + 7, none⟩ = some (.int .i64 p7) ∧ b < w.heap.size ∧
      I64 p0 ∧ I64 p1 ∧ I64 p2 ∧ I64 p3 := by
  have h : ∀ k (hk : k < 8), ∃ b o, a = some ⟨b, o, none⟩ ∧ w.cell? ⟨b, o + k, none⟩ = some (.int .i64 ([p0, p1, p2, p3, p4, p5, p6, p7][k]'(by simpa using hk))) ∧ I64 ([p0, p1, p2, p3, p4, p5, p6, p7][k]'(by simpa using hk)) ∧ b < w.heap.size := fun k hk => IntsR.at hr k (by simpa using hk)
  obtain ⟨b, o, rfl, h0, i0, hb⟩ := h 0 (by omega)
  obtain ⟨b1, o1, e1, h1, i1, -⟩ := h 1 (by omega); cases e1
  obtain ⟨b2, o2, e2, h2, i2, -⟩ := h 2 (by omega); cases e2
  obtain ⟨b3, o3, e3, h3, i3, -⟩ := h 3 (by omega); cases e3
  obtain ⟨b4, o4, e4, h4, -⟩ := h 4 (by omega); cases e4
  obtain ⟨b5, o5, e5, h5, -⟩ := h 5 (by omega); cases e5
  obtain ⟨b6, o6, e6, h6, -⟩ := h 6 (by omega); cases e6
  obtain ⟨b7, o7, e7, h7, -⟩ := h 7 (by omega); cases e7
  exact ⟨_, _, rfl, h0, h1, h2, h3, h4, h5, h6, h7, hb, i0, i1, i2, i3⟩
theorem up_szN {w w0 w' : World} (h : w0.heap.size = w.heap.size) : up noH w0 w' = up noH w w' := by unfold up; rw [h]
theorem bulk_snoc (l : List Fm) (x : Fm) : sumN Fm.bulk (l ++ [x]) = sumN Fm.bulk l + x.bulk := by
  induction l with
  | nil => simp [sumN]
  | cons y l ih => simp only [List.cons_append, sumN, ih]; omega
theorem rdF_no {s s' : RS} {L L' op n : Int} {out : List Itv} (h : ∀ f0 rest, ¬ HypR s L f0 rest) (h1 : -1 ≤ L') (h2 : L' ≤ L - 1) (h3 : out.length ≤ 32) : RdF s L (.mk op n out []) s' L' := by
  refine ⟨h1, ?_, ?_, fun f0 rest hh => absurd hh (h f0 rest)⟩
  · rw [Fm.size_eq]; simp [Fm.kids, sumN]; omega
  · rw [Fm.size_eq, Fm.bulk_eq]; simp [Fm.kids, Fm.inn, sumN]; omega
set_option maxRecDepth 100000 in
set_option maxHeartbeats 8000000 in
theorem fread_c {HR : PH} (N : Nat) : ∀ (L : Int) (g b : Nat) (s : RS) (w : World), L < N → 0 ≤ L → L ≤ 96 → Rd HR w g s → Own w b #[.int .i64 L] 3 → g ≠ b → HR b = none → Small s →
    Calls Tryz.prog 55 #[.pointer (some ⟨g, 0, none⟩), .pointer (some ⟨b, 0, none⟩)] w (ReadQ HR w g b s L) := by
  induction N with
  | zero => intro L g b s w h1 h2; omega
  | succ N ih =>
    intro L g b s w hLN hL0 hL9 hR hL hgb hn hsm
    have hB := ((RS2.start hR hL hgb hn).own (fun w0 m => m.new' #[.int .i64 0, .int .i64 0, .slice none 0 0, .slice none 0 0] 50 (n := w.heap.size) rfl))
    simp only [List.nil_append] at hB
    replace ih := Lib.hid ih
    clear hR hL
    go_enter Tryz.func55, Tryz.ntmps55
    go_upto_region 1 with (fail)
    generalize w.alloc _ = w1 at *
    obtain ⟨cb, fb⟩ := hB.left.facts
    have lb := hB.left.lt
    have cb0 : _ = some (Value.int .i64 L) := cb 0
    have fb0 := fb 0
    clear cb fb
    have hwr : IntKind.i64.wrap (L - 1) = L - 1 := by rw [IntKind.wrap_i64]; omega
    go_upto_region 2 with (fail)
    replace hB := hB.setL (L - 1)
    clear cb0 fb0 lb
    generalize World.setCell _ _ _ = w2 at *
    have hq0 := InF.start (s := s) (L := L)
    have i1 := intS_i64 s
    have i2 := intS_i64 (intS s).2
    have i3 := intS_i64 (intS (intS s).2).2
    have m1 := small_int hsm
    have m2 := small_int m1
    have m3 := small_int m2
    go_wp2_with fail
    refine hB.int.mono ?_
    rintro e w3 ⟨rfl, hB3⟩
    clear hB
    go_wp2_with fail
    refine hB3.int.mono ?_
    rintro e w4 ⟨rfl, hB⟩
    clear hB3
    generalize hop : (intS s).1 = op at *
    generalize hn1 : (intS (intS s).2).1 = n at *
    replace hop := Lib.hid hop
    replace hn1 := Lib.hid hn1
    have hB2 := hB.own (fun w0 m => ((m.new #[.int .i64 op, .int .i64 n, .slice none 0 0, .slice none 0 0] 50).nil mono_ItvR 8 92).nil mono_FmR 4 50)
    simp only [List.cons_append, List.nil_append] at hB2
    clear hB
    go_upto_region 3 with (fail)
    generalize hg5 : w4.heap.size = g5 at *
    generalize w4.alloc _ = w5 at *
    go_wp2_with fail
    refine hB2.int.mono ?_
    rintro e w6 ⟨rfl, hB⟩
    clear hB2
    generalize (intS (intS (intS s).2).2).2 = s3 at *
    generalize (intS (intS (intS s).2).2).1 = m at *
    go_wp2_with fail
    go_loopw [7] (fun vi wr => ∃ (i : Nat) (vI : Value) (out : List Itv) (si : RS), vi = .int .i64 i ∧ out.length = i ∧ i ≤ 32 ∧ RS2 HR w g b si (L - 1) [box w.heap.size #[.int .i64 0, .int .i64 0, .slice none 0 0, .slice none 0 0] 50, box g5 #[.int .i64 op, .int .i64 n, vI, .slice none 0 0] 50, own mono_ItvR 8 92 vI out, own mono_FmR 4 50 (.slice none 0 0) ([] : List Fm)] noH wr ∧ InF s L op n m out si ∧ Small si) (fun vi _ => 33 - (intOf vi).toNat)
    case atStart => exact ⟨0, _, [], s3, rfl, rfl, by omega, hB, hq0, m3⟩
    case round =>
      clear hB hq0
      obtain ⟨i, vI, out, si, rfl, hol, hi32, hB, hq, hsi⟩ := hrel
      replace hol := Lib.hid hol
      obtain ⟨iA, iC, rfl, -⟩ : ∃ a c, vI = .slice a out.length c ∧ True := by
        obtain ⟨w0, hw0, hMm⟩ := hB.mem
        obtain ⟨a, c, e, -⟩ := hMm.form 2 rfl
        exact ⟨a, c, e, trivial⟩
      obtain ⟨cb, fb⟩ := hB.left.facts
      have lb := hB.left.lt
      have cb0 : _ = some (Value.int .i64 (L - 1)) := cb 0
      have fb0 := fb 0
      clear cb fb
      by_cases hgo : (i : Int) < m ∧ m ≤ 32 ∧ 0 ≤ L - 1
      · obtain ⟨g1, g2, g3⟩ := hgo
        have b1 : decide ((i : Int) < m) = true := by simpa using g1
        have b2 : decide (m ≤ 32) = true := by simpa using g2
        have b3 : decide (0 ≤ L - 1) = true := by simpa using g3
        go_wp2_with fail
        refine (hB.ints hsi).mono ?_
        rintro e w7 ⟨v, rfl, hB7⟩
        have hq2 := hq.step (by have := hol.out; omega)
        have hno := fun h => hq.no8 (by have := hol.out; omega) h
        have hsi2 := small_list hsi
        obtain ⟨xs, hxs⟩ : ∃ xs, (listS intS si).1 = xs := ⟨_, rfl⟩
        rw [hxs] at hB7 hq2 hno
        generalize (listS intS si).2 = sj at *
        obtain ⟨vA, vC, rfl, -⟩ : ∃ a c, v = .slice a xs.length c ∧ True := by
          obtain ⟨w0, hw0, hMm⟩ := hB7.mem
          obtain ⟨a, c, e, -⟩ := hMm.form 4 rfl
          exact ⟨a, c, e, trivial⟩
        clear hB hxs cb0 fb0 lb
        by_cases h8 : xs.length = 8
        · have hl8 : ((xs.length : Int) != 8) = false := by rw [h8]; rfl
          obtain ⟨p0, p1, p2, p3, p4, p5, p6, p7, rfl⟩ : ∃ p0 p1 p2 p3 p4 p5 p6 p7 : Int, xs = [p0, p1, p2, p3, p4, p5, p6, p7] := by
            match xs, h8 with
            | [a, b, c, d, e, f, g, h], _ => exact ⟨a, b, c, d, e, f, g, h, rfl⟩
          clear hno h8
          have hrp : IntsR (ph w7) (.slice vA [p0, p1, p2, p3, p4, p5, p6, p7].length vC) [p0, p1, p2, p3, p4, p5, p6, p7] := by
            obtain ⟨w0, hw0, hMm⟩ := hB7.mem
            exact hMm.rep 4 rfl
          obtain ⟨lb, lo, rfl, y0, y1, y2, y3, y4, y5, y6, y7, yl, j0, j1, j2, j3⟩ := ints8_at hrp
          clear hrp
          have hB := hB7.own (fun w0 m => m.pick [0, 1, 2, 3] (by decide))
          simp only [List.cons_append, List.nil_append, List.map_cons, List.map_nil, List.getElem?_cons_zero, List.getElem?_cons_succ, Option.getD_some] at hB
          clear hB7
          have u2 : w7.cell? ⟨g5, 2, none⟩ = some (Value.slice iA out.length iC) := by
            obtain ⟨w0, hw0, hMm⟩ := hB.mem
            exact (hMm.box 1 rfl).facts.1 2
          have ul : g5 < w7.heap.size := by
            obtain ⟨w0, hw0, hMm⟩ := hB.mem
            exact (hMm.box 1 rfl).lt
          simp only [List.length_cons, List.length_nil, Nat.reduceAdd] at hl8 ⊢
          go_upto_region 11 with (fail)
          (refine wp_region_I 34 (by kernel_rfl) (by kernel_rfl) ?_; simp only [List.toList_toArray, List.take_succ_cons, List.take_zero, List.drop_succ_cons, List.drop_zero])
          iterate 33 (refine wiA rfl (by simp) rfl ?_; (try simp only [List.nil_append, List.cons_append]))
          (refine walkI_step ((fun v w' => ∃ bb, v = .slice (some ⟨bb, 0, none⟩) 1 1 ∧ Proofs.YtnpnjcaomakehaaGreat.Own w' bb #[.int .i64 p0, .int .i64 p1, .int .i64 p2, .int .i64 p3, .bool (p4 == 1), .bool (p5 == 1), .bool (p6 == 1), .bool (p7 == 1)] 92)) rfl (by simp) rfl ((fun v w w' _ ⟨b, k1, k2⟩ e => ⟨b, k1, k2.keep e⟩)) ?_ ?_; (focus (intro A w' hS hA K hK; (simp only [List.map_cons, List.map_nil, knows, Is, Op.operands, Call.operands, List.lookup_cons, List.lookup_nil, Nat.reduceBEq, Bool.false_eq_true, if_false, if_true, Act.eval, Array.getD_eq_getD_getElem?, List.getElem?_toArray, List.getElem?_cons_succ, List.getElem?_cons_zero, Option.getD_some, and_true, true_and, List.append_toArray, List.nil_append, List.cons_append, List.toList_toArray, Array.toList_append, Option.toArray, List.append_nil] at hA); (go_simp; exact hK _ _ (Ext.new _ _) ⟨_, rfl, Proofs.YtnpnjcaomakehaaGreat.Own.new _ _ _⟩))); (try simp only [List.nil_append, List.cons_append]))
          (refine walkI_nil ?_; simp only [List.nil_append, List.cons_append, fins, Is, forall_eq, Act.put, List.setIfInBounds_toArray, List.set_cons_zero, List.set_cons_succ])
          rintro w8 hx8 vv ⟨bb, rfl, ob⟩
          replace hB := hB.own (fun w0 m => m.ext hx8)
          clear u2 ul y0 y1 y2 y3 y4 y5 y6 y7 yl hx8
          obtain ⟨w0, hw0, hMm⟩ := hB.mem
          have hS := Src.lit1 (H := noH) (E := ItvR) (sz := 8) (w := w8) (b := bb) (x := ⟨⟨p0, p1⟩, ⟨p2, p3⟩, p4 == 1, p5 == 1, p6 == 1, p7 == 1⟩) (cs := [.int .i64 p0, .int .i64 p1, .int .i64 p2, .int .i64 p3, .bool (p4 == 1), .bool (p5 == 1), .bool (p6 == 1), .bool (p7 == 1)]) ⟨rfl, ⟨j0, j1⟩, j2, j3⟩ rfl (fun j => by rw [ob.facts.1]; simp)
          go_wp2_with (first | (at_builtin; refine wpList_append_M 2 rfl _ _ 48 rfl Tryz.underlying48 infoItv rfl rfl rfl hMm rfl hS one_ItvR (by have h9 := hol.out; simp; omega) (by have h9 := hol.out; simp; omega) ?c5))
          case c5 =>
          intro v' w9 hM9
          replace hB := hB.own1 hw0 hMm hM9
          try simp only [List.set_cons_zero, List.set_cons_succ] at hB
          clear hMm hM9 hS ob hw0
          obtain ⟨nA, nC, rfl, -⟩ : ∃ a c, v' = .slice a (out ++ [(⟨⟨p0, p1⟩, ⟨p2, p3⟩, p4 == 1, p5 == 1, p6 == 1, p7 == 1⟩ : Itv)]).length c ∧ True := by
            obtain ⟨w0, hw0, hMm⟩ := hB.mem
            obtain ⟨a, c, e, -⟩ := hMm.form 2 rfl
            exact ⟨a, c, e, trivial⟩
          have f2 : w9.frozen? ⟨g5, 2, none⟩ = false := by
            obtain ⟨w0, hw0, hMm⟩ := hB.mem
            exact (hMm.box 1 rfl).facts.2 2
          have u2 : w9.cell? ⟨g5, 2, none⟩ = some (Value.slice iA out.length iC) := by
            obtain ⟨w0, hw0, hMm⟩ := hB.mem
            exact (hMm.box 1 rfl).facts.1 2
          have ul : g5 < w9.heap.size := by
            obtain ⟨w0, hw0, hMm⟩ := hB.mem
            exact (hMm.box 1 rfl).lt
          have hq3 : InF s L op n m (out ++ [(⟨⟨p0, p1⟩, ⟨p2, p3⟩, p4 == 1, p5 == 1, p6 == 1, p7 == 1⟩ : Itv)]) sj := hq2
          clear hq2
          have hnl : Hid ((out ++ [(⟨⟨p0, p1⟩, ⟨p2, p3⟩, p4 == 1, p5 == 1, p6 == 1, p7 == 1⟩ : Itv)]).length = i + 1) := Lib.hid (by rw [List.length_append, hol.out]; rfl)
          generalize out ++ [(⟨⟨p0, p1⟩, ⟨p2, p3⟩, p4 == 1, p5 == 1, p6 == 1, p7 == 1⟩ : Itv)] = out2 at *
          replace hB := hB.own (fun w0 m => m.set 1 rfl 2 (.slice nA out2.length nC))
          try simp only [List.set_cons_zero, List.setIfInBounds_toArray, List.set_cons_succ] at hB
          go_wp2_with fail
          go_roundw
          case rel => exact ⟨i + 1, _, out2, sj, by go_num, hnl.out, by omega, hB, hq3, hsi2⟩
          case measure => simp [intOf]; omega
        · have hl8 : ((xs.length : Int) != 8) = true := by simp; omega
          replace hno := hno h8
          obtain ⟨cb, fb⟩ := hB7.left.facts
          have lb := hB7.left.lt
          have cb0 : _ = some (Value.int .i64 (L - 1)) := cb 0
          have fb0 := fb 0
          clear cb fb h8
          go_upto_region 10 with (fail)
          replace hB7 := hB7.setL (-1)
          clear cb0 fb0 lb
          generalize World.setCell _ _ _ = w8 at *
          have hB := hB7
          clear hB7
          obtain ⟨w0, hw0, hMm⟩ := hB.mem
          obtain ⟨uc, -⟩ := (hMm.box 1 rfl).facts
          have u0 : _ = some (Value.int .i64 op) := uc 0
          have u1 : _ = some (Value.int .i64 n) := uc 1
          have u2 : _ = some ((.slice iA out.length iC) : Value) := uc 2
          have u3 : _ = some ((.slice none 0 0) : Value) := uc 3
          have ul := (hMm.box 1 rfl).lt
          have rz0 : _ = some (Value.int .i64 0) := (hMm.box 0 rfl).facts.1 0
          have rz1 : _ = some (Value.int .i64 0) := (hMm.box 0 rfl).facts.1 1
          have rz2 : _ = some (Value.slice none 0 0) := (hMm.box 0 rfl).facts.1 2
          have rz3 : _ = some (Value.slice none 0 0) := (hMm.box 0 rfl).facts.1 3
          obtain ⟨-, rzf⟩ := (hMm.box 0 rfl).facts
          have rzl := (hMm.box 0 rfl).lt
          have hB8 := hB.own (fun w0 m => m.set4 0 rfl (.int .i64 op) (.int .i64 n) (.slice iA out.length iC) (.slice none 0 0))
          try simp only [List.set_cons_zero] at hB8
          clear hB uc hMm hw0
          go_wp2_with fail
          generalize World.setCell _ _ _ = w9 at *
          obtain ⟨w0', hw0', hMm'⟩ := hB8.mem
          obtain ⟨rq', -⟩ := (hMm'.box 0 rfl).facts
          have rq0 : _ = some (Value.int .i64 op) := rq' 0
          have rq1 : _ = some (Value.int .i64 n) := rq' 1
          have rq2 : _ = some ((.slice iA out.length iC) : Value) := rq' 2
          have rq3 : _ = some ((.slice none 0 0) : Value) := rq' 3
          obtain ⟨H5, k5, hM5, hI5⟩ := hMm'.freezeS 2 rfl
          obtain ⟨H6, k6, hM6, hK6⟩ := hM5.freezeS 3 rfl
          have hub := hM6.ub
          rw [up_szN hw0'] at hub
          refine bodyPost_ret (v := .agg #[.int .i64 op, .int .i64 n, (.slice iA out.length iC), (.slice none 0 0)]) (by simp [results, Tryz.results55, go_sem, rq0, rq1, rq2, rq3]) rfl ?_
          refine ⟨.mk op n out [], _, _, _, _, _, _, rfl, mono_FmR _ _ _ _ hub (FmR.of (f := .mk op n out []) i1 i2 (hI5.mono mono_ItvR k6) hK6), ?_, hB8.rd, hB8.left, hB8.ex, ?_⟩
          · exact rdF_no hno (by omega) (by omega) (by have := hol.out; omega)
          · exact hsi2
      · go_upto_region 5 with (fail)
        go_cut [35] (fun v wx => v = .bool false ∧ wx = wr)
        case first =>
          by_cases g1 : (i : Int) < m
          · have b1 : decide ((i : Int) < m) = true := by simpa using g1
            by_cases g2 : m ≤ 32
            · have b2 : decide (m ≤ 32) = true := by simpa using g2
              go_wp2_with fail
              go_meet
              case rel => exact ⟨by rw [decide_eq_false (by omega)], rfl⟩
            · have b2 : decide (m ≤ 32) = false := by simpa using g2
              go_wp2_with fail
              go_meet
              case rel => exact ⟨rfl, rfl⟩
          · have b1 : decide ((i : Int) < m) = false := by simpa using g1
            go_wp2_with fail
            go_meet
            case rel => exact ⟨rfl, rfl⟩
        case rest =>
        obtain ⟨rfl, rfl⟩ := hcut
        obtain ⟨hk0, hk1⟩ := hq.done (by have := hol.out; omega)
        have ik := intS_i64 si
        have hsk := small_int hsi
        clear cb0 fb0 lb
        go_wp2_with fail
        refine hB.int.mono ?_
        rintro e w6 ⟨rfl, hBk⟩
        clear hB
        generalize (intS si).2 = sK at *
        generalize (intS si).1 = kk at *
        obtain ⟨cb, fb⟩ := hBk.left.facts
        have lb := hBk.left.lt
        have cb0 : _ = some (Value.int .i64 (L - 1)) := cb 0
        have fb0 := fb 0
        clear cb fb
        have u2 : w6.cell? ⟨g5, 2, none⟩ = some (Value.slice iA out.length iC) := by
          obtain ⟨w0, hw0, hMm⟩ := hBk.mem
          exact (hMm.box 1 rfl).facts.1 2
        have ul : g5 < w6.heap.size := by
          obtain ⟨w0, hw0, hMm⟩ := hBk.mem
          exact (hMm.box 1 rfl).lt
        go_upto_region 13 with (fail)
        go_cut [99] (fun v wx => ∃ q : Bool, v = .bool q ∧ Hid (q = false ↔ (m = (out.length : Int) ∧ 0 ≤ kk ∧ kk ≤ L - 1)) ∧ wx = w6)
        case first =>
          by_cases g1 : m = (out.length : Int)
          · have b1 : (m != (out.length : Int)) = false := by simp [g1]
            by_cases g2 : kk < 0
            · have b2 : decide (kk < 0) = true := by simpa using g2
              replace g1 := Lib.hid g1
              go_wp2_with fail
              go_meet
              case rel => exact ⟨true, rfl, Lib.hid (by simp; omega), rfl⟩
            · have b2 : decide (kk < 0) = false := by simpa using g2
              by_cases g3 : L - 1 < kk
              · have b3 : decide (L - 1 < kk) = true := by simpa using g3
                replace g1 := Lib.hid g1
                go_wp2_with fail
                go_meet
                case rel => exact ⟨true, by first | (simp; done) | (simp; omega), Lib.hid (by simp; omega), rfl⟩
              · have b3 : decide (L - 1 < kk) = false := by simpa using g3
                replace g1 := Lib.hid g1
                go_wp2_with fail
                go_meet
                case rel => exact ⟨false, by first | (simp; done) | (simp; omega), Lib.hid (by have := g1.out; simp; omega), rfl⟩
          · have b1 : (m != (out.length : Int)) = true := by simpa using g1
            go_wp2_with fail
            go_meet
            case rel => exact ⟨true, rfl, Lib.hid (by simp; omega), rfl⟩
        case rest =>
        obtain ⟨q, rfl, hqb, rfl⟩ := hcut
        rename_i hKz
        refine hKz _ _ ?_
        go_cut [] (fun wx => ∃ L1, RS2 HR w g b sK L1 [box w.heap.size #[.int .i64 0, .int .i64 0, .slice none 0 0, .slice none 0 0] 50, box g5 #[.int .i64 op, .int .i64 n, .slice iA out.length iC, .slice none 0 0] 50, own mono_ItvR 8 92 (.slice iA out.length iC) out, own mono_FmR 4 50 (.slice none 0 0) ([] : List Fm)] noH wx ∧ -1 ≤ L1 ∧ L1 ≤ L - 1 ∧ KdF s L op n out kk [] sK L1)
        case first =>
          cases q with
          | true =>
            go_wp2_with fail
            go_meet
            case rel =>
              refine ⟨-1, hBk.setL (-1), by omega, by omega, fun f0 rest hh => ?_⟩
              have := hqb.out.2 (hk1 f0 rest hh)
              cases this
          | false =>
            go_wp2_with fail
            go_meet
            case rel => exact ⟨L - 1, hBk, by omega, by omega, hk0⟩
        case rest =>
        obtain ⟨L1, hB, hL1, hL2, hkd⟩ := hcut
        clear hBk hk0 hk1 hqb cb0 fb0 lb u2 ul
        have hol2 : out.length ≤ 32 := by have := hol.out; omega
        clear hol hq hsi hi32
        go_wp2_with fail
        go_loopw [10] (fun vi wr => ∃ (j : Nat) (vK : Value) (ks : List Fm) (H : PH) (sj : RS) (Lj : Int), vi = .int .i64 j ∧ Hid (ks.length = j) ∧ RS2 HR w g b sj Lj [box w.heap.size #[.int .i64 0, .int .i64 0, .slice none 0 0, .slice none 0 0] 50, box g5 #[.int .i64 op, .int .i64 n, .slice iA out.length iC, vK] 50, own mono_ItvR 8 92 (.slice iA out.length iC) out, own mono_FmR 4 50 vK ks] H wr ∧
          -1 ≤ Lj ∧ (sumN Fm.size ks : Int) ≤ L - 1 - Lj ∧ j ≤ sumN Fm.size ks ∧ sumN Fm.bulk ks ≤ 33 * sumN Fm.size ks ∧ KdF s L op n out kk ks sj Lj ∧ Small sj) (fun vi _ => 98 - (intOf vi).toNat)
        case atStart => exact ⟨0, _, [], noH, sK, L1, rfl, Lib.hid rfl, hB, hL1, by simp [sumN]; omega, by simp, by simp [sumN], hkd, hsk⟩
        case round =>
          clear hB hkd hsk
          obtain ⟨j, vK, ks, H, sj, Lj, rfl, hkl, hB, hLj, hsz, hjs, hbk, hkd, hsj⟩ := hrel
          obtain ⟨ka, kc, rfl, -⟩ : ∃ a c, vK = .slice a ks.length c ∧ True := by
            obtain ⟨w0, hw0, hMm⟩ := hB.mem
            obtain ⟨a, c, e, -⟩ := hMm.form 3 rfl
            exact ⟨a, c, e, trivial⟩
          obtain ⟨cb, fb⟩ := hB.left.facts
          have lb := hB.left.lt
          have cb0 : _ = some (Value.int .i64 Lj) := cb 0
          clear cb fb
          by_cases hgo : (j : Int) < kk ∧ 0 ≤ Lj
          · obtain ⟨g1, g2⟩ := hgo
            have b1 : decide ((j : Int) < kk) = true := by simpa using g1
            have b2 : decide (0 ≤ Lj) = true := by simpa using g2
            have k3 : wr.cell? ⟨g5, 3, none⟩ = some (Value.slice ka ks.length kc) := by
              obtain ⟨w0, hw0, hMm⟩ := hB.mem
              exact (hMm.box 1 rfl).facts.1 3
            have ul : g5 < wr.heap.size := by
              obtain ⟨w0, hw0, hMm⟩ := hB.mem
              exact (hMm.box 1 rfl).lt
            go_wp2_with fail
            refine wp_region_any (by kernel_rfl) ?_
            change wpAny _ _ _ _ _ _ _ (World.drew _)
            replace hB := hB.own (fun w0 m => m.ext (Ext.rfl' wr).drew')
            clear cb0 lb b1 b2
            (refine wpAny_take (i := 0) (v := ?_) rfl (by kernel_rfl) (by kernel_rfl) (by kernel_rfl) (fun _ _ _ h => h) (Or.inl ⟨by rfl, ?_⟩) ?_; rotate_left; (focus ((intro w; go_simp); try (with_reducible rfl))); (try simp only [Act.put, List.setIfInBounds_toArray, List.set_cons_zero, List.set_cons_succ]))
            (refine wpAny_take (i := 2) (v := ?_) rfl (by kernel_rfl) (by kernel_rfl) (by kernel_rfl) (fun _ _ _ h => h) (Or.inl ⟨by rfl, ?_⟩) ?_; rotate_left; (focus ((intro w; go_simp); try (with_reducible rfl))); (try simp only [Act.put, List.setIfInBounds_toArray, List.set_cons_zero, List.set_cons_succ]))
            (refine wpAny_take (i := 3) (v := ?_) rfl (by kernel_rfl) (by kernel_rfl) (by kernel_rfl) (fun _ _ _ h => h) (Or.inl ⟨by rfl, ?_⟩) ?_; rotate_left; (focus ((intro w; go_simp); try (with_reducible rfl))); (try simp only [Act.put, List.setIfInBounds_toArray, List.set_cons_zero, List.set_cons_succ]))
            refine wpAny_ready (rs := [1, 4]) (by kernel_rfl) (by simp) ?_
            refine AllReady.cons rfl (fun K hK => ?_) (AllReady.cons rfl (fun K hK => ?_) AllReady.nil)
            · go_simp
              refine hK _ _ ?_
              clear hK K
              refine wpAny_ready (rs := [4]) (by kernel_rfl) (by simp) ?_; refine AllReady.cons rfl (fun K hK => ?_) AllReady.nil
              go_simp
              refine (ih.out Lj g b sj _ (by omega) (by omega) (by omega) hB.rd hB.left hB.gb hB.hn hsj).mono ?_
              rintro e' w4 ⟨f, a3, c3, a4, c4, s', L', rfl, hF, hrd, hR4, hL4, hx4, hs4⟩
              refine hK _ _ ?_
              clear hK K
              obtain ⟨H4, q1, q2, hB4⟩ := hB.call hR4 hL4 hx4 (PLe.refl _)
              have hF4 := mono_FmR _ _ _ _ q2 hF
              replace hB := hB4
              clear hB4 q1 q2 hF hR4 hL4 hx4 k3 ul
              have k3 : w4.cell? ⟨g5, 3, none⟩ = some (Value.slice ka ks.length kc) := by
                obtain ⟨w0, hw0, hMm⟩ := hB.mem
                exact (hMm.box 1 rfl).facts.1 3
              have ul : g5 < w4.heap.size := by
                obtain ⟨w0, hw0, hMm⟩ := hB.mem
                exact (hMm.box 1 rfl).lt
              (refine wpAny_ready (rs := [5]) (by kernel_rfl) (by simp) ?_; refine AllReady.cons rfl (fun K hK => ?_) AllReady.nil; go_simp; refine hK _ _ ?_; clear hK K)
              clear k3 ul
              have hB5 := hB.own (fun w0 m => m.ext (Ext.new w4 (.cells #[.int .i64 f.op, .int .i64 f.n, .slice a3 f.inn.length c3, .slice a4 f.kids.length c4] 50)))
              have hS := Src.lit1 (E := FmR) (H := H4) (w := w4.alloc (.cells #[.int .i64 f.op, .int .i64 f.n, .slice a3 f.inn.length c3, .slice a4 f.kids.length c4] 50)) (b := w4.heap.size) (sz := 4) hF4 rfl (fun j => by rw [(Proofs.YtnpnjcaomakehaaGreat.Own.new w4 #[.int .i64 f.op, .int .i64 f.n, .slice a3 f.inn.length c3, .slice a4 f.kids.length c4] 50).facts.1 j]; simp [fmC])
              clear hB
              obtain ⟨w0, hw0, hMm⟩ := hB5.mem
              refine wpAny_ready (rs := [6]) (by kernel_rfl) (by simp) ?_; refine AllReady.cons rfl (fun K hK => ?_) AllReady.nil
              refine oper_append_M (hm := mono_FmR) (v := .slice ka ks.length kc) (xs := ks) (ys := [f]) 3 _ _ 45 rfl Tryz.underlying45 infoFm rfl rfl rfl hMm rfl hS one_FmR (by have := hkl.out; simp; omega) (by have := hkl.out; simp; omega) ?_
              intro v' w6 hM6 hgr6
              refine hK _ _ ?_
              clear hK K
              have hB := hB5.own1 hw0 hMm hM6
              try simp only [List.set_cons_succ, List.set_cons_zero] at hB
              clear hB5 hMm hM6 hS hgr6 hw0
              obtain ⟨na, nc, rfl, -⟩ : ∃ a c, v' = .slice a (ks ++ [f]).length c ∧ True := by
                obtain ⟨w0, hw0, hMm⟩ := hB.mem
                obtain ⟨a, c, e, -⟩ := hMm.form 3 rfl
                exact ⟨a, c, e, trivial⟩
              have uf3 : w6.frozen? ⟨g5, 3, none⟩ = false := by
                obtain ⟨w0, hw0, hMm⟩ := hB.mem
                exact (hMm.box 1 rfl).facts.2 3
              have uc3 : w6.cell? ⟨g5, 3, none⟩ = some (Value.slice ka ks.length kc) := by
                obtain ⟨w0, hw0, hMm⟩ := hB.mem
                exact (hMm.box 1 rfl).facts.1 3
              have ul : g5 < w6.heap.size := by
                obtain ⟨w0, hw0, hMm⟩ := hB.mem
                exact (hMm.box 1 rfl).lt
              have hB7 := hB.own (fun w0 m => m.set 1 rfl 3 (.slice na (ks ++ [f]).length nc))
              try simp only [List.set_cons_succ, List.set_cons_zero, List.setIfInBounds_toArray] at hB7
              clear hB
              rw [show (ks ++ [f]).length = ks.length + 1 by simp] at hB7
              (refine wpAny_take (i := 7) (v := ?_) rfl (by kernel_rfl) (by kernel_rfl) (by kernel_rfl) (fun _ _ _ h => h) (Or.inl ⟨by rfl, ?_⟩) ?_; rotate_left; (focus ((intro w; go_simp); try (with_reducible rfl))); (try simp only [Act.put, List.setIfInBounds_toArray, List.set_cons_zero, List.set_cons_succ]))
              (refine wpAny_ready (rs := [8]) (by kernel_rfl) (by simp) ?_; refine AllReady.cons rfl (fun K hK => ?_) AllReady.nil; go_simp; refine hK _ _ ?_; clear hK K)
              refine wpAny_done (by kernel_rfl) ?_ _
              try simp only [List.getElem_toArray, List.getElem_cons_succ, List.getElem_cons_zero, Act.put, List.setIfInBounds_toArray, List.set_cons_zero, List.set_cons_succ]
              go_wp2_with fail
              go_roundw
              case rel =>
                have h1 : sumN Fm.size (ks ++ [f]) = sumN Fm.size ks + f.size := size_snoc ks f
                have h2 : sumN Fm.bulk (ks ++ [f]) = sumN Fm.bulk ks + f.bulk := bulk_snoc ks f
                have h3 := hrd.1
                have h4 := hrd.2.1
                have h5 := hrd.2.2.1
                have h6 := f.size_pos
                exact ⟨j + 1, .slice na (ks.length + 1) nc, ks ++ [f], H4, s', L', by go_num, Lib.hid (by rw [List.length_append, hkl.out]; rfl), hB7, h3, by omega, by omega, by rw [h1]; omega, hkd.step (by have := hkl.out; omega) hrd, hs4⟩
              case measure => simp [intOf]; omega
            · skip
              go_simp
              refine (ih.out Lj g b sj _ (by omega) (by omega) (by omega) hB.rd hB.left hB.gb hB.hn hsj).mono ?_
              rintro e' w4 ⟨f, a3, c3, a4, c4, s', L', rfl, hF, hrd, hR4, hL4, hx4, hs4⟩
              refine hK _ _ ?_
              clear hK K
              obtain ⟨H4, q1, q2, hB4⟩ := hB.call hR4 hL4 hx4 (PLe.refl _)
              have hF4 := mono_FmR _ _ _ _ q2 hF
              replace hB := hB4
              clear hB4 q1 q2 hF hR4 hL4 hx4 k3 ul
              have k3 : w4.cell? ⟨g5, 3, none⟩ = some (Value.slice ka ks.length kc) := by
                obtain ⟨w0, hw0, hMm⟩ := hB.mem
                exact (hMm.box 1 rfl).facts.1 3
              have ul : g5 < w4.heap.size := by
                obtain ⟨w0, hw0, hMm⟩ := hB.mem
                exact (hMm.box 1 rfl).lt
              refine wpAny_ready (rs := [1, 5]) (by kernel_rfl) (by simp) ?_
              refine AllReady.cons rfl (fun K hK => ?_) (AllReady.cons rfl (fun K hK => ?_) AllReady.nil)
              · go_simp
                refine hK _ _ ?_
                clear hK K
                (refine wpAny_ready (rs := [5]) (by kernel_rfl) (by simp) ?_; refine AllReady.cons rfl (fun K hK => ?_) AllReady.nil; go_simp; refine hK _ _ ?_; clear hK K)
                clear k3 ul
                have hB5 := hB.own (fun w0 m => m.ext (Ext.new w4 (.cells #[.int .i64 f.op, .int .i64 f.n, .slice a3 f.inn.length c3, .slice a4 f.kids.length c4] 50)))
                have hS := Src.lit1 (E := FmR) (H := H4) (w := w4.alloc (.cells #[.int .i64 f.op, .int .i64 f.n, .slice a3 f.inn.length c3, .slice a4 f.kids.length c4] 50)) (b := w4.heap.size) (sz := 4) hF4 rfl (fun j => by rw [(Proofs.YtnpnjcaomakehaaGreat.Own.new w4 #[.int .i64 f.op, .int .i64 f.n, .slice a3 f.inn.length c3, .slice a4 f.kids.length c4] 50).facts.1 j]; simp [fmC])
                clear hB
                obtain ⟨w0, hw0, hMm⟩ := hB5.mem
                refine wpAny_ready (rs := [6]) (by kernel_rfl) (by simp) ?_; refine AllReady.cons rfl (fun K hK => ?_) AllReady.nil
                refine oper_append_M (hm := mono_FmR) (v := .slice ka ks.length kc) (xs := ks) (ys := [f]) 3 _ _ 45 rfl Tryz.underlying45 infoFm rfl rfl rfl hMm rfl hS one_FmR (by have := hkl.out; simp; omega) (by have := hkl.out; simp; omega) ?_
                intro v' w6 hM6 hgr6
                refine hK _ _ ?_
                clear hK K
                have hB := hB5.own1 hw0 hMm hM6
                try simp only [List.set_cons_succ, List.set_cons_zero] at hB
                clear hB5 hMm hM6 hS hgr6 hw0
                obtain ⟨na, nc, rfl, -⟩ : ∃ a c, v' = .slice a (ks ++ [f]).length c ∧ True := by
                  obtain ⟨w0, hw0, hMm⟩ := hB.mem
                  obtain ⟨a, c, e, -⟩ := hMm.form 3 rfl
                  exact ⟨a, c, e, trivial⟩
                have uf3 : w6.frozen? ⟨g5, 3, none⟩ = false := by
                  obtain ⟨w0, hw0, hMm⟩ := hB.mem
                  exact (hMm.box 1 rfl).facts.2 3
                have uc3 : w6.cell? ⟨g5, 3, none⟩ = some (Value.slice ka ks.length kc) := by
                  obtain ⟨w0, hw0, hMm⟩ := hB.mem
                  exact (hMm.box 1 rfl).facts.1 3
                have ul : g5 < w6.heap.size := by
                  obtain ⟨w0, hw0, hMm⟩ := hB.mem
                  exact (hMm.box 1 rfl).lt
                have hB7 := hB.own (fun w0 m => m.set 1 rfl 3 (.slice na (ks ++ [f]).length nc))
                try simp only [List.set_cons_succ, List.set_cons_zero, List.setIfInBounds_toArray] at hB7
                clear hB
                rw [show (ks ++ [f]).length = ks.length + 1 by simp] at hB7
                (refine wpAny_take (i := 7) (v := ?_) rfl (by kernel_rfl) (by kernel_rfl) (by kernel_rfl) (fun _ _ _ h => h) (Or.inl ⟨by rfl, ?_⟩) ?_; rotate_left; (focus ((intro w; go_simp); try (with_reducible rfl))); (try simp only [Act.put, List.setIfInBounds_toArray, List.set_cons_zero, List.set_cons_succ]))
                (refine wpAny_ready (rs := [8]) (by kernel_rfl) (by simp) ?_; refine AllReady.cons rfl (fun K hK => ?_) AllReady.nil; go_simp; refine hK _ _ ?_; clear hK K)
                refine wpAny_done (by kernel_rfl) ?_ _
                try simp only [List.getElem_toArray, List.getElem_cons_succ, List.getElem_cons_zero, Act.put, List.setIfInBounds_toArray, List.set_cons_zero, List.set_cons_succ]
                go_wp2_with fail
                go_roundw
                case rel =>
                  have h1 : sumN Fm.size (ks ++ [f]) = sumN Fm.size ks + f.size := size_snoc ks f
                  have h2 : sumN Fm.bulk (ks ++ [f]) = sumN Fm.bulk ks + f.bulk := bulk_snoc ks f
                  have h3 := hrd.1
                  have h4 := hrd.2.1
                  have h5 := hrd.2.2.1
                  have h6 := f.size_pos
                  exact ⟨j + 1, .slice na (ks.length + 1) nc, ks ++ [f], H4, s', L', by go_num, Lib.hid (by rw [List.length_append, hkl.out]; rfl), hB7, h3, by omega, by omega, by rw [h1]; omega, hkd.step (by have := hkl.out; omega) hrd, hs4⟩
                case measure => simp [intOf]; omega
              · go_simp
                refine hK _ _ ?_
                clear hK K
                (refine wpAny_ready (rs := [1]) (by kernel_rfl) (by simp) ?_; refine AllReady.cons rfl (fun K hK => ?_) AllReady.nil; go_simp; refine hK _ _ ?_; clear hK K)
                clear k3 ul
                have hB5 := hB.own (fun w0 m => m.ext (Ext.new w4 (.cells #[.int .i64 f.op, .int .i64 f.n, .slice a3 f.inn.length c3, .slice a4 f.kids.length c4] 50)))
                have hS := Src.lit1 (E := FmR) (H := H4) (w := w4.alloc (.cells #[.int .i64 f.op, .int .i64 f.n, .slice a3 f.inn.length c3, .slice a4 f.kids.length c4] 50)) (b := w4.heap.size) (sz := 4) hF4 rfl (fun j => by rw [(Proofs.YtnpnjcaomakehaaGreat.Own.new w4 #[.int .i64 f.op, .int .i64 f.n, .slice a3 f.inn.length c3, .slice a4 f.kids.length c4] 50).facts.1 j]; simp [fmC])
                clear hB
                obtain ⟨w0, hw0, hMm⟩ := hB5.mem
                refine wpAny_ready (rs := [6]) (by kernel_rfl) (by simp) ?_; refine AllReady.cons rfl (fun K hK => ?_) AllReady.nil
                refine oper_append_M (hm := mono_FmR) (v := .slice ka ks.length kc) (xs := ks) (ys := [f]) 3 _ _ 45 rfl Tryz.underlying45 infoFm rfl rfl rfl hMm rfl hS one_FmR (by have := hkl.out; simp; omega) (by have := hkl.out; simp; omega) ?_
                intro v' w6 hM6 hgr6
                refine hK _ _ ?_
                clear hK K
                have hB := hB5.own1 hw0 hMm hM6
                try simp only [List.set_cons_succ, List.set_cons_zero] at hB
                clear hB5 hMm hM6 hS hgr6 hw0
                obtain ⟨na, nc, rfl, -⟩ : ∃ a c, v' = .slice a (ks ++ [f]).length c ∧ True := by
                  obtain ⟨w0, hw0, hMm⟩ := hB.mem
                  obtain ⟨a, c, e, -⟩ := hMm.form 3 rfl
                  exact ⟨a, c, e, trivial⟩
                have uf3 : w6.frozen? ⟨g5, 3, none⟩ = false := by
                  obtain ⟨w0, hw0, hMm⟩ := hB.mem
                  exact (hMm.box 1 rfl).facts.2 3
                have uc3 : w6.cell? ⟨g5, 3, none⟩ = some (Value.slice ka ks.length kc) := by
                  obtain ⟨w0, hw0, hMm⟩ := hB.mem
                  exact (hMm.box 1 rfl).facts.1 3
                have ul : g5 < w6.heap.size := by
                  obtain ⟨w0, hw0, hMm⟩ := hB.mem
                  exact (hMm.box 1 rfl).lt
                have hB7 := hB.own (fun w0 m => m.set 1 rfl 3 (.slice na (ks ++ [f]).length nc))
                try simp only [List.set_cons_succ, List.set_cons_zero, List.setIfInBounds_toArray] at hB7
                clear hB
                rw [show (ks ++ [f]).length = ks.length + 1 by simp] at hB7
                (refine wpAny_take (i := 7) (v := ?_) rfl (by kernel_rfl) (by kernel_rfl) (by kernel_rfl) (fun _ _ _ h => h) (Or.inl ⟨by rfl, ?_⟩) ?_; rotate_left; (focus ((intro w; go_simp); try (with_reducible rfl))); (try simp only [Act.put, List.setIfInBounds_toArray, List.set_cons_zero, List.set_cons_succ]))
                (refine wpAny_ready (rs := [8]) (by kernel_rfl) (by simp) ?_; refine AllReady.cons rfl (fun K hK => ?_) AllReady.nil; go_simp; refine hK _ _ ?_; clear hK K)
                refine wpAny_done (by kernel_rfl) ?_ _
                try simp only [List.getElem_toArray, List.getElem_cons_succ, List.getElem_cons_zero, Act.put, List.setIfInBounds_toArray, List.set_cons_zero, List.set_cons_succ]
                go_wp2_with fail
                go_roundw
                case rel =>
                  have h1 : sumN Fm.size (ks ++ [f]) = sumN Fm.size ks + f.size := size_snoc ks f
                  have h2 : sumN Fm.bulk (ks ++ [f]) = sumN Fm.bulk ks + f.bulk := bulk_snoc ks f
                  have h3 := hrd.1
                  have h4 := hrd.2.1
                  have h5 := hrd.2.2.1
                  have h6 := f.size_pos
                  exact ⟨j + 1, .slice na (ks.length + 1) nc, ks ++ [f], H4, s', L', by go_num, Lib.hid (by rw [List.length_append, hkl.out]; rfl), hB7, h3, by omega, by omega, by rw [h1]; omega, hkd.step (by have := hkl.out; omega) hrd, hs4⟩
                case measure => simp [intOf]; omega
          · go_upto_region 16 with (fail)
            go_cut [110] (fun v wx => v = .bool false ∧ wx = wr)
            case first =>
              by_cases g1 : (j : Int) < kk
              · have b1 : decide ((j : Int) < kk) = true := by simpa using g1
                have b2 : decide (0 ≤ Lj) = false := by simp; omega
                go_wp2_with fail
                go_meet
                case rel => exact ⟨rfl, rfl⟩
              · have b1 : decide ((j : Int) < kk) = false := by simpa using g1
                go_wp2_with fail
                go_meet
                case rel => exact ⟨rfl, rfl⟩
            case rest =>
            obtain ⟨rfl, rfl⟩ := hcut
            have hdn := hkd.done (by have := hkl.out; omega)
            clear cb0 lb hkd hkl hgo
            obtain ⟨w0, hw0, hMm⟩ := hB.mem
            obtain ⟨uc, -⟩ := (hMm.box 1 rfl).facts
            have u0 : _ = some (Value.int .i64 op) := uc 0
            have u1 : _ = some (Value.int .i64 n) := uc 1
            have u2 : _ = some ((.slice iA out.length iC) : Value) := uc 2
            have u3 : _ = some ((.slice ka ks.length kc) : Value) := uc 3
            have ul := (hMm.box 1 rfl).lt
            have rz0 : _ = some (Value.int .i64 0) := (hMm.box 0 rfl).facts.1 0
            have rz1 : _ = some (Value.int .i64 0) := (hMm.box 0 rfl).facts.1 1
            have rz2 : _ = some (Value.slice none 0 0) := (hMm.box 0 rfl).facts.1 2
            have rz3 : _ = some (Value.slice none 0 0) := (hMm.box 0 rfl).facts.1 3
            obtain ⟨-, rzf⟩ := (hMm.box 0 rfl).facts
            have rzl := (hMm.box 0 rfl).lt
            have hB8 := hB.own (fun w0 m => m.set4 0 rfl (.int .i64 op) (.int .i64 n) (.slice iA out.length iC) (.slice ka ks.length kc))
            try simp only [List.set_cons_zero] at hB8
            clear hB uc hMm hw0
            go_wp2_with fail
            generalize World.setCell _ _ _ = w9 at *
            obtain ⟨w0', hw0', hMm'⟩ := hB8.mem
            obtain ⟨rq', -⟩ := (hMm'.box 0 rfl).facts
            have rq0 : _ = some (Value.int .i64 op) := rq' 0
            have rq1 : _ = some (Value.int .i64 n) := rq' 1
            have rq2 : _ = some ((.slice iA out.length iC) : Value) := rq' 2
            have rq3 : _ = some ((.slice ka ks.length kc) : Value) := rq' 3
            obtain ⟨H5, k5, hM5, hI5⟩ := hMm'.freezeS 2 rfl
            obtain ⟨H6, k6, hM6, hK6⟩ := hM5.freezeS 3 rfl
            have hub := hM6.ub
            rw [up_szN hw0'] at hub
            refine bodyPost_ret (v := .agg #[.int .i64 op, .int .i64 n, (.slice iA out.length iC), (.slice ka ks.length kc)]) (by simp [results, Tryz.results55, go_sem, rq0, rq1, rq2, rq3]) rfl ?_
            refine ⟨.mk op n out ks, _, _, _, _, _, _, rfl, mono_FmR _ _ _ _ hub (FmR.of (f := .mk op n out ks) i1 i2 (hI5.mono mono_ItvR k6) hK6), ?_, hB8.rd, hB8.left, hB8.ex, ?_⟩
            · refine ⟨hLj, ?_, ?_, hdn⟩
              · rw [Fm.size_eq]; simp only [Fm.kids]; omega
              · rw [Fm.size_eq, Fm.bulk_eq]; simp only [Fm.kids, Fm.inn]; omega
            · exact hsj
end Go.Proofs.YtnpnjcaomakehaaGreat
namespace Go.Proofs.YtnpnjcaomakehaaGreat
open Go.RowKit
set_option maxHeartbeats 400000 in
theorem equalB_c (va vb : Value) (l m : List UInt8) (w : World) (ha : BytesR (ph w) va l) (hb : BytesR (ph w) vb m) :
    Calls Tryz.prog 38 #[va, vb] w (RetV w (.bool (B (l = m)))) := by
  obtain ⟨a, c, rfl, hlen, ha⟩ := ha.form
  obtain ⟨a', c', rfl, hlen', hb⟩ := hb.form
  by_cases hl : l.length = m.length
  · have HL := Lib.hid hl
    have hlb : ((l.length : Int) != (m.length : Int)) = false := by simp [hl]
    clear hl
    go_enter Tryz.func38, Tryz.ntmps38
    go_wp2_with fail
    go_loopw [13] (fun i wr => ∃ k : Nat, k ≤ l.length ∧ i = .int .i64 k ∧ Hid (l.take k = m.take k) ∧ Ext w wr) (fun i _ => l.length - (intOf i).toNat)
    case atStart => exact ⟨0, Nat.zero_le _, rfl, Lib.hid (by simp), xE⟩
    case round =>
      obtain ⟨k, hk, rfl, ht, hx⟩ := hrel
      by_cases hlt : k < l.length
      · have hlm : k < m.length := by have := HL.out; omega
        obtain ⟨b, o, rfl, h0, hbl⟩ := BytesR.at (ha.mono mono_ByteR hx.ple) k hlt
        obtain ⟨b', o', rfl, h0', hbl'⟩ := BytesR.at (hb.mono mono_ByteR hx.ple) k hlm
        generalize hx1 : l[k] = x at *
        generalize hx2 : m[k] = y at *
        replace hx1 := Lib.hid hx1
        replace hx2 := Lib.hid hx2
        clear ha hb
        go_wp2_with fail
        have hxw : Ext w wr := hx
        (refine wp_region_I 9 (by kernel_rfl) (by kernel_rfl) ?_; simp only [List.toList_toArray, List.take_succ_cons, List.take_zero, List.drop_succ_cons, List.drop_zero])
        iterate 9 (refine wiA rfl (by simp) rfl ?_; (try simp only [List.nil_append, List.cons_append]))
        (refine walkI_nil ?_; simp only [List.nil_append, List.cons_append, fins, Is, forall_eq, Act.put, List.setIfInBounds_toArray, List.set_cons_zero, List.set_cons_succ])
        intro w2 hw2
        by_cases hxy : x = y
        · subst hxy
          go_wp2_with fail
          all_goals first
            | (exfalso; simp_all; done)
            | (go_roundw
               case rel => exact ⟨k + 1, by omega, by go_num, Lib.hid (by rw [take_snoc l k hlt, take_snoc m k hlm, ht.out, hx1.out, hx2.out]), xE⟩
               case measure => simp [intOf]; omega)
        · have hn : ((x.toNat : Int) != (y.toNat : Int)) = true := by
            rw [bne_iff_ne]; intro h; apply hxy; exact UInt8.toNat_inj.1 (by omega)
          replace hxy := Lib.hid hxy
          go_wp2_with fail
          all_goals first
            | (exfalso; simp_all; done)
            | (go_ret
               refine ⟨ret_f (fun h => ?_), xE⟩
               subst h
               exact hxy.out (hx1.out.symm.trans hx2.out))
      · have hkl : k = l.length := by omega
        clear ha hb
        go_wp2_with fail
        go_ret
        refine ⟨ret_t ?_, xE⟩
        have h1 := ht.out
        rw [List.take_of_length_le (by omega), List.take_of_length_le (by have := HL.out; omega)] at h1
        exact h1
  · have HL : Hid (¬ l = m) := fun h => hl (by rw [h])
    have hlb : ((l.length : Int) != (m.length : Int)) = true := by rw [bne_iff_ne]; omega
    clear hl
    go_enter Tryz.func38, Tryz.ntmps38
    go_wp2_with fail
    go_ret
    exact ⟨ret_f HL.out, xE⟩
end Go.Proofs.YtnpnjcaomakehaaGreat
namespace Go.Proofs.YtnpnjcaomakehaaGreat
open Go.RowKit Go.Shelf
def DecQ (w : World) (r : Fm × Int) (e : Ending) (w' : World) : Prop := ∃ b3 d3 b4 d4, e = .returned (.tuple #[fmV r.1 b3 d3 b4 d4, .int .i64 r.2]) ∧ Ext w w' ∧ FmR (up noH w w') (fmC r.1 b3 d3 b4 d4) r.1
set_option maxRecDepth 100000 in
set_option maxHeartbeats 8000000 in
theorem fdecode_c (vs : Value) (xs : List UInt8) (w : World) (hs : BytesR (ph w) vs xs) (hlen : xs.length ≤ 1000000000) : Calls Tryz.prog 22 #[vs] w (DecQ w (decF xs)) := by
  obtain ⟨va, vc, rfl, -, hs⟩ := hs.form
  go_enter Tryz.func22, Tryz.ntmps22
  go_wp2_with fail
  refine (rread_c _ xs _ (hs.mono mono_ByteR (Ext.ple xE)) (by omega)).mono ?_
  rintro e w1 ⟨HR, g, rfl, hg, hR, hx1⟩
  have hO := (Proofs.YtnpnjcaomakehaaGreat.Own.new w #[.int .i64 0, .int .i64 0, .slice none 0 0, .slice none 0 0] 50).keep hx1
  have hx : Ext w w1 := xE
  simp at hg
  have e2 := Ext.new w1 (.cells #[.int .i64 96] 3)
  have oL := Proofs.YtnpnjcaomakehaaGreat.Own.new w1 #[.int .i64 96] 3
  have hRb := hR.bound
  have hgl := hR.lt
  have hHb : HR w1.heap.size = none := by
    cases h : HR w1.heap.size with
    | none => rfl
    | some o => have := hRb _ _ h; omega
  have hR2 := hR.keep e2
  have hO2 := hO.keep e2
  have hx2 := hx.then e2
  have hrd := fread_c (HR := HR) 97 96 g w1.heap.size (some xs) (w1.alloc (.cells #[.int .i64 96] 3)) (by omega) (by omega) (by omega) hR2 oL (by omega) hHb (fun l hl => by cases hl; omega)
  have hw1 := hx.size
  have hO1l := hO.lt
  clear hx1 hR hRb hO e2 hR2 oL
  go_upto_region 3 with (fail)
  generalize hb : w1.heap.size = b at *
  generalize w1.alloc _ = w2 at *
  go_wp2_with fail
  refine hrd.mono ?_
  rintro e w3 ⟨f, a3, c3, a4, c4, s', L', rfl, hF, hrf, hR3, hL3, hx3, hsm⟩
  have hxw : Ext w w3 := hx3.toExt hx2 (by omega) (by omega)
  have hO3 : Own w3 w.heap.size #[.int .i64 0, .int .i64 0, .slice none 0 0, .slice none 0 0] 50 := by
    have hl := hO2.lt
    unfold Own at *
    rw [hx3.block _ hl (by omega) (by omega)]; exact hO2
  have hge : Hid (∀ k o, up noH w2 w3 k = some o → w.heap.size < k) := by
    have hl := hO2.lt
    intro k o hk
    unfold up at hk
    split at hk
    · cases hk
    · omega
  have hU : PLe (up noH w2 w3) (up noH w w3) := by
    intro k o hk
    have h1 := hge.out k o hk
    unfold up at hk ⊢
    split at hk
    · cases hk
    · rw [if_neg (by omega)]; exact hk
  have hUp : PLe (up noH w2 w3) (ph w3) := by
    intro k o hk
    unfold up at hk
    split at hk
    · cases hk
    · exact hk
  have hall : ∀ f0, validF f0 = 0 → FmI f0 → bytesF f0 = xs → f = f0 ∧ s' = some [] ∧ L' = 96 - (f0.size : Int) := fun f0 h1 h2 h3 =>
    hrf.2.2.2 f0 [] ⟨h2, valid_sets h1, by have := (validF_0 h1).1; omega, by rw [h3, List.append_nil]⟩
  have hfb : f.bulk ≤ 900000 := by have h1 := hrf.1; have h2 := hrf.2.1; have h3 := hrf.2.2.1; omega
  have hFI := FmR.i _ _ hF
  generalize up noH w2 w3 = H3 at *
  have e6 := Ext.new w3 (.cells #[.int .i64 f.op, .int .i64 f.n, .slice a3 f.inn.length c3, .slice a4 f.kids.length c4] 50)
  have o6 := Proofs.YtnpnjcaomakehaaGreat.Own.new w3 #[.int .i64 f.op, .int .i64 f.n, .slice a3 f.inn.length c3, .slice a4 f.kids.length c4] 50
  replace hR3 := hR3.keep e6
  replace hL3 := hL3.keep e6
  replace hO3 := hO3.keep e6
  have hU4 := hU.trans (up_then hxw e6)
  replace hxw := hxw.then e6
  have hFp := mono_FmR _ _ _ _ (hUp.trans e6.ple) hF
  replace hall := Lib.hid hall
  have hs4 : BytesR (ph (w3.alloc (.cells #[.int .i64 f.op, .int .i64 f.n, .slice a3 f.inn.length c3, .slice a4 f.kids.length c4] 50))) (.slice va xs.length vc) xs := hs.mono mono_ByteR hxw.ple
  clear hU hUp hO2 hx2 hx3 e6 hrf hrd
  go_upto_region 4 with (fail)
  generalize w3.alloc _ = w4 at *
  generalize w3.heap.size = g6 at *
  obtain ⟨cL, -⟩ := hL3.facts
  have cL0 : _ = some (Value.int .i64 L') := cL 0
  have lL := hL3.lt
  clear cL
  by_cases hLn : L' < 0
  · have b1 : decide (L' < 0) = true := by simpa using hLn
    have hno : Hid (decF xs = (noF, 2)) := Lib.hid (decF_no fun f0 h1 h2 h3 => by
      obtain ⟨-, -, h4⟩ := hall.out f0 h1 h2 h3
      have := (validF_0 h1).1
      omega)
    go_upto_region 5 with (fail)
    obtain ⟨c0, f0⟩ := hO3.facts
    have hbl := hO3.lt
    have r0 : _ = some (Value.int .i64 0) := c0 0
    have r1 : _ = some (Value.int .i64 0) := c0 1
    have r2 : _ = some (Value.slice none 0 0) := c0 2
    have r3 : _ = some (Value.slice none 0 0) := c0 3
    go_wp2_with fail
    rw [hno.out]
    exact bodyPost_ret (v := .tuple #[.agg #[.int .i64 0, .int .i64 0, .slice none 0 0, .slice none 0 0], .int .i64 2]) (by simp [results, Tryz.results22, go_sem, r0, r1, r2, r3, f0, hbl]) rfl ⟨none, 0, none, 0, rfl, xE, noF_R _⟩
  have b1 : decide (L' < 0) = false := by simpa using hLn
  go_wp2_with fail
  refine (rend_c g s' _ hR3 hsm).mono ?_
  rintro e w5 ⟨n, rfl, hn, hx5⟩
  replace hO3 := hO3.keep hx5
  replace o6 := o6.keep hx5
  replace hU4 := hU4.trans (up_then hxw hx5)
  replace hxw := hxw.then hx5
  replace hFp := mono_FmR _ _ _ _ hx5.ple hFp
  replace hs4 := hs4.mono mono_ByteR hx5.ple
  clear hR3 hL3 cL0 lL b1 hx5
  by_cases hn0 : n = 0
  · have b2 : (n != 0) = false := by simp [hn0]
    obtain ⟨c6, -⟩ := o6.facts
    have y0 : _ = some (Value.int .i64 f.op) := c6 0
    have y1 : _ = some (Value.int .i64 f.n) := c6 1
    have y2 : _ = some (Value.slice a3 f.inn.length c3) := c6 2
    have y3 : _ = some (Value.slice a4 f.kids.length c4) := c6 3
    have yl := o6.lt
    have hen := fenc_c f _ w5 hFp hfb
    unfold fmC at hen
    clear hn hn0 c6
    go_wp2_with fail
    refine hen.mono ?_
    rintro e w6 ⟨v, rfl, hv, hx6⟩
    replace hO3 := hO3.keep hx6
    replace o6 := o6.keep hx6
    replace hU4 := hU4.trans (up_then hxw hx6)
    replace hxw := hxw.then hx6
    replace hs4 := hs4.mono mono_ByteR hx6.ple
    clear y0 y1 y2 y3 yl hx6 hen hFp
    have hvr := hv.rep mono_ByteR (noH_le _)
    obtain ⟨pa, pc, rfl, -, hvr⟩ := hvr.form
    clear hv
    by_cases hv0 : validF f = 0
    · have hE : encB f = bytesF f := by unfold encB; rw [if_pos hv0]
      rw [hE] at hvr ⊢
      rw [hv0]
      have heq := equalB_c _ _ (bytesF f) xs w6 hvr hs4
      clear hE
      by_cases he : bytesF f = xs
      · rw [B_t he] at heq
        have hde := Lib.hid (decF_ok hv0 hFI he)
        replace he := Lib.hid he
        replace hv0 := Lib.hid hv0
        go_wp2_with fail
        refine RetV_at heq ?_
        intro w7 hx7
        replace hO3 := hO3.keep hx7
        replace o6 := o6.keep hx7
        replace hU4 := hU4.trans (up_then hxw hx7)
        replace hxw := hxw.then hx7
        clear heq hx7 hvr hs4
        obtain ⟨c6, -⟩ := o6.facts
        have y0 : _ = some (Value.int .i64 f.op) := c6 0
        have y1 : _ = some (Value.int .i64 f.n) := c6 1
        have y2 : _ = some (Value.slice a3 f.inn.length c3) := c6 2
        have y3 : _ = some (Value.slice a4 f.kids.length c4) := c6 3
        have yl := o6.lt
        obtain ⟨c0, f0⟩ := hO3.facts
        have hbl := hO3.lt
        have r0 : _ = some (Value.int .i64 0) := c0 0
        have r1 : _ = some (Value.int .i64 0) := c0 1
        have r2 : _ = some (Value.slice none 0 0) := c0 2
        have r3 : _ = some (Value.slice none 0 0) := c0 3
        clear c6 o6
        go_wp2_with fail
        rw [hde.out]
        exact bodyPost_ret (v := .tuple #[.agg #[.int .i64 f.op, .int .i64 f.n, .slice a3 f.inn.length c3, .slice a4 f.kids.length c4], .int .i64 0]) (by simp [results, Tryz.results22, go_sem, r0, r1, r2, r3, f0, hbl]) rfl ⟨a3, c3, a4, c4, rfl, xE, mono_FmR _ _ _ _ (ple_set (ple_set (ple_set (ple_set hU4 hge.out) hge.out) hge.out) hge.out) hF⟩
      · rw [B_f he] at heq
        have hno : Hid (decF xs = (noF, 2)) := Lib.hid (decF_no fun f0 h1 h2 h3 => by
          obtain ⟨h4, -, -⟩ := hall.out f0 h1 h2 h3
          exact he (by rw [h4]; exact h3))
        replace he := Lib.hid he
        replace hv0 := Lib.hid hv0
        go_wp2_with fail
        refine RetV_at heq ?_
        intro w7 hx7
        replace hO3 := hO3.keep hx7
        replace hxw := hxw.then hx7
        clear heq hx7 hvr hs4 o6
        obtain ⟨c0, f0⟩ := hO3.facts
        have hbl := hO3.lt
        have r0 : _ = some (Value.int .i64 0) := c0 0
        have r1 : _ = some (Value.int .i64 0) := c0 1
        have r2 : _ = some (Value.slice none 0 0) := c0 2
        have r3 : _ = some (Value.slice none 0 0) := c0 3
        go_wp2_with fail
        rw [hno.out]
        exact bodyPost_ret (v := .tuple #[.agg #[.int .i64 0, .int .i64 0, .slice none 0 0, .slice none 0 0], .int .i64 2]) (by simp [results, Tryz.results22, go_sem, r0, r1, r2, r3, f0, hbl]) rfl ⟨none, 0, none, 0, rfl, xE, noF_R _⟩
    · have b3 : (validF f != 0) = true := by simpa using hv0
      have hno : Hid (decF xs = (noF, 2)) := Lib.hid (decF_no fun f0 h1 h2 h3 => by
        obtain ⟨h4, -, -⟩ := hall.out f0 h1 h2 h3
        exact hv0 (by rw [h4]; exact h1))
      replace hv0 := Lib.hid hv0
      clear hvr hs4 o6
      go_upto_region 8 with (fail)
      obtain ⟨c0, f0⟩ := hO3.facts
      have hbl := hO3.lt
      have r0 : _ = some (Value.int .i64 0) := c0 0
      have r1 : _ = some (Value.int .i64 0) := c0 1
      have r2 : _ = some (Value.slice none 0 0) := c0 2
      have r3 : _ = some (Value.slice none 0 0) := c0 3
      go_wp2_with fail
      rw [hno.out]
      exact bodyPost_ret (v := .tuple #[.agg #[.int .i64 0, .int .i64 0, .slice none 0 0, .slice none 0 0], .int .i64 2]) (by simp [results, Tryz.results22, go_sem, r0, r1, r2, r3, f0, hbl]) rfl ⟨none, 0, none, 0, rfl, xE, noF_R _⟩
  · have b2 : (n != 0) = true := by simpa using hn0
    have hno : Hid (decF xs = (noF, 2)) := Lib.hid (decF_no fun f0 h1 h2 h3 => by
      obtain ⟨-, h4, -⟩ := hall.out f0 h1 h2 h3
      exact hn0 (hn.2 h4))
    clear hn hn0
    go_upto_region 5 with (fail)
    obtain ⟨c0, f0⟩ := hO3.facts
    have hbl := hO3.lt
    have r0 : _ = some (Value.int .i64 0) := c0 0
    have r1 : _ = some (Value.int .i64 0) := c0 1
    have r2 : _ = some (Value.slice none 0 0) := c0 2
    have r3 : _ = some (Value.slice none 0 0) := c0 3
    go_wp2_with fail
    rw [hno.out]
    exact bodyPost_ret (v := .tuple #[.agg #[.int .i64 0, .int .i64 0, .slice none 0 0, .slice none 0 0], .int .i64 2]) (by simp [results, Tryz.results22, go_sem, r0, r1, r2, r3, f0, hbl]) rfl ⟨none, 0, none, 0, rfl, xE, noF_R _⟩
structure HypC (s : RS) (l : List Cl) : Prop where
  v : validC l = 0
  i : ∀ c ∈ l, ClI c
  st : s = some (bytesC l)
  small : (bytesC l).length < 18446744073709551616
def InC (s : RS) (m : Int) (out : List Cl) (si : RS) : Prop :=
  ∀ l, HypC s l → m = l.length ∧ out = l.take out.length ∧ out.length ≤ l.length ∧ si = some ((l.drop out.length).flatMap claimE)
theorem InC.start {s : RS} : InC s (intS s).1 [] (intS s).2 := by
  intro l h
  have hl := validC_len h.v
  have e : intS s = ((l.length : Int), some (l.flatMap claimE)) := by
    rw [h.st]
    exact intS_some.2 ⟨rfl, i64_len (by omega)⟩
  rw [e]
  exact ⟨rfl, by simp, Nat.zero_le _, by simp⟩
theorem flatE_le : ∀ {l : List Cl} {c : Cl}, c ∈ l → (claimE c).length ≤ (l.flatMap claimE).length
  | x :: l, c, h => by
    rw [List.flatMap_cons, List.length_append]
    rcases List.mem_cons.1 h with rfl | h
    · omega
    · have := flatE_le h; omega
theorem body_small {l : List Cl} {s : RS} (h : HypC s l) {c : Cl} (hc : c ∈ l) : (bytesF c.body).length < 18446744073709551616 := by
  have h1 := flatE_le hc
  have h2 := h.small
  unfold bytesC at h2
  rw [List.length_append] at h2
  have h3 : (bytesF c.body).length ≤ (claimE c).length := by
    unfold claimE rawE
    simp only [List.length_append]; omega
  omega
section
variable {s si : RS} {m : Int} {out : List Cl}
theorem InC.at (h : InC s m out si) (hm : (out.length : Int) < m) {l : List Cl} (hh : HypC s l) : ∃ hl : out.length < l.length, listS intS si = (l[out.length].refs, some (rawE (bytesF l[out.length].body) ++ (l.drop (out.length + 1)).flatMap claimE)) ∧
    listS byteS (listS intS si).2 = (bytesF l[out.length].body, some ((l.drop (out.length + 1)).flatMap claimE)) ∧ decF (bytesF l[out.length].body) = (l[out.length].body, 0) := by
  obtain ⟨h1, h2, h3, h4⟩ := h l hh
  have hl : out.length < l.length := by omega
  have hv := (validC_0 hh.v).2 _ hl
  have hi := hh.i _ (List.getElem_mem hl)
  have hb := body_small hh (List.getElem_mem hl)
  have e1 : listS intS si = (l[out.length].refs, some (rawE (bytesF l[out.length].body) ++ (l.drop (out.length + 1)).flatMap claimE)) := by
    rw [h4, List.drop_eq_getElem_cons hl, List.flatMap_cons]
    refine listI_some.2 ⟨?_, hi.1, by have := hv.1; omega⟩
    unfold claimE
    rw [List.append_assoc]
  refine ⟨hl, e1, ?_, decF_ok hv.2.2 hi.2 rfl⟩
  rw [e1]
  unfold rawE
  rw [List.append_assoc]
  exact listB_some _ _ hb
theorem InC.step (h : InC s m out si) (hm : (out.length : Int) < m) {bs : List UInt8} {f : Fm} (hb : (listS byteS (listS intS si).2).1 = bs) (hf : decF bs = (f, 0)) : InC s m (out ++ [⟨(listS intS si).1, f⟩]) (listS byteS (listS intS si).2).2 := by
  intro l hh
  obtain ⟨h1, h2, h3, h4⟩ := h l hh
  obtain ⟨hl, e1, e2, e3⟩ := h.at hm hh
  rw [e2] at hb
  rw [← hb, e3] at hf
  rw [e2, e1, List.length_append, List.length_singleton]
  cases hf
  refine ⟨h1, ?_, hl, rfl⟩
  rw [List.take_succ_eq_append_getElem hl, ← h2]
theorem InC.bad (h : InC s m out si) (hm : (out.length : Int) < m) {bs : List UInt8} (hb : (listS byteS (listS intS si).2).1 = bs) (hf : (decF bs).2 ≠ 0) : ∀ l, ¬ HypC s l := by
  intro l hh
  obtain ⟨hl, e1, e2, e3⟩ := h.at hm hh
  rw [e2] at hb
  rw [← hb, e3] at hf
  exact hf rfl
theorem InC.done (h : InC s m out si) (hd : ¬ ((out.length : Int) < m ∧ m ≤ 32)) : ∀ l, HypC s l → out = l ∧ si = some [] ∧ m = out.length := by
  intro l hh
  obtain ⟨h1, h2, h3, h4⟩ := h l hh
  have hl := validC_len hh.v
  have h5 : out.length = l.length := by omega
  rw [h5] at h2 h4
  rw [List.take_length] at h2
  rw [List.drop_length] at h4
  exact ⟨h2, h4, by omega⟩
end
end Go.Proofs.YtnpnjcaomakehaaGreat
namespace Go.Proofs.YtnpnjcaomakehaaGreat
open Go.RowKit
structure RS1 (HR : PH) (w : World) (g : Nat) (s : RS) (Lc : List Chunk) (H : PH) (W : World) : Prop where
  mem : MemX w.heap.size Lc H W
  rd : Rd HR W g s
  hg : g < w.heap.size
  hr : ∀ k o, HR k = some o → k < w.heap.size
  ex : ExtW w W g none
section
variable {HR : PH} {w W W' : World} {g : Nat} {s s' : RS} {Lc Lc' : List Chunk} {H H' : PH}
theorem RS1.start (hR : Rd HR w g s) : RS1 HR w g s [] noH w := ⟨MemX.start w, hR, hR.lt, hR.bound, ExtW.rfl' _ _ _⟩
theorem RS1.own1 (h : RS1 HR w g s Lc H W) {w0 : World} (hw0 : w0.heap.size = w.heap.size) (hM : Mem w0 noH Lc H W) (hM' : Mem w0 noH Lc' H' W') : RS1 HR w g s Lc' H' W' :=
  ⟨⟨w0, hw0, hM'⟩, Mem.rd hM hM' h.rd (by rw [hw0]; exact h.hr) (by rw [hw0]; exact h.hg), h.hg, h.hr, Mem.xw hM hM' h.ex hw0⟩
theorem RS1.own (h : RS1 HR w g s Lc H W) (f : ∀ w0, Mem w0 noH Lc H W → Mem w0 noH Lc' H' W') : RS1 HR w g s Lc' H' W' := by
  obtain ⟨w0, hw0, hM⟩ := h.mem
  exact h.own1 hw0 hM (f w0 hM)
theorem RS1.reader (h : RS1 HR w g s Lc H W) (hR : Rd HR W' g s') (e : ExtW W W' g none) : RS1 HR w g s' Lc H W' :=
  ⟨h.mem.reader e h.hg, hR, h.hg, h.hr, h.ex.then e (fun i hi => by cases hi)⟩
theorem RS1.int (h : RS1 HR w g s Lc H W) : Calls Tryz.prog 14 #[.pointer (some ⟨g, 0, none⟩)] W (fun e W' => e = .returned (.int .i64 (intS s).1) ∧ RS1 HR w g (intS s).2 Lc H W') :=
  (rint_c g s W h.rd).mono fun e W' ⟨e1, hR, hX⟩ => ⟨e1, h.reader hR hX⟩
theorem RS1.ints (h : RS1 HR w g s Lc H W) (hs : Small s) : Calls Tryz.prog 35 #[.pointer (some ⟨g, 0, none⟩)] W
    (fun e W' => ∃ v, e = .returned v ∧ RS1 HR w g (listS intS s).2 (Lc ++ [Proofs.YtnpnjcaomakehaaGreat.own mono_IntR 1 3 v (listS intS s).1]) H W') := by
  refine (rints_c g s W h.rd hs).mono ?_
  rintro e W' ⟨v, e1, hS, hR, hX⟩
  exact ⟨v, e1, h.mem.take hX h.hg hS mono_IntR, hR, h.hg, h.hr, h.ex.then hX (fun i hi => by cases hi)⟩
theorem RS1.raw (h : RS1 HR w g s Lc H W) (hs : Small s) : Calls Tryz.prog 36 #[.pointer (some ⟨g, 0, none⟩)] W
    (fun e W' => ∃ v, e = .returned v ∧ RS1 HR w g (listS byteS s).2 (Lc ++ [Proofs.YtnpnjcaomakehaaGreat.own mono_ByteR 1 5 v (listS byteS s).1]) H W') := by
  refine (rraw_c g s W h.rd hs).mono ?_
  rintro e W' ⟨v, e1, hS, hR, hX⟩
  exact ⟨v, e1, h.mem.take hX h.hg hS mono_ByteR, hR, h.hg, h.hr, h.ex.then hX (fun i hi => by cases hi)⟩
theorem RS1.call (h : RS1 HR w g s Lc H W) (e : Ext W W') (hl : PLe H' (up noH W W')) : ∃ H2, PLe H H2 ∧ PLe H' H2 ∧ RS1 HR w g s Lc H2 W' := by
  obtain ⟨H2, k1, k2, k3⟩ := h.mem.join (e.toW g none) h.hg hl
  exact ⟨H2, k1, k2, k3, h.rd.keep e, h.hg, h.hr, h.ex.then (e.toW g none) (fun i hi => by cases hi)⟩
theorem RS1.ub (h : RS1 HR w g s Lc H W) : PLe H (up noH w W) := by
  obtain ⟨w0, hw0, hM⟩ := h.mem
  have := hM.ub
  intro k o hk
  have h2 := this k o hk
  unfold up at *
  rwa [hw0] at h2
end
theorem loopB_inv : ∀ (n : Nat) (l r : List UInt8), (loopS byteS n (some l)).2 = some r → l = (loopS byteS n (some l)).1 ++ r
  | 0, l, r, h => by
    have h2 : some l = some r := h
    cases h2; rfl
  | n + 1, [], r, h => by
    have h2 : (loopS byteS n none).2 = some r := h
    rw [loopS_none] at h2; cases h2
  | n + 1, x :: l, r, h => by
    have h2 : (loopS byteS n (some l)).2 = some r := h
    have h3 := loopB_inv n l r h2
    show x :: l = x :: (loopS byteS n (some l)).1 ++ r
    rw [List.cons_append, ← h3]
def LenB (N : Nat) (s : RS) : Prop := ∀ l, s = some l → l.length ≤ N
theorem LenB.int {N : Nat} {s : RS} (h : LenB N s) : LenB N (intS s).2 := by
  intro r hr
  cases s with
  | none => cases hr
  | some b =>
    have h1 := (intS_some (n := (intS (some b)).1) (r := r)).1 (Prod.ext rfl hr)
    have h2 := h b rfl
    rw [h1.1] at h2
    simp at h2; omega
theorem LenB.ints {N : Nat} {s : RS} (h : LenB N s) : LenB N (listS intS s).2 := by
  intro r hr
  cases s with
  | none => rw [listI_none] at hr; cases hr
  | some b =>
    have h1 := (listI_some (xs := (listS intS (some b)).1) (r := r)).1 (Prod.ext rfl hr)
    have h2 := h b rfl
    rw [h1.1] at h2
    simp at h2; omega
theorem lenS_le {b r : List UInt8} {s : RS} (hs : s = some b) (h : (lenS s).2 = some r) : r.length ≤ b.length := by
  subst hs
  unfold lenS at h
  cases hu : uintS (some b) with
  | mk n t =>
    rw [hu] at h
    cases t with
    | none => cases h
    | some r0 =>
      have h3 := (uintS_some.1 hu).1
      simp only at h
      split at h
      · cases h
        rw [h3]; simp
      · cases h
theorem lenS_none {s : RS} (hs : s = none) : (lenS s).2 = none := by
  subst hs; rfl
theorem LenB.bytes {N : Nat} {s : RS} (h : LenB N s) : (listS byteS s).1.length ≤ N ∧ LenB N (listS byteS s).2 := by
  have key : ∀ r, (loopS byteS (lenS s).1 (lenS s).2).2 = some r → (loopS byteS (lenS s).1 (lenS s).2).1.length + r.length ≤ N := by
    intro r hr
    cases hl : (lenS s).2 with
    | none => rw [hl, loopS_none] at hr; cases hr
    | some l0 =>
      rw [hl] at hr
      have h1 := loopB_inv _ _ _ hr
      cases s with
      | none => rw [lenS_none rfl] at hl; cases hl
      | some b =>
        have h2 := lenS_le rfl hl
        have h3 := h b rfl
        have h4 := congrArg List.length h1
        rw [List.length_append] at h4
        omega
  constructor
  · unfold listS
    simp only
    split
    · rename_i hi
      obtain ⟨r, hr⟩ := Option.isSome_iff_exists.1 hi
      have := key r hr; omega
    · simp
  · intro r hr
    have := key r hr; omega
theorem LenB.small {N : Nat} {s : RS} (h : LenB N s) (hN : N ≤ 1000000000) : Small s := fun l hl => by have := h l hl; omega
end Go.Proofs.YtnpnjcaomakehaaGreat
namespace Go.Proofs.YtnpnjcaomakehaaGreat
open Go.RowKit Go.Shelf
def CDecQ (w : World) (r : List Cl × Int) (e : Ending) (w' : World) : Prop := ∃ v, e = .returned (.tuple #[v, .int .i64 r.2]) ∧ Ext w w' ∧ ClsR (up noH w w') v r.1
set_option maxRecDepth 100000 in
set_option maxHeartbeats 8000000 in
theorem cdecode_c (vs : Value) (xs : List UInt8) (w : World) (hs : BytesR (ph w) vs xs) (hlen : xs.length ≤ 1000000000) : Calls Tryz.prog 9 #[vs] w (CDecQ w (decC xs)) := by
  obtain ⟨va, vc, rfl, -, hs⟩ := hs.form
  go_enter Tryz.func9, Tryz.ntmps9
  go_wp2_with fail
  refine (rread_c _ xs _ hs (by omega)).mono ?_
  rintro e w1 ⟨HR, g, rfl, hg, hR, hx1⟩
  have hB := RS1.start hR
  have hyp : ∀ l, validC l = 0 → (∀ c ∈ l, ClI c) → bytesC l = xs → HypC (some xs) l := fun l h1 h2 h3 => ⟨h1, h2, by rw [h3], by rw [h3]; omega⟩
  replace hyp := Lib.hid hyp
  have hq0 := InC.start (s := some xs)
  have hl0 : LenB 1000000000 (some xs) := fun l hl => by cases hl; exact hlen
  have hl1 := hl0.int
  clear hR
  go_wp2_with fail
  refine hB.int.mono ?_
  rintro e w2 ⟨rfl, hB2⟩
  replace hB := hB2.own (fun w0 m => m.nil mono_ClR 5 58)
  simp only [List.nil_append] at hB
  have im := intS_i64 (some xs)
  clear hB2 hl0
  generalize (intS (some xs)).2 = s2 at *
  generalize (intS (some xs)).1 = m at *
  go_wp2_with fail
  go_loopw [6, 7] (fun vl vi wr => ∃ (i : Nat) (out : List Cl) (H : PH) (si : RS), vi = .int .i64 i ∧ Hid (out.length = i) ∧ i ≤ 32 ∧ RS1 HR w1 g si [Proofs.YtnpnjcaomakehaaGreat.own mono_ClR 5 58 vl out] H wr ∧ Hid (InC (some xs) m out si) ∧ LenB 1000000000 si ∧ Hid (∀ c ∈ out, validF c.body = 0 ∧ ClI c)) (fun _ vi _ => 33 - (intOf vi).toNat)
  case atStart => exact ⟨0, [], noH, s2, rfl, Lib.hid rfl, by omega, hB, Lib.hid hq0, hl1, Lib.hid (by simp)⟩
  case round =>
    clear hB hq0 hl1
    obtain ⟨i, out, H, si, rfl, hol, hi32, hB, hq, hls, hov⟩ := hrel
    obtain ⟨oA, oC, rfl, -⟩ : ∃ a c, u6 = .slice a out.length c ∧ True := by
      obtain ⟨w0, hw0, hMm⟩ := hB.mem
      obtain ⟨a, c, e, -⟩ := hMm.form 0 rfl
      exact ⟨a, c, e, trivial⟩
    by_cases hgo : (i : Int) < m ∧ m ≤ 32
    · obtain ⟨g1, g2⟩ := hgo
      have b1 : decide ((i : Int) < m) = true := by simpa using g1
      have b2 : decide (m ≤ 32) = true := by simpa using g2
      have hls2 := hls.ints
      have hls3 := hls2.bytes
      go_wp2_with fail
      refine (hB.ints (hls.small (by omega))).mono ?_
      rintro e w7 ⟨v, rfl, hB7⟩
      have hst := fun bs f hb hf => InC.step (bs := bs) (f := f) hq.out (by have := hol.out; omega) hb hf
      have hbad := fun bs hb hf => InC.bad (bs := bs) hq.out (by have := hol.out; omega) hb hf
      generalize (listS intS si).1 = refs at *
      generalize (listS intS si).2 = s7 at *
      obtain ⟨w0, hw0, hM0⟩ := hB7.mem
      obtain ⟨rA, rC, rfl, -⟩ := hM0.form 1 rfl
      obtain ⟨H7, k7, hM7, hI7⟩ := hM0.freezeS 1 rfl
      have hB8 := hB7.own1 hw0 hM0 hM7
      replace hB8 := hB8.own (fun w0 m => (m.pick [0] (by decide)).new #[.slice rA refs.length rC, .int .i64 0, .int .i64 0, .slice none 0 0, .slice none 0 0] 58)
      simp only [List.set_cons_succ, List.set_cons_zero, List.cons_append, List.nil_append, List.map_cons, List.map_nil, List.getElem?_cons_zero, List.getElem?_cons_succ, Option.getD_some] at hB8
      clear hB hB7 hM0 hM7 hw0
      go_upto_region 8 with (fail)
      generalize hg8 : w7.heap.size = g8 at *
      generalize w7.alloc _ = w8 at *
      go_wp2_with fail
      refine (hB8.raw (hls2.small (by omega))).mono ?_
      rintro e w9 ⟨v, rfl, hB9⟩
      clear hB8
      generalize hbs : (listS byteS s7).1 = bs at *
      generalize (listS byteS s7).2 = s9 at *
      obtain ⟨w0, hw0, hM0⟩ := hB9.mem
      obtain ⟨bA, bC, rfl, -⟩ := hM0.form 2 rfl
      have hbr := hM0.rep 2 rfl
      clear hM0 hw0
      go_wp2_with fail
      refine (fdecode_c _ bs _ hbr hls3.1).mono ?_
      rintro e w10 ⟨p3, q3, p4, q4, rfl, hx10, hF⟩
      obtain ⟨H10, k10, k11, hB10⟩ := hB9.call hx10 (PLe.refl _)
      have hF10 := mono_FmR _ _ _ _ k11 hF
      have hI10 := hI7.mono mono_IntR k10
      clear hB9 hF hx10 hI7 hbr k10 k11
      have hxw : ∀ W, ExtW w1 W g none → Ext w W := fun W h => h.toExt hx1 (by omega) (fun i hi => by cases hi)
      by_cases he : (decF bs).2 = 0
      · obtain ⟨f, hde, hv, hfi, hby⟩ := decF_of he
        have hq2 := Lib.hid (hst bs f rfl hde)
        rw [hde] at hF10 ⊢
        dsimp only at hF10 ⊢
        have n0 : ((0 : Int) != 0) = false := rfl
        have hB11 := hB10.own (fun w0 m => m.new #[.int .i64 f.op, .int .i64 f.n, .slice p3 f.inn.length q3, .slice p4 f.kids.length q4] 50)
        simp only [List.cons_append, List.nil_append] at hB11
        clear hB10 he hst hbad hbs hde hby
        go_upto_region 9 with (fail)
        generalize hg9 : w10.heap.size = g9 at *
        generalize w10.alloc _ = w11 at *
        obtain ⟨w0, hw0, hMm⟩ := hB11.mem
        obtain ⟨uc, -⟩ := (hMm.box 3 rfl).facts
        have u0 : _ = some (Value.int .i64 f.op) := uc 0
        have u1 : _ = some (Value.int .i64 f.n) := uc 1
        have u2 : _ = some (Value.slice p3 f.inn.length q3) := uc 2
        have u3 : _ = some (Value.slice p4 f.kids.length q4) := uc 3
        have ul := (hMm.box 3 rfl).lt
        obtain ⟨tc, tf⟩ := (hMm.box 1 rfl).facts
        have tl := (hMm.box 1 rfl).lt
        have t1 : _ = some (Value.int .i64 0) := tc 1
        have t2 : _ = some (Value.int .i64 0) := tc 2
        have t3 : _ = some (Value.slice none 0 0) := tc 3
        have t4 : _ = some (Value.slice none 0 0) := tc 4
        clear uc tc hMm hw0
        have hB12 := hB11.own (fun w0 m => m.set5 1 rfl (.int .i64 f.op) (.int .i64 f.n) (.slice p3 f.inn.length q3) (.slice p4 f.kids.length q4))
        try simp only [List.set_cons_succ, List.set_cons_zero] at hB12
        clear hB11
        go_upto_region 12 with (fail)
        generalize World.setCell _ _ _ = w12 at *
        clear u0 u1 u2 u3 ul t1 t2 t3 t4 tf tl
        obtain ⟨w0, hw0, hMm⟩ := hB12.mem
        obtain ⟨tc, -⟩ := (hMm.box 1 rfl).facts
        have t0 : _ = some (Value.slice rA refs.length rC) := tc 0
        have t1 : _ = some (Value.int .i64 f.op) := tc 1
        have t2 : _ = some (Value.int .i64 f.n) := tc 2
        have tl := (hMm.box 1 rfl).lt
        have t3 : _ = some (Value.slice p3 f.inn.length q3) := tc 3
        have t4 : _ = some (Value.slice p4 f.kids.length q4) := tc 4
        clear tc
        have hM13 := hMm.ext (Ext.new w12 (.cells #[.slice rA refs.length rC, .int .i64 f.op, .int .i64 f.n, .slice p3 f.inn.length q3, .slice p4 f.kids.length q4] 58))
        have hS := Src.lit1 (H := H10) (E := ClR) (sz := 5) (w := w12.alloc (.cells #[.slice rA refs.length rC, .int .i64 f.op, .int .i64 f.n, .slice p3 f.inn.length q3, .slice p4 f.kids.length q4] 58)) (b := w12.heap.size) (x := (⟨refs, f⟩ : Cl)) (cs := [.slice rA refs.length rC, .int .i64 f.op, .int .i64 f.n, .slice p3 f.inn.length q3, .slice p4 f.kids.length q4]) ⟨_, _, rfl, hI10, hF10⟩ rfl (fun j => by rw [(Proofs.YtnpnjcaomakehaaGreat.Own.new w12 #[.slice rA refs.length rC, .int .i64 f.op, .int .i64 f.n, .slice p3 f.inn.length q3, .slice p4 f.kids.length q4] 58).facts.1 j]; simp)
        go_wp2_with (first | (at_builtin; refine wpList_append_M 0 rfl _ _ 24 rfl Tryz.underlying24 infoCl rfl rfl rfl hM13 rfl hS one_ClR (by have h9 := hol.out; simp; omega) (by have h9 := hol.out; simp; omega) ?c5))
        case c5 =>
        intro v' w13 hM14
        replace hB12 := hB12.own1 hw0 hMm hM14
        replace hB12 := hB12.own (fun w0 m => m.pick [0] (by decide))
        simp only [List.set_cons_succ, List.set_cons_zero, List.map_cons, List.map_nil, List.getElem?_cons_zero, List.getElem?_cons_succ, Option.getD_some] at hB12
        clear hM13 hM14 hMm hS hw0 t0 t1 t2 t3 t4 tl
        have hcl : ∀ c ∈ out ++ [(⟨refs, f⟩ : Cl)], validF c.body = 0 ∧ ClI c := by
          intro c hc
          rcases List.mem_append.1 hc with hc | hc
          · exact hov.out c hc
          · rw [List.mem_singleton.1 hc]; exact ⟨hv, IntsR.all hI10, hfi⟩
        go_wp2_with fail
        go_roundw
        case rel => exact ⟨i + 1, out ++ [⟨refs, f⟩], H10, s9, by go_num, Lib.hid (by rw [List.length_append, hol.out]; rfl), by omega, hB12, hq2, hls3.2, Lib.hid hcl⟩
        case measure => simp [intOf]; omega
      · have hno : Hid (decC xs = ([], 2)) := Lib.hid (decC_no fun l h1 h2 h3 => hbad bs rfl he l (hyp.out l h1 h2 h3))
        have n0 : ((decF bs).2 != 0) = true := by simpa using he
        have hx10' := hxw _ hB10.ex
        clear hB10 hst hbad hxw
        go_upto_region 10 with (fail)
        go_wp2_with fail
        rw [hno.out]
        exact bodyPost_ret (v := .tuple #[.slice none 0 0, .int .i64 2]) (by simp [results, Tryz.results9, go_sem]) rfl ⟨_, rfl, xE, SliceRep.nil _ _ _⟩
    · have hdn := InC.done hq.out (by have := hol.out; omega)
      have hxw : ∀ W, ExtW w1 W g none → Ext w W := fun W h => h.toExt hx1 (by omega) (fun i hi => by cases hi)
      go_upto_region 5 with (fail)
      go_cut [23] (fun v wx => v = .bool false ∧ wx = wr)
      case first =>
        by_cases g1 : (i : Int) < m
        · have b1 : decide ((i : Int) < m) = true := by simpa using g1
          have b2 : decide (m ≤ 32) = false := by simp; omega
          go_wp2_with fail
          go_meet
          case rel => exact ⟨rfl, rfl⟩
        · have b1 : decide ((i : Int) < m) = false := by simpa using g1
          go_wp2_with fail
          go_meet
          case rel => exact ⟨rfl, rfl⟩
      case rest =>
      obtain ⟨rfl, rfl⟩ := hcut
      have hx := hxw _ hB.ex
      go_wp2_with fail
      refine (rend_c g si _ hB.rd (hls.small (by omega))).mono ?_
      rintro e w5 ⟨n, rfl, hn, hx5⟩
      obtain ⟨w0, hw0, hMm⟩ := hB.mem
      obtain ⟨H5, k5, hM5, hC5⟩ := hMm.freezeS 0 rfl
      have hub := (hB.own1 hw0 hMm hM5).ub.trans (up_sub (noH_le _) hx1)
      have hC6 := hC5.mono mono_ClR (hM5.ple.trans hx5.ple)
      replace hub := hub.trans (up_then hx hx5)
      replace hx := hx.then hx5
      have hs6 := hs.mono mono_ByteR hx.ple
      clear hB hM5 hMm hw0 hx5 hs k5 hxw
      by_cases hn0 : n = 0
      · have b2 : (n != 0) = false := by simp [hn0]
        by_cases hm : (out.length : Int) = m
        · have b3 : ((out.length : Int) != m) = false := by simp [hm]
          have hen := cencode_c _ out w5 hC6 (fun c hc => by have := valid_bulk (hov.out c hc).1; omega)
          replace hm := Lib.hid hm
          clear hn hn0
          go_wp2_with fail
          refine hen.mono ?_
          rintro e w6 ⟨v, rfl, hv, hx6⟩
          replace hub := hub.trans (up_then hx hx6)
          replace hx := hx.then hx6
          replace hs6 := hs6.mono mono_ByteR hx6.ple
          have hvr := hv.rep mono_ByteR (noH_le _)
          obtain ⟨pa, pc, rfl, -, hvr⟩ := hvr.form
          clear hv hen hx6
          by_cases hv0 : validC out = 0
          · have hE : encC out = bytesC out := by unfold encC; rw [if_pos hv0]
            rw [hE] at hvr ⊢
            rw [hv0]
            have heq := equalB_c _ _ (bytesC out) xs w6 hvr hs6
            clear hE
            by_cases he : bytesC out = xs
            · rw [B_t he] at heq
              have hde := Lib.hid (decC_ok hv0 (fun c hc => (hov.out c hc).2) he)
              replace he := Lib.hid he
              replace hv0 := Lib.hid hv0
              go_wp2_with fail
              refine RetV_at heq ?_
              intro w7 hx7
              replace hub := hub.trans (up_then hx hx7)
              replace hx := hx.then hx7
              clear heq hx7 hvr hs6
              go_wp2_with fail
              rw [hde.out]
              exact bodyPost_ret (v := .tuple #[.slice oA out.length oC, .int .i64 0]) (by simp [results, Tryz.results9, go_sem]) rfl ⟨_, rfl, hx, hC5.mono mono_ClR hub⟩
            · rw [B_f he] at heq
              have hno : Hid (decC xs = ([], 2)) := Lib.hid (decC_no fun l h1 h2 h3 => by
                obtain ⟨h4, -⟩ := hdn l (hyp.out l h1 h2 h3)
                exact he (by rw [h4]; exact h3))
              replace he := Lib.hid he
              replace hv0 := Lib.hid hv0
              go_wp2_with fail
              refine RetV_at heq ?_
              intro w7 hx7
              replace hx := hx.then hx7
              clear heq hx7 hvr hs6
              go_wp2_with fail
              rw [hno.out]
              exact bodyPost_ret (v := .tuple #[.slice none 0 0, .int .i64 2]) (by simp [results, Tryz.results9, go_sem]) rfl ⟨_, rfl, xE, SliceRep.nil _ _ _⟩
          · have b4 : (validC out != 0) = true := by simpa using hv0
            have hno : Hid (decC xs = ([], 2)) := Lib.hid (decC_no fun l h1 h2 h3 => by
              obtain ⟨h4, -⟩ := hdn l (hyp.out l h1 h2 h3)
              exact hv0 (by rw [h4]; exact h1))
            replace hv0 := Lib.hid hv0
            clear hvr hs6
            go_upto_region 17 with (fail)
            go_wp2_with fail
            rw [hno.out]
            exact bodyPost_ret (v := .tuple #[.slice none 0 0, .int .i64 2]) (by simp [results, Tryz.results9, go_sem]) rfl ⟨_, rfl, xE, SliceRep.nil _ _ _⟩
        · have b3 : ((out.length : Int) != m) = true := by simpa using hm
          have hno : Hid (decC xs = ([], 2)) := Lib.hid (decC_no fun l h1 h2 h3 => by
            obtain ⟨-, -, h4⟩ := hdn l (hyp.out l h1 h2 h3)
            exact hm h4.symm)
          replace hm := Lib.hid hm
          clear hn hn0
          go_upto_region 14 with (fail)
          go_wp2_with fail
          rw [hno.out]
          exact bodyPost_ret (v := .tuple #[.slice none 0 0, .int .i64 2]) (by simp [results, Tryz.results9, go_sem]) rfl ⟨_, rfl, xE, SliceRep.nil _ _ _⟩
      · have b2 : (n != 0) = true := by simpa using hn0
        have hno : Hid (decC xs = ([], 2)) := Lib.hid (decC_no fun l h1 h2 h3 => by
          obtain ⟨-, h4, -⟩ := hdn l (hyp.out l h1 h2 h3)
          exact hn0 (hn.2 h4))
        clear hn hn0
        go_upto_region 14 with (fail)
        go_wp2_with fail
        rw [hno.out]
        exact bodyPost_ret (v := .tuple #[.slice none 0 0, .int .i64 2]) (by simp [results, Tryz.results9, go_sem]) rfl ⟨_, rfl, xE, SliceRep.nil _ _ _⟩
end Go.Proofs.YtnpnjcaomakehaaGreat
