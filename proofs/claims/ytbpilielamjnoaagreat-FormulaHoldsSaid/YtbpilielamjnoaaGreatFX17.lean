/- Lemmas for FX, part 18: priorartref06.Spoilt: it returns some thing, of bounded bulk, and more. -/
import Derived.Test.YtbpilielamjnoaaGreatFX10
import Derived.Test.YtbpilielamjnoaaGreatFX15
import Derived.Test.YtbpilielamjnoaaGreatFX16
set_option linter.unusedSimpArgs false
set_option linter.unusedVariables false
namespace Go.Proofs.YtbpilielamjnoaaGreat
open Go.RowKit
def SpoiltP (H : PH) (w : World) (b : Nat) (e : Ending) (w' : World) : Prop := ∃ (cs : List Value) (t : Thing), e = .returned (.agg cs.toArray) ∧ ThingR (up H w w') cs t ∧ t.bulk ≤ b ∧ Ext w w'
abbrev ownI (v : Value) (xs : List Int) : Chunk := own mono_IntR 1 3 v xs
abbrev ownV (v : Value) (xs : List Val) : Chunk := own mono_ValR 3 83 v xs
abbrev ownT (v : Value) (xs : List Thing) : Chunk := own mono_ThingR 3 41 v xs
abbrev boxT (b : Nat) (v1 v2 v3 : Value) : Chunk := box b #[v1, v2, v3] 41
theorem i64_tdiv {n k : Int} (hk : 0 < k) (h : I64 n) : I64 (n.tdiv k) := by
  unfold I64 at *
  have h1 := Int.natAbs_tdiv_le_natAbs n k
  by_cases h0 : 0 ≤ n
  · have := Int.tdiv_nonneg h0 (Int.le_of_lt hk); omega
  · have h2 : n.tdiv k ≤ 0 := by
      have := Int.tdiv_nonneg (a := -n) (b := k) (by omega) (by omega)
      rw [Int.neg_tdiv] at this; omega
    omega
theorem wrap_tdiv {n k : Int} (hk : 0 < k) (h : I64 n) : IntKind.i64.wrap (n.tdiv k) = n.tdiv k := by
  have := i64_tdiv hk h
  unfold I64 at this
  rw [IntKind.wrap_i64]; omega
theorem sumT_snoc {α : Type} (f : α → Nat) (l : List α) (x : α) : sumN f (l ++ [x]) = sumN f l + f x := by
  induction l with
  | nil => simp [sumN]
  | cons y l ih => simp only [List.cons_append, sumN, ih]; omega
theorem sumN_set {α : Type} (f : α → Nat) : ∀ (l : List α) (k : Nat) (x : α) (h : k < l.length), sumN f (l.set k x) + f l[k] = sumN f l + f x
  | y :: l, 0, x, _ => by simp [sumN]; omega
  | y :: l, k + 1, x, h => by
    have := sumN_set f l k x (by simpa using h)
    simp only [List.set_cons_succ, sumN, List.getElem_cons_succ] at *; omega
theorem Mem.getT {w0 w : World} {H0 H : PH} {L : List Chunk} {v : Value} {xs : List Thing} (h : Mem w0 H0 L H w) (i : Nat) (hi : L[i]? = some (ownT v xs)) (k : Nat) (hk : k < xs.length) :
    ∃ g cap a1 c1 a2 c2 a3 c3, v = .slice (some ⟨g, 0, none⟩) xs.length cap ∧ w.cell? ⟨g, k * 3, none⟩ = some (.slice a1 xs[k].cls.length c1) ∧ w.cell? ⟨g, k * 3 + 1, none⟩ = some (.slice a2 xs[k].vals.length c2) ∧
      w.cell? ⟨g, k * 3 + 2, none⟩ = some (.slice a3 xs[k].parts.length c3) ∧ ThingR H [.slice a1 xs[k].cls.length c1, .slice a2 xs[k].vals.length c2, .slice a3 xs[k].parts.length c3] xs[k] ∧ g < w.heap.size := by
  obtain ⟨g, cap, cs, h1, h2, h3, h4, h5⟩ := h.get i hi k hk
  obtain ⟨a1, c1, a2, c2, a3, c3, rfl, -⟩ := h4.form
  exact ⟨g, cap, a1, c1, a2, c2, a3, c3, h1, h3 0 (by omega), h3 1 (by omega), h3 2 (by omega), h4, h5⟩
theorem take_set3 {n k : Nat} {c : List Value} {u v t : Value} : (((c.set k u).set (k + 1) v).set (k + 2) t).take n = (((c.take n).set k u).set (k + 1) v).set (k + 2) t := by
  rw [List.take_set, List.take_set, List.take_set]
theorem Mem.thing {w0 w : World} {H0 H : PH} {L : List Chunk} (h : Mem w0 H0 L H w) (i1 i2 i3 : Nat) {v1 v2 v3 : Value} {c : List Int} {v : List Val} {p : List Thing} (g1 : L[i1]? = some (ownI v1 c)) (g2 : L[i2]? = some (ownV v2 v)) (g3 : L[i3]? = some (ownT v3 p)) : ThingR (Proofs.YtbpilielamjnoaaGreat.up H0 w0 w) [v1, v2, v3] (.mk c v p) := by
  rw [thingR_iff]
  exact ⟨v1, v2, v3, rfl, h.repUp i1 g1, h.repUp i2 g2, h.repUp i3 g3⟩
theorem Mem.spoiltP {w0 w : World} {H0 H : PH} {L : List Chunk} {b : Nat} (h : Mem w0 H0 L H w) (i1 i2 i3 : Nat) {v1 v2 v3 : Value} {c : List Int} {v : List Val} {p : List Thing} (g1 : L[i1]? = some (ownI v1 c)) (g2 : L[i2]? = some (ownV v2 v)) (g3 : L[i3]? = some (ownT v3 p)) (hb : 1 + c.length + v.length + sumN Thing.bulk p ≤ b) :
    SpoiltP H0 w0 b (.returned (.agg #[v1, v2, v3])) w :=
  ⟨[v1, v2, v3], .mk c v p, rfl, h.thing i1 i2 i3 g1 g2 g3, by rw [Thing.bulk_eq]; exact hb, h.ex⟩
def ArrAt (arr : Array Value) (n : Nat) : Prop1 := fun v w => ∃ g, v = .slice (some ⟨g, 0, none⟩) n n ∧ Own w g arr 3
def PtrAt (arr : Array Value) (q : Nat) : Prop1 := fun v w => ∃ g, v = .pointer (some ⟨g, q, none⟩) ∧ Own w g arr 3
def OneInt : Prop1 := fun v w => ∃ g n, v = .slice (some ⟨g, 0, none⟩) 1 1 ∧ Own w g #[.int .i64 n] 3 ∧ I64 n
theorem stab_ArrAt {W : World} (arr : Array Value) (n : Nat) : Stable W (ArrAt arr n) := fun v w w' _ ⟨g, h1, h2⟩ e => ⟨g, h1, h2.keep e⟩
theorem stab_PtrAt {W : World} (arr : Array Value) (n : Nat) : Stable W (PtrAt arr n) := fun v w w' _ ⟨g, h1, h2⟩ e => ⟨g, h1, h2.keep e⟩
theorem stab_OneInt {W : World} : Stable W OneInt := fun v w w' _ ⟨g, n, h1, h2, h3⟩ e => ⟨g, n, h1, h2.keep e, h3⟩
def OneVal : Prop1 := fun v w => ∃ (g : Nat) (x : Val), v = .slice (some ⟨g, 0, none⟩) 1 1 ∧ Own w g #[.int .i64 x.attr, .int .i64 x.n.num, .int .i64 x.n.den] 83 ∧ I64 x.attr ∧ I64 x.n.num ∧ I64 x.n.den
theorem stab_OneVal {W : World} : Stable W OneVal := fun v w w' _ ⟨g, n, h1, h2, h3⟩ e => ⟨g, n, h1, h2.keep e, h3⟩
theorem five_ints {a b c d e : Int} (ha : I64 a) (hb : I64 b) (hc : I64 c) (hd : I64 d) (he : I64 e) (q : Nat) (hq : q < 5) : ∃ n, (#[.int .i64 a, .int .i64 b, .int .i64 c, .int .i64 d, .int .i64 e] : Array Value)[q]? = some (.int .i64 n) ∧ I64 n := by
  match q, hq with
  | 0, _ => exact ⟨_, rfl, ha⟩
  | 1, _ => exact ⟨_, rfl, hb⟩
  | 2, _ => exact ⟨_, rfl, hc⟩
  | 3, _ => exact ⟨_, rfl, hd⟩
  | 4, _ => exact ⟨_, rfl, he⟩
theorem four_ints {a b c d : Int} (ha : I64 a) (hb : I64 b) (hc : I64 c) (hd : I64 d) (q : Nat) (hq : q < 4) : ∃ n, (#[.int .i64 a, .int .i64 b, .int .i64 c, .int .i64 d] : Array Value)[q]? = some (.int .i64 n) ∧ I64 n := by
  match q, hq with
  | 0, _ => exact ⟨_, rfl, ha⟩
  | 1, _ => exact ⟨_, rfl, hb⟩
  | 2, _ => exact ⟨_, rfl, hc⟩
  | 3, _ => exact ⟨_, rfl, hd⟩
set_option maxRecDepth 100000 in
set_option maxHeartbeats 2000000 in
theorem spoilt_c (t : Thing) : ∀ (H : PH) (cs : List Value) (at_ how by_ : Int) (w : World), PLe H (ph w) → ThingR H cs t → I64 at_ → I64 how → I64 by_ → t.bulk ≤ 1000000 →
    Calls Tryz.prog 21 #[.agg cs.toArray, .int .i64 at_, .int .i64 how, .int .i64 by_] w (SpoiltP H w (2 * t.bulk + 200)) := by
  induction t using Thing.ind with
  | h t ih =>
    intro H cs at_ how by_ w hP hr hat hhow hby hbk
    obtain ⟨a1, c1, a2, c2, a3, c3, rfl, l1, l2, l3, hc, hv, hp⟩ := hr.form
    have HI := Lib.hid ih; clear ih
    have hbk' := Lib.hid (Thing.bulk_eq t)
    have hb1 : t.cls.length ≤ 1000000 := by have := hbk'.out; omega
    have hb2 : t.vals.length ≤ 1000000 := by have := hbk'.out; omega
    have hb3 : t.parts.length ≤ 1000000 := by have := t.parts_le; omega
    have hS : Mem w H [boxT w.heap.size (.slice a1 t.cls.length c1) (.slice a2 t.vals.length c2) (.slice a3 t.parts.length c3), boxT (w.heap.size + 1) (.slice none 0 0) (.slice none 0 0) (.slice none 0 0), boxT (w.heap.size + 1 + 1) (.slice none 0 0) (.slice none 0 0) (.slice none 0 0), ownI (.slice none 0 0) [], ownV (.slice none 0 0) [], ownT (.slice none 0 0) []] H _ :=
      ((((((Mem.start w H hP).new #[.slice a1 t.cls.length c1, .slice a2 t.vals.length c2, .slice a3 t.parts.length c3] 41).new' zeroT 41 (n := w.heap.size + 1) (by simp)).new' zeroT 41 (n := w.heap.size + 1 + 1) (by simp)).nil mono_IntR 1 3).nil mono_ValR 3 83).nil mono_ThingR 3 41
    go_enter Tryz.func21, Tryz.ntmps21
    go_wp2_with (at_builtin; refine wpList_append_M 3 rfl _ _ 22 rfl Tryz.underlying22 infoInt rfl rfl rfl (hS) rfl (Src.ofRep hc hS.ple) one_IntR ?c3 ?c4 ?c5)
    case c3 => first | omega | (simp; done) | (simp; omega)
    case c4 => first | omega | (simp; done) | (simp; omega)
    case c5 =>
    intro v1 w1 hS1
    obtain ⟨e1, f1, rfl, -⟩ := hS1.form 3 rfl
    clear hS
    obtain ⟨q1, q2⟩ := (hS1.box 2 rfl).facts
    have q3 := (hS1.box 2 rfl).lt
    obtain ⟨q4, q5⟩ := (hS1.box 0 rfl).facts
    have q6 := (hS1.box 0 rfl).lt
    go_wp2_with (at_builtin; refine wpList_append_M 4 rfl _ _ 38 rfl Tryz.underlying38 infoVal rfl rfl rfl ((hS1.set 2 rfl 0 (.slice e1 t.cls.length f1))) rfl (Src.ofRep hv (hS1.set 2 rfl 0 (.slice e1 t.cls.length f1)).ple) one_ValR ?c3 ?c4 ?c5)
    case c3 => first | omega | (simp; done) | (simp; omega)
    case c4 => first | omega | (simp; done) | (simp; omega)
    case c5 =>
    intro v2 w2 hS2
    obtain ⟨e2, f2, rfl, -⟩ := hS2.form 4 rfl
    clear hS1 q1 q2 q3 q4 q5 q6
    obtain ⟨q1, q2⟩ := (hS2.box 2 rfl).facts
    have q3 := (hS2.box 2 rfl).lt
    obtain ⟨q4, q5⟩ := (hS2.box 0 rfl).facts
    have q6 := (hS2.box 0 rfl).lt
    go_wp2_with (at_builtin; refine wpList_append_M 5 rfl _ _ 39 rfl Tryz.underlying39 infoThing rfl rfl rfl ((hS2.set 2 rfl 1 (.slice e2 t.vals.length f2))) rfl (Src.ofRep hp (hS2.set 2 rfl 1 (.slice e2 t.vals.length f2)).ple) one_ThingR ?c3 ?c4 ?c5)
    case c3 => first | omega | (simp; done) | (simp; omega)
    case c4 => first | omega | (simp; done) | (simp; omega)
    case c5 =>
    intro v3 w3 hS3
    obtain ⟨e3, f3, rfl, -⟩ := hS3.form 5 rfl
    clear hS2 q1 q2 q3 q4 q5 q6
    obtain ⟨q1, q2⟩ := (hS3.box 2 rfl).facts
    have q3 := (hS3.box 2 rfl).lt
    go_upto_region 5 with (fail)
    have hS := hS3.set 2 rfl 2 (.slice e3 t.parts.length f3)
    clear hS3 q1 q2 q3
    generalize w3.setCell ⟨w.heap.size + 1 + 1, 2, none⟩ (.slice e3 t.parts.length f3) = w4 at *
    go_cut [42] (fun c wx => ∃ b, c = .bool b ∧ (b = false ∨ 0 < t.parts.length) ∧ Mem w H [boxT w.heap.size (.slice a1 t.cls.length c1) (.slice a2 t.vals.length c2) (.slice a3 t.parts.length c3), boxT (w.heap.size + 1) (.slice none 0 0) (.slice none 0 0) (.slice none 0 0), boxT (w.heap.size + 1 + 1) (.slice e1 t.cls.length f1) (.slice e2 t.vals.length f2) (.slice e3 t.parts.length f3), ownI (.slice e1 t.cls.length f1) t.cls, ownV (.slice e2 t.vals.length f2) t.vals, ownT (.slice e3 t.parts.length f3) t.parts] H wx)
    case first =>
      obtain ⟨q1, q2⟩ := (hS.box 2 rfl).facts
      have q3 := (hS.box 2 rfl).lt
      by_cases hl : 0 < t.parts.length
      · go_wp2_with fail
        refine (around_c at_ 3 _ hat (by omega) (by omega)).mono ?_
        rintro e w5 ⟨rfl, hb5⟩
        generalize aroundV at_ 3 = r at *
        replace hS := hS.ext hb5
        clear hb5 q1 q2 q3
        go_wp2_with fail
        go_meet
        case rel => exact ⟨_, rfl, .inr hl, hS⟩
      · go_wp2_with fail
        go_meet
        case rel => exact ⟨_, rfl, .inl rfl, hS⟩
    case rest =>
      clear hS
      obtain ⟨b, rfl, hl, hS⟩ := hcut
      cases b
      case true =>
        replace hl : 0 < t.parts.length := by rcases hl with h | h; cases h; exact h
        obtain ⟨q1, q2⟩ := (hS.box 2 rfl).facts
        have q3 := (hS.box 2 rfl).lt
        have hw3 := wrap_tdiv (k := 3) (by omega) hat
        have hw9 := Lib.hid (wrap_tdiv (k := 9) (by omega) hat)
        go_wp2_with fail
        refine (around_c (at_.tdiv 3) _ _ (i64_tdiv (by omega) hat) (by omega) (by omega)).mono ?_
        rintro e w5 ⟨rfl, hb5⟩
        obtain ⟨hr0, hr1⟩ := aroundV_range (n := at_.tdiv 3) (m := t.parts.length) (i64_tdiv (by omega) hat) (by omega)
        replace hS := hS.ext hb5
        clear hb5 q1 q2 q3 hw3
        obtain ⟨k, hk⟩ : ∃ k : Nat, aroundV (at_.tdiv 3) t.parts.length = k := ⟨_, (Int.toNat_of_nonneg hr0).symm⟩
        rw [hk] at hr1 ⊢
        clear hk hr0
        obtain ⟨q1, q2⟩ := (hS.box 2 rfl).facts
        have q3 := (hS.box 2 rfl).lt
        have hkl : k < t.parts.length := by omega
        clear hr1
        obtain ⟨g, cp, b1, d1, b2, d2, b3, d3, hx, h0, h1, h2, hE, hbl⟩ := hS.getT 5 rfl k hkl
        injection hx with hx _ hx2
        subst hx hx2
        go_wp2_with fail
        (refine wp_region_I 13 (by kernel_rfl) (by kernel_rfl) ?_; simp only [List.toList_toArray, List.take_succ_cons, List.take_zero, List.drop_succ_cons, List.drop_zero])
        repeat ((refine wiA rfl (by simp) rfl ?_; (try simp only [List.nil_append, List.cons_append])))
        have hpb := Thing.part_le (List.getElem_mem hkl)
        have hpm := List.getElem_mem hkl
        generalize hpe : t.parts[k] = p at *
        replace hpe := Lib.hid hpe
        refine walkI_step (fun v w' => ∃ (cs : List Value) (t' : Thing), v = .agg cs.toArray ∧ ThingR (up H w5 w') cs t' ∧ t'.bulk ≤ 2 * p.bulk + 200) rfl (by simp) rfl ?_ ?_ ?_
        · rintro v w1 w2 hx ⟨cs, t', rfl, h1, h2⟩ hy
          exact ⟨cs, t', rfl, mono_ThingR _ _ _ _ (up_then hx hy) h1, h2⟩
        · intro A w' hx hA K hK
          (simp only [List.map_cons, List.map_nil, knows, Is, Op.operands, Call.operands, List.lookup_cons, List.lookup_nil, Nat.reduceBEq, Bool.false_eq_true, if_false, if_true, Act.eval, Array.getD_eq_getD_getElem?, List.getElem?_toArray, List.getElem?_cons_succ, List.getElem?_cons_zero, Option.getD_some, and_true, true_and, List.append_toArray, List.nil_append, List.cons_append, List.toList_toArray, Array.toList_append, Option.toArray, List.append_nil] at hA)
          go_simp
          rw [hw9.out]
          refine (HI.out p hpm H _ _ _ _ _ (hS.ple.trans hx.ple) hE (i64_tdiv (by omega) hat) hhow hby (by omega)).mono ?_
          rintro e w6 ⟨cs, t', rfl, h4, h5, h6⟩
          exact hK _ _ h6 ⟨cs, t', rfl, mono_ThingR _ _ _ _ (up_sub hS.ple hx) h4, h5⟩
        (refine walkI_nil ?_; simp only [List.nil_append, List.cons_append, fins, Is, forall_eq, Act.put, List.setIfInBounds_toArray, List.set_cons_zero, List.set_cons_succ])
        rintro w6 hb6 v ⟨cs, t', rfl, h4, h5⟩
        obtain ⟨b1', d1', b2', d2', b3', d3', rfl, -⟩ := h4.form
        replace hS := hS.up hb6
        clear q1 q2 q3 h0 h1 h2 hbl hE
        generalize up H w5 w6 = H6 at *
        rcases hS.asBox 5 rfl with ⟨h6, -⟩ | ⟨g', cap, cur, h6, h7, h8, h9, h10, hB⟩
        · cases h6
        injection h6 with h6 _ h6'
        injection h6 with h6
        injection h6 with h6
        subst h6 h6'
        clear hS
        have hcs : cur.size = f3 * 3 := h9
        obtain ⟨x0, hx0⟩ : ∃ x, cur[k * 3]? = some x := ⟨_, Array.getElem?_eq_getElem (by omega)⟩
        obtain ⟨x1, hx1⟩ : ∃ x, cur[k * 3 + 1]? = some x := ⟨_, Array.getElem?_eq_getElem (by omega)⟩
        obtain ⟨x2, hx2⟩ : ∃ x, cur[k * 3 + 2]? = some x := ⟨_, Array.getElem?_eq_getElem (by omega)⟩
        obtain ⟨q1, q2⟩ := (hB.box 5 rfl).facts
        have q3 := (hB.box 5 rfl).lt
        go_upto_region 8 with (fail)
        have hS := (((hB.set 5 rfl (k * 3) (Value.slice b1' t'.cls.length d1')).set 5 rfl (k * 3 + 1) (Value.slice b2' t'.vals.length d2')).set 5 rfl (k * 3 + 2) (Value.slice b3' t'.parts.length d3')).asOwn 5 (xs := t.parts.set k t') (n := f3) (sz := 3) rfl mono_ThingR (by simpa using h7) h8 (by simpa using hcs) (by
          simp only [Array.toList_setIfInBounds, List.length_set]
          rw [take_set3]
          exact Cells.set3 h4 k hkl h10)
        rw [List.length_set] at hS
        generalize ((w6.setCell _ _).setCell _ _).setCell _ _ = w7 at *
        clear hB q1 q2 q3 hx0 hx1 hx2
        obtain ⟨q1, q2⟩ := (hS.box 2 rfl).facts
        have q3 := (hS.box 2 rfl).lt
        obtain ⟨r1, r2⟩ := (hS.box 1 rfl).facts
        have r3 := (hS.box 1 rfl).lt
        have hfin := Lib.hid ((((hS.set 1 rfl 0 (Value.slice e1 t.cls.length f1)).set 1 rfl 1 (Value.slice e2 t.vals.length f2)).set 1 rfl 2 (Value.slice (some ⟨g, 0, none⟩) t.parts.length f3)).spoiltP (b := 2 * t.bulk + 200) 3 4 5 rfl rfl rfl (by
          have h11 := sumN_set Thing.bulk t.parts k t' hkl
          have h12 := sumN_mem Thing.bulk hpm
          rw [hpe.out] at h11
          have := hbk'.out
          omega))
        clear hS
        go_wp2_with fail
        exact bodyPost_ret (v := .agg #[Value.slice e1 t.cls.length f1, Value.slice e2 t.vals.length f2, Value.slice (some ⟨g, 0, none⟩) t.parts.length f3]) (by simp [results, Tryz.results21, go_sem, r1, r2, r3]) rfl hfin.out
      case false =>
        clear hl
        go_wp2_with fail
        refine (around_c how 9 _ hhow (by omega) (by omega)).mono ?_
        rintro e w5 ⟨rfl, hb5⟩
        obtain ⟨hr0, hr1⟩ := aroundV_range (n := how) (m := 9) hhow (by omega)
        replace hS := hS.ext hb5
        clear hb5
        generalize aroundV how 9 = r at *
        have h9 : r = 0 ∨ r = 1 ∨ r = 2 ∨ r = 3 ∨ r = 4 ∨ r = 5 ∨ r = 6 ∨ r = 7 ∨ r = 8 := by omega
        obtain ⟨q1, q2⟩ := (hS.box 2 rfl).facts
        have q3 := (hS.box 2 rfl).lt
        obtain ⟨r1, r2⟩ := (hS.box 1 rfl).facts
        have r3 := (hS.box 1 rfl).lt
        rcases h9 with rfl | rfl | rfl | rfl | rfl | rfl | rfl | rfl | rfl
        · -- a class more
          go_wp2_with fail
          obtain ⟨hq0, hq1⟩ := aroundV_range (n := by_) (m := 5) hby (by omega)
          obtain ⟨q, hq⟩ : ∃ q : Nat, aroundV by_ 5 = q := ⟨_, (Int.toNat_of_nonneg hq0).symm⟩
          rw [hq] at hq1
          replace hq := Lib.hid hq
          clear hq0
          obtain ⟨n, hn, hn64⟩ := five_ints (a := by_) (b := -1) (c := 0) (d := 63) (e := 64) hby (by unfold I64; omega) (by unfold I64; omega) (by unfold I64; omega) (by unfold I64; omega) q (by omega)
          (refine wp_region_I 9 (by kernel_rfl) (by kernel_rfl) ?_; simp only [List.toList_toArray, List.take_succ_cons, List.take_zero, List.drop_succ_cons, List.drop_zero])
          repeat ((refine wiA rfl (by simp) rfl ?_; (try simp only [List.nil_append, List.cons_append])))
          (refine walkI_step (ArrAt #[.int .i64 by_, .int .i64 (-1), .int .i64 0, .int .i64 63, .int .i64 64] 5) rfl (by simp) rfl (stab_ArrAt _ _) ?_ ?_; (focus (intro A w' hS hA K hK; (simp only [List.map_cons, List.map_nil, knows, Is, Op.operands, Call.operands, List.lookup_cons, List.lookup_nil, Nat.reduceBEq, Bool.false_eq_true, if_false, if_true, Act.eval, Array.getD_eq_getD_getElem?, List.getElem?_toArray, List.getElem?_cons_succ, List.getElem?_cons_zero, Option.getD_some, and_true, true_and, List.append_toArray, List.nil_append, List.cons_append, List.toList_toArray, Array.toList_append, Option.toArray, List.append_nil] at hA); (go_simp; exact hK _ _ (Ext.new _ _) ⟨_, rfl, Own.new _ _ _⟩))); (try simp only [List.nil_append, List.cons_append]))
          repeat ((refine wiA rfl (by simp) rfl ?_; (try simp only [List.nil_append, List.cons_append])))
          (refine walkI_is (u := ?_) rfl (by simp) rfl ?_ ?_; rotate_left; (focus (intro A w' hS hA K hK; (simp only [List.map_cons, List.map_nil, knows, Is, Op.operands, Call.operands, List.lookup_cons, List.lookup_nil, Nat.reduceBEq, Bool.false_eq_true, if_false, if_true, Act.eval, Array.getD_eq_getD_getElem?, List.getElem?_toArray, List.getElem?_cons_succ, List.getElem?_cons_zero, Option.getD_some, and_true, true_and, List.append_toArray, List.nil_append, List.cons_append, List.toList_toArray, Array.toList_append, Option.toArray, List.append_nil] at hA); first | (go_simp; refine (around_c by_ 5 _ hby (by omega) (by omega)).mono ?_; rintro e w'' ⟨rfl, hbx⟩; rw [hq.out]; exact hK _ hbx) | (obtain ⟨hSc, hSf, hSs⟩ := hS.cells; go_simp; exact hK _ xN))); (try simp only [List.nil_append, List.cons_append]))
          (refine walkI_step (PtrAt #[.int .i64 by_, .int .i64 (-1), .int .i64 0, .int .i64 63, .int .i64 64] q) rfl (by simp) rfl (stab_PtrAt _ _) ?_ ?_; (focus (intro A w' hS hA K hK; (simp only [List.map_cons, List.map_nil, knows, Is, Op.operands, Call.operands, List.lookup_cons, List.lookup_nil, Nat.reduceBEq, Bool.false_eq_true, if_false, if_true, Act.eval, Array.getD_eq_getD_getElem?, List.getElem?_toArray, List.getElem?_cons_succ, List.getElem?_cons_zero, Option.getD_some, and_true, true_and, List.append_toArray, List.nil_append, List.cons_append, List.toList_toArray, Array.toList_append, Option.toArray, List.append_nil] at hA); (obtain ⟨⟨g, hA1, hA2⟩, hA3⟩ := hA; go_simp; exact hK _ _ (Ext.rfl' _) ⟨_, rfl, hA2⟩))); (try simp only [List.nil_append, List.cons_append]))
          (refine walkI_is (u := ?_) rfl (by simp) rfl ?_ ?_; rotate_left; (focus (intro A w' hS hA K hK; (simp only [List.map_cons, List.map_nil, knows, Is, Op.operands, Call.operands, List.lookup_cons, List.lookup_nil, Nat.reduceBEq, Bool.false_eq_true, if_false, if_true, Act.eval, Array.getD_eq_getD_getElem?, List.getElem?_toArray, List.getElem?_cons_succ, List.getElem?_cons_zero, Option.getD_some, and_true, true_and, List.append_toArray, List.nil_append, List.cons_append, List.toList_toArray, Array.toList_append, Option.toArray, List.append_nil] at hA); first | (obtain ⟨g, hA1, hA2⟩ := hA; obtain ⟨hA3, hA4⟩ := hA2.facts; clear hA2; replace hA3 := hA3 q; rw [hn] at hA3; go_simp; exact hK _ (Ext.rfl' _)) | (obtain ⟨hSc, hSf, hSs⟩ := hS.cells; go_simp; exact hK _ xN))); (try simp only [List.nil_append, List.cons_append]))
          repeat ((refine wiA rfl (by simp) rfl ?_; (try simp only [List.nil_append, List.cons_append])))
          (refine walkI_step (OneInt) rfl (by simp) rfl (stab_OneInt) ?_ ?_; (focus (intro A w' hS hA K hK; (simp only [List.map_cons, List.map_nil, knows, Is, Op.operands, Call.operands, List.lookup_cons, List.lookup_nil, Nat.reduceBEq, Bool.false_eq_true, if_false, if_true, Act.eval, Array.getD_eq_getD_getElem?, List.getElem?_toArray, List.getElem?_cons_succ, List.getElem?_cons_zero, Option.getD_some, and_true, true_and, List.append_toArray, List.nil_append, List.cons_append, List.toList_toArray, Array.toList_append, Option.toArray, List.append_nil] at hA); (go_simp; exact hK _ _ (Ext.new _ _) ⟨_, n, rfl, Own.new _ _ _, hn64⟩))); (try simp only [List.nil_append, List.cons_append]))
          (refine walkI_nil ?_; simp only [List.nil_append, List.cons_append, fins, Is, forall_eq, Act.put, List.setIfInBounds_toArray, List.set_cons_zero, List.set_cons_succ])
          rintro w6 hb6 v83 - v86 - v88 ⟨g, m, rfl, ho, hm64⟩
          replace hS := hS.ext hb6
          clear q1 q2 q3 r1 r2 r3
          obtain ⟨q1, q2⟩ := (hS.box 2 rfl).facts
          go_wp2_with (at_builtin; refine wpList_append_M 3 rfl _ _ 22 rfl Tryz.underlying22 infoInt rfl rfl rfl (hS) rfl (Src.lit1 (x := m) ⟨rfl, hm64⟩ rfl (fun j => by simpa using ho.facts.1 j)) one_IntR ?c3 ?c4 ?c5)
          case c3 => first | omega | (simp; done) | (simp; omega)
          case c4 => first | omega | (simp; done) | (simp; omega)
          case c5 =>
          intro v' w7 hS7
          obtain ⟨e', n', f', rfl⟩ : ∃ e n f, v' = .slice e n f := by obtain ⟨e, f, h, -⟩ := hS7.form 3 rfl; exact ⟨e, _, f, h⟩
          obtain ⟨q1, q2⟩ := (hS7.box 2 rfl).facts
          have q3 := (hS7.box 2 rfl).lt
          obtain ⟨r1, r2⟩ := (hS7.box 1 rfl).facts
          have r3 := (hS7.box 1 rfl).lt
          have hfin := Lib.hid (((((hS7.set 2 rfl 0 (.slice e' n' f')).set 1 rfl 0 (.slice e' n' f')).set 1 rfl 1 (.slice e2 t.vals.length f2)).set 1 rfl 2 (.slice e3 t.parts.length f3)).spoiltP (b := 2 * t.bulk + 200) 3 4 5 rfl rfl rfl (by
            have := hbk'.out
            simp only [List.length_append, List.length_singleton, sumT_snoc]; omega))
          clear hS7
          go_wp2_with fail
          exact bodyPost_ret (v := .agg #[(.slice e' n' f'), (.slice e2 t.vals.length f2), (.slice e3 t.parts.length f3)]) (by simp [results, Tryz.results21, go_sem, r1, r2, r3]) rfl hfin.out
        · -- case 1
          go_wp2_with fail
          obtain ⟨hq0, hq1⟩ := aroundV_range (n := by_) (m := 5) hby (by omega)
          obtain ⟨q, hq⟩ : ∃ q : Nat, aroundV by_ 5 = q := ⟨_, (Int.toNat_of_nonneg hq0).symm⟩
          rw [hq] at hq1
          replace hq := Lib.hid hq
          clear hq0
          obtain ⟨n, hn, hn64⟩ := five_ints (a := by_) (b := -1) (c := 0) (d := 31) (e := 32) hby (by unfold I64; omega) (by unfold I64; omega) (by unfold I64; omega) (by unfold I64; omega) q (by omega)
          (refine wp_region_I 11 (by kernel_rfl) (by kernel_rfl) ?_; simp only [List.toList_toArray, List.take_succ_cons, List.take_zero, List.drop_succ_cons, List.drop_zero])
          repeat ((refine wiA rfl (by simp) rfl ?_; (try simp only [List.nil_append, List.cons_append])))
          (refine walkI_step (ArrAt #[.int .i64 by_, .int .i64 (-1), .int .i64 0, .int .i64 31, .int .i64 32] 5) rfl (by simp) rfl (stab_ArrAt _ _) ?_ ?_; (focus (intro A w' hS hA K hK; (simp only [List.map_cons, List.map_nil, knows, Is, Op.operands, Call.operands, List.lookup_cons, List.lookup_nil, Nat.reduceBEq, Bool.false_eq_true, if_false, if_true, Act.eval, Array.getD_eq_getD_getElem?, List.getElem?_toArray, List.getElem?_cons_succ, List.getElem?_cons_zero, Option.getD_some, and_true, true_and, List.append_toArray, List.nil_append, List.cons_append, List.toList_toArray, Array.toList_append, Option.toArray, List.append_nil] at hA); (go_simp; exact hK _ _ (Ext.new _ _) ⟨_, rfl, Own.new _ _ _⟩))); (try simp only [List.nil_append, List.cons_append]))
          repeat ((refine wiA rfl (by simp) rfl ?_; (try simp only [List.nil_append, List.cons_append])))
          (refine walkI_is (u := ?_) rfl (by simp) rfl ?_ ?_; rotate_left; (focus (intro A w' hS hA K hK; (simp only [List.map_cons, List.map_nil, knows, Is, Op.operands, Call.operands, List.lookup_cons, List.lookup_nil, Nat.reduceBEq, Bool.false_eq_true, if_false, if_true, Act.eval, Array.getD_eq_getD_getElem?, List.getElem?_toArray, List.getElem?_cons_succ, List.getElem?_cons_zero, Option.getD_some, and_true, true_and, List.append_toArray, List.nil_append, List.cons_append, List.toList_toArray, Array.toList_append, Option.toArray, List.append_nil] at hA); first | (go_simp; refine (around_c by_ 5 _ hby (by omega) (by omega)).mono ?_; rintro e w'' ⟨rfl, hbx⟩; rw [hq.out]; exact hK _ hbx) | (obtain ⟨hSc, hSf, hSs⟩ := hS.cells; go_simp; exact hK _ xN))); (try simp only [List.nil_append, List.cons_append]))
          (refine walkI_step (PtrAt #[.int .i64 by_, .int .i64 (-1), .int .i64 0, .int .i64 31, .int .i64 32] q) rfl (by simp) rfl (stab_PtrAt _ _) ?_ ?_; (focus (intro A w' hS hA K hK; (simp only [List.map_cons, List.map_nil, knows, Is, Op.operands, Call.operands, List.lookup_cons, List.lookup_nil, Nat.reduceBEq, Bool.false_eq_true, if_false, if_true, Act.eval, Array.getD_eq_getD_getElem?, List.getElem?_toArray, List.getElem?_cons_succ, List.getElem?_cons_zero, Option.getD_some, and_true, true_and, List.append_toArray, List.nil_append, List.cons_append, List.toList_toArray, Array.toList_append, Option.toArray, List.append_nil] at hA); (obtain ⟨⟨g, hA1, hA2⟩, hA3⟩ := hA; go_simp; exact hK _ _ (Ext.rfl' _) ⟨_, rfl, hA2⟩))); (try simp only [List.nil_append, List.cons_append]))
          (refine walkI_is (u := ?_) rfl (by simp) rfl ?_ ?_; rotate_left; (focus (intro A w' hS hA K hK; (simp only [List.map_cons, List.map_nil, knows, Is, Op.operands, Call.operands, List.lookup_cons, List.lookup_nil, Nat.reduceBEq, Bool.false_eq_true, if_false, if_true, Act.eval, Array.getD_eq_getD_getElem?, List.getElem?_toArray, List.getElem?_cons_succ, List.getElem?_cons_zero, Option.getD_some, and_true, true_and, List.append_toArray, List.nil_append, List.cons_append, List.toList_toArray, Array.toList_append, Option.toArray, List.append_nil] at hA); first | (obtain ⟨g, hA1, hA2⟩ := hA; obtain ⟨hA3, hA4⟩ := hA2.facts; clear hA2; replace hA3 := hA3 q; rw [hn] at hA3; go_simp; exact hK _ (Ext.rfl' _)) | (obtain ⟨hSc, hSf, hSs⟩ := hS.cells; go_simp; exact hK _ xN))); (try simp only [List.nil_append, List.cons_append]))
          repeat ((refine wiA rfl (by simp) rfl ?_; (try simp only [List.nil_append, List.cons_append])))
          (refine walkI_step (OneVal) rfl (by simp) rfl (stab_OneVal) ?_ ?_; (focus (intro A w' hS hA K hK; (simp only [List.map_cons, List.map_nil, knows, Is, Op.operands, Call.operands, List.lookup_cons, List.lookup_nil, Nat.reduceBEq, Bool.false_eq_true, if_false, if_true, Act.eval, Array.getD_eq_getD_getElem?, List.getElem?_toArray, List.getElem?_cons_succ, List.getElem?_cons_zero, Option.getD_some, and_true, true_and, List.append_toArray, List.nil_append, List.cons_append, List.toList_toArray, Array.toList_append, Option.toArray, List.append_nil] at hA); (go_simp; exact hK _ _ (Ext.new _ _) ⟨_, ⟨n, ⟨1, 1⟩⟩, rfl, Own.new _ _ _, by first | exact hn64 | (unfold I64; simp only []; omega), by first | exact hn64 | (unfold I64; simp only []; omega), by first | exact hn64 | (unfold I64; simp only []; omega)⟩))); (try simp only [List.nil_append, List.cons_append]))
          (refine walkI_nil ?_; simp only [List.nil_append, List.cons_append, fins, Is, forall_eq, Act.put, List.setIfInBounds_toArray, List.set_cons_zero, List.set_cons_succ])
          rintro w6 hb6 vx1 - vx2 - vx3 ⟨g, m, rfl, ho, hm64⟩
          replace hS := hS.ext hb6
          clear q1 q2 q3 r1 r2 r3
          obtain ⟨q1, q2⟩ := (hS.box 2 rfl).facts
          go_wp2_with (at_builtin; refine wpList_append_M 4 rfl _ _ 38 rfl Tryz.underlying38 infoVal rfl rfl rfl (hS) rfl (Src.lit1 (x := m) ⟨rfl, hm64⟩ rfl (fun j => by simpa using ho.facts.1 j)) one_ValR ?c3 ?c4 ?c5)
          case c3 => first | omega | (simp; done) | (simp; omega)
          case c4 => first | omega | (simp; done) | (simp; omega)
          case c5 =>
          intro v' w7 hS7
          obtain ⟨e', n', f', rfl⟩ : ∃ e n f, v' = .slice e n f := by obtain ⟨e, f, h, -⟩ := hS7.form 4 rfl; exact ⟨e, _, f, h⟩
          obtain ⟨q1, q2⟩ := (hS7.box 2 rfl).facts
          have q3 := (hS7.box 2 rfl).lt
          obtain ⟨r1, r2⟩ := (hS7.box 1 rfl).facts
          have r3 := (hS7.box 1 rfl).lt
          have hfin := Lib.hid (((((hS7.set 2 rfl 1 (.slice e' n' f')).set 1 rfl 0 (.slice e1 t.cls.length f1)).set 1 rfl 1 (.slice e' n' f')).set 1 rfl 2 (.slice e3 t.parts.length f3)).spoiltP (b := 2 * t.bulk + 200) 3 4 5 rfl rfl rfl (by
            have := hbk'.out
            simp only [List.length_append, List.length_singleton, sumT_snoc]; omega))
          clear hS7
          go_wp2_with fail
          exact bodyPost_ret (v := .agg #[(.slice e1 t.cls.length f1), (.slice e' n' f'), (.slice e3 t.parts.length f3)]) (by simp [results, Tryz.results21, go_sem, r1, r2, r3]) rfl hfin.out
        · -- case 2
          go_wp2_with fail
          obtain ⟨hq0, hq1⟩ := aroundV_range (n := by_) (m := 4) hby (by omega)
          obtain ⟨q, hq⟩ : ∃ q : Nat, aroundV by_ 4 = q := ⟨_, (Int.toNat_of_nonneg hq0).symm⟩
          rw [hq] at hq1
          replace hq := Lib.hid hq
          clear hq0
          obtain ⟨n, hn, hn64⟩ := four_ints (a := by_) (b := 1099511627776) (c := -1099511627776) (d := 1099511627777) hby (by unfold I64; omega) (by unfold I64; omega) (by unfold I64; omega) q (by omega)
          (refine wp_region_I 11 (by kernel_rfl) (by kernel_rfl) ?_; simp only [List.toList_toArray, List.take_succ_cons, List.take_zero, List.drop_succ_cons, List.drop_zero])
          repeat ((refine wiA rfl (by simp) rfl ?_; (try simp only [List.nil_append, List.cons_append])))
          (refine walkI_step (ArrAt #[.int .i64 by_, .int .i64 1099511627776, .int .i64 (-1099511627776), .int .i64 1099511627777] 4) rfl (by simp) rfl (stab_ArrAt _ _) ?_ ?_; (focus (intro A w' hS hA K hK; (simp only [List.map_cons, List.map_nil, knows, Is, Op.operands, Call.operands, List.lookup_cons, List.lookup_nil, Nat.reduceBEq, Bool.false_eq_true, if_false, if_true, Act.eval, Array.getD_eq_getD_getElem?, List.getElem?_toArray, List.getElem?_cons_succ, List.getElem?_cons_zero, Option.getD_some, and_true, true_and, List.append_toArray, List.nil_append, List.cons_append, List.toList_toArray, Array.toList_append, Option.toArray, List.append_nil] at hA); (go_simp; exact hK _ _ (Ext.new _ _) ⟨_, rfl, Own.new _ _ _⟩))); (try simp only [List.nil_append, List.cons_append]))
          repeat ((refine wiA rfl (by simp) rfl ?_; (try simp only [List.nil_append, List.cons_append])))
          (refine walkI_is (u := ?_) rfl (by simp) rfl ?_ ?_; rotate_left; (focus (intro A w' hS hA K hK; (simp only [List.map_cons, List.map_nil, knows, Is, Op.operands, Call.operands, List.lookup_cons, List.lookup_nil, Nat.reduceBEq, Bool.false_eq_true, if_false, if_true, Act.eval, Array.getD_eq_getD_getElem?, List.getElem?_toArray, List.getElem?_cons_succ, List.getElem?_cons_zero, Option.getD_some, and_true, true_and, List.append_toArray, List.nil_append, List.cons_append, List.toList_toArray, Array.toList_append, Option.toArray, List.append_nil] at hA); first | (go_simp; refine (around_c by_ 4 _ hby (by omega) (by omega)).mono ?_; rintro e w'' ⟨rfl, hbx⟩; rw [hq.out]; exact hK _ hbx) | (obtain ⟨hSc, hSf, hSs⟩ := hS.cells; go_simp; exact hK _ xN))); (try simp only [List.nil_append, List.cons_append]))
          (refine walkI_step (PtrAt #[.int .i64 by_, .int .i64 1099511627776, .int .i64 (-1099511627776), .int .i64 1099511627777] q) rfl (by simp) rfl (stab_PtrAt _ _) ?_ ?_; (focus (intro A w' hS hA K hK; (simp only [List.map_cons, List.map_nil, knows, Is, Op.operands, Call.operands, List.lookup_cons, List.lookup_nil, Nat.reduceBEq, Bool.false_eq_true, if_false, if_true, Act.eval, Array.getD_eq_getD_getElem?, List.getElem?_toArray, List.getElem?_cons_succ, List.getElem?_cons_zero, Option.getD_some, and_true, true_and, List.append_toArray, List.nil_append, List.cons_append, List.toList_toArray, Array.toList_append, Option.toArray, List.append_nil] at hA); (obtain ⟨⟨g, hA1, hA2⟩, hA3⟩ := hA; go_simp; exact hK _ _ (Ext.rfl' _) ⟨_, rfl, hA2⟩))); (try simp only [List.nil_append, List.cons_append]))
          (refine walkI_is (u := ?_) rfl (by simp) rfl ?_ ?_; rotate_left; (focus (intro A w' hS hA K hK; (simp only [List.map_cons, List.map_nil, knows, Is, Op.operands, Call.operands, List.lookup_cons, List.lookup_nil, Nat.reduceBEq, Bool.false_eq_true, if_false, if_true, Act.eval, Array.getD_eq_getD_getElem?, List.getElem?_toArray, List.getElem?_cons_succ, List.getElem?_cons_zero, Option.getD_some, and_true, true_and, List.append_toArray, List.nil_append, List.cons_append, List.toList_toArray, Array.toList_append, Option.toArray, List.append_nil] at hA); first | (obtain ⟨g, hA1, hA2⟩ := hA; obtain ⟨hA3, hA4⟩ := hA2.facts; clear hA2; replace hA3 := hA3 q; rw [hn] at hA3; go_simp; exact hK _ (Ext.rfl' _)) | (obtain ⟨hSc, hSf, hSs⟩ := hS.cells; go_simp; exact hK _ xN))); (try simp only [List.nil_append, List.cons_append]))
          repeat ((refine wiA rfl (by simp) rfl ?_; (try simp only [List.nil_append, List.cons_append])))
          (refine walkI_step (OneVal) rfl (by simp) rfl (stab_OneVal) ?_ ?_; (focus (intro A w' hS hA K hK; (simp only [List.map_cons, List.map_nil, knows, Is, Op.operands, Call.operands, List.lookup_cons, List.lookup_nil, Nat.reduceBEq, Bool.false_eq_true, if_false, if_true, Act.eval, Array.getD_eq_getD_getElem?, List.getElem?_toArray, List.getElem?_cons_succ, List.getElem?_cons_zero, Option.getD_some, and_true, true_and, List.append_toArray, List.nil_append, List.cons_append, List.toList_toArray, Array.toList_append, Option.toArray, List.append_nil] at hA); (go_simp; exact hK _ _ (Ext.new _ _) ⟨_, ⟨31, ⟨n, 1⟩⟩, rfl, Own.new _ _ _, by first | exact hn64 | (unfold I64; simp only []; omega), by first | exact hn64 | (unfold I64; simp only []; omega), by first | exact hn64 | (unfold I64; simp only []; omega)⟩))); (try simp only [List.nil_append, List.cons_append]))
          (refine walkI_nil ?_; simp only [List.nil_append, List.cons_append, fins, Is, forall_eq, Act.put, List.setIfInBounds_toArray, List.set_cons_zero, List.set_cons_succ])
          rintro w6 hb6 vx1 - vx2 - vx3 ⟨g, m, rfl, ho, hm64⟩
          replace hS := hS.ext hb6
          clear q1 q2 q3 r1 r2 r3
          obtain ⟨q1, q2⟩ := (hS.box 2 rfl).facts
          go_wp2_with (at_builtin; refine wpList_append_M 4 rfl _ _ 38 rfl Tryz.underlying38 infoVal rfl rfl rfl (hS) rfl (Src.lit1 (x := m) ⟨rfl, hm64⟩ rfl (fun j => by simpa using ho.facts.1 j)) one_ValR ?c3 ?c4 ?c5)
          case c3 => first | omega | (simp; done) | (simp; omega)
          case c4 => first | omega | (simp; done) | (simp; omega)
          case c5 =>
          intro v' w7 hS7
          obtain ⟨e', n', f', rfl⟩ : ∃ e n f, v' = .slice e n f := by obtain ⟨e, f, h, -⟩ := hS7.form 4 rfl; exact ⟨e, _, f, h⟩
          obtain ⟨q1, q2⟩ := (hS7.box 2 rfl).facts
          have q3 := (hS7.box 2 rfl).lt
          obtain ⟨r1, r2⟩ := (hS7.box 1 rfl).facts
          have r3 := (hS7.box 1 rfl).lt
          have hfin := Lib.hid (((((hS7.set 2 rfl 1 (.slice e' n' f')).set 1 rfl 0 (.slice e1 t.cls.length f1)).set 1 rfl 1 (.slice e' n' f')).set 1 rfl 2 (.slice e3 t.parts.length f3)).spoiltP (b := 2 * t.bulk + 200) 3 4 5 rfl rfl rfl (by
            have := hbk'.out
            simp only [List.length_append, List.length_singleton, sumT_snoc]; omega))
          clear hS7
          go_wp2_with fail
          exact bodyPost_ret (v := .agg #[(.slice e1 t.cls.length f1), (.slice e' n' f'), (.slice e3 t.parts.length f3)]) (by simp [results, Tryz.results21, go_sem, r1, r2, r3]) rfl hfin.out
        · -- case 3
          go_wp2_with fail
          obtain ⟨hq0, hq1⟩ := aroundV_range (n := by_) (m := 5) hby (by omega)
          obtain ⟨q, hq⟩ : ∃ q : Nat, aroundV by_ 5 = q := ⟨_, (Int.toNat_of_nonneg hq0).symm⟩
          rw [hq] at hq1
          replace hq := Lib.hid hq
          clear hq0
          obtain ⟨n, hn, hn64⟩ := five_ints (a := by_) (b := 0) (c := -1) (d := 65536) (e := 65537) hby (by unfold I64; omega) (by unfold I64; omega) (by unfold I64; omega) (by unfold I64; omega) q (by omega)
          (refine wp_region_I 11 (by kernel_rfl) (by kernel_rfl) ?_; simp only [List.toList_toArray, List.take_succ_cons, List.take_zero, List.drop_succ_cons, List.drop_zero])
          repeat ((refine wiA rfl (by simp) rfl ?_; (try simp only [List.nil_append, List.cons_append])))
          (refine walkI_step (ArrAt #[.int .i64 by_, .int .i64 0, .int .i64 (-1), .int .i64 65536, .int .i64 65537] 5) rfl (by simp) rfl (stab_ArrAt _ _) ?_ ?_; (focus (intro A w' hS hA K hK; (simp only [List.map_cons, List.map_nil, knows, Is, Op.operands, Call.operands, List.lookup_cons, List.lookup_nil, Nat.reduceBEq, Bool.false_eq_true, if_false, if_true, Act.eval, Array.getD_eq_getD_getElem?, List.getElem?_toArray, List.getElem?_cons_succ, List.getElem?_cons_zero, Option.getD_some, and_true, true_and, List.append_toArray, List.nil_append, List.cons_append, List.toList_toArray, Array.toList_append, Option.toArray, List.append_nil] at hA); (go_simp; exact hK _ _ (Ext.new _ _) ⟨_, rfl, Own.new _ _ _⟩))); (try simp only [List.nil_append, List.cons_append]))
          repeat ((refine wiA rfl (by simp) rfl ?_; (try simp only [List.nil_append, List.cons_append])))
          (refine walkI_is (u := ?_) rfl (by simp) rfl ?_ ?_; rotate_left; (focus (intro A w' hS hA K hK; (simp only [List.map_cons, List.map_nil, knows, Is, Op.operands, Call.operands, List.lookup_cons, List.lookup_nil, Nat.reduceBEq, Bool.false_eq_true, if_false, if_true, Act.eval, Array.getD_eq_getD_getElem?, List.getElem?_toArray, List.getElem?_cons_succ, List.getElem?_cons_zero, Option.getD_some, and_true, true_and, List.append_toArray, List.nil_append, List.cons_append, List.toList_toArray, Array.toList_append, Option.toArray, List.append_nil] at hA); first | (go_simp; refine (around_c by_ 5 _ hby (by omega) (by omega)).mono ?_; rintro e w'' ⟨rfl, hbx⟩; rw [hq.out]; exact hK _ hbx) | (obtain ⟨hSc, hSf, hSs⟩ := hS.cells; go_simp; exact hK _ xN))); (try simp only [List.nil_append, List.cons_append]))
          (refine walkI_step (PtrAt #[.int .i64 by_, .int .i64 0, .int .i64 (-1), .int .i64 65536, .int .i64 65537] q) rfl (by simp) rfl (stab_PtrAt _ _) ?_ ?_; (focus (intro A w' hS hA K hK; (simp only [List.map_cons, List.map_nil, knows, Is, Op.operands, Call.operands, List.lookup_cons, List.lookup_nil, Nat.reduceBEq, Bool.false_eq_true, if_false, if_true, Act.eval, Array.getD_eq_getD_getElem?, List.getElem?_toArray, List.getElem?_cons_succ, List.getElem?_cons_zero, Option.getD_some, and_true, true_and, List.append_toArray, List.nil_append, List.cons_append, List.toList_toArray, Array.toList_append, Option.toArray, List.append_nil] at hA); (obtain ⟨⟨g, hA1, hA2⟩, hA3⟩ := hA; go_simp; exact hK _ _ (Ext.rfl' _) ⟨_, rfl, hA2⟩))); (try simp only [List.nil_append, List.cons_append]))
          (refine walkI_is (u := ?_) rfl (by simp) rfl ?_ ?_; rotate_left; (focus (intro A w' hS hA K hK; (simp only [List.map_cons, List.map_nil, knows, Is, Op.operands, Call.operands, List.lookup_cons, List.lookup_nil, Nat.reduceBEq, Bool.false_eq_true, if_false, if_true, Act.eval, Array.getD_eq_getD_getElem?, List.getElem?_toArray, List.getElem?_cons_succ, List.getElem?_cons_zero, Option.getD_some, and_true, true_and, List.append_toArray, List.nil_append, List.cons_append, List.toList_toArray, Array.toList_append, Option.toArray, List.append_nil] at hA); first | (obtain ⟨g, hA1, hA2⟩ := hA; obtain ⟨hA3, hA4⟩ := hA2.facts; clear hA2; replace hA3 := hA3 q; rw [hn] at hA3; go_simp; exact hK _ (Ext.rfl' _)) | (obtain ⟨hSc, hSf, hSs⟩ := hS.cells; go_simp; exact hK _ xN))); (try simp only [List.nil_append, List.cons_append]))
          repeat ((refine wiA rfl (by simp) rfl ?_; (try simp only [List.nil_append, List.cons_append])))
          (refine walkI_step (OneVal) rfl (by simp) rfl (stab_OneVal) ?_ ?_; (focus (intro A w' hS hA K hK; (simp only [List.map_cons, List.map_nil, knows, Is, Op.operands, Call.operands, List.lookup_cons, List.lookup_nil, Nat.reduceBEq, Bool.false_eq_true, if_false, if_true, Act.eval, Array.getD_eq_getD_getElem?, List.getElem?_toArray, List.getElem?_cons_succ, List.getElem?_cons_zero, Option.getD_some, and_true, true_and, List.append_toArray, List.nil_append, List.cons_append, List.toList_toArray, Array.toList_append, Option.toArray, List.append_nil] at hA); (go_simp; exact hK _ _ (Ext.new _ _) ⟨_, ⟨31, ⟨1, n⟩⟩, rfl, Own.new _ _ _, by first | exact hn64 | (unfold I64; simp only []; omega), by first | exact hn64 | (unfold I64; simp only []; omega), by first | exact hn64 | (unfold I64; simp only []; omega)⟩))); (try simp only [List.nil_append, List.cons_append]))
          (refine walkI_nil ?_; simp only [List.nil_append, List.cons_append, fins, Is, forall_eq, Act.put, List.setIfInBounds_toArray, List.set_cons_zero, List.set_cons_succ])
          rintro w6 hb6 vx1 - vx2 - vx3 ⟨g, m, rfl, ho, hm64⟩
          replace hS := hS.ext hb6
          clear q1 q2 q3 r1 r2 r3
          obtain ⟨q1, q2⟩ := (hS.box 2 rfl).facts
          go_wp2_with (at_builtin; refine wpList_append_M 4 rfl _ _ 38 rfl Tryz.underlying38 infoVal rfl rfl rfl (hS) rfl (Src.lit1 (x := m) ⟨rfl, hm64⟩ rfl (fun j => by simpa using ho.facts.1 j)) one_ValR ?c3 ?c4 ?c5)
          case c3 => first | omega | (simp; done) | (simp; omega)
          case c4 => first | omega | (simp; done) | (simp; omega)
          case c5 =>
          intro v' w7 hS7
          obtain ⟨e', n', f', rfl⟩ : ∃ e n f, v' = .slice e n f := by obtain ⟨e, f, h, -⟩ := hS7.form 4 rfl; exact ⟨e, _, f, h⟩
          obtain ⟨q1, q2⟩ := (hS7.box 2 rfl).facts
          have q3 := (hS7.box 2 rfl).lt
          obtain ⟨r1, r2⟩ := (hS7.box 1 rfl).facts
          have r3 := (hS7.box 1 rfl).lt
          have hfin := Lib.hid (((((hS7.set 2 rfl 1 (.slice e' n' f')).set 1 rfl 0 (.slice e1 t.cls.length f1)).set 1 rfl 1 (.slice e' n' f')).set 1 rfl 2 (.slice e3 t.parts.length f3)).spoiltP (b := 2 * t.bulk + 200) 3 4 5 rfl rfl rfl (by
            have := hbk'.out
            simp only [List.length_append, List.length_singleton, sumT_snoc]; omega))
          clear hS7
          go_wp2_with fail
          exact bodyPost_ret (v := .agg #[(.slice e1 t.cls.length f1), (.slice e' n' f'), (.slice e3 t.parts.length f3)]) (by simp [results, Tryz.results21, go_sem, r1, r2, r3]) rfl hfin.out
        · -- case 4
          have hw64 : I64 (wrap64 (2 * by_)) := by unfold I64 wrap64; omega
          go_wp2_with (at_builtin; refine wpList_append_M 4 rfl _ _ 38 rfl Tryz.underlying38 infoVal rfl rfl rfl ((hS.ext xE)) rfl (Src.lit1 (x := ⟨31, ⟨wrap64 (2 * by_), 6⟩⟩) ⟨rfl, by unfold I64; simp only []; omega, hw64, by unfold I64; simp only []; omega⟩ rfl (fun j => by simp [go_sem])) one_ValR ?c3 ?c4 ?c5)
          case c3 => first | omega | (simp; done) | (simp; omega)
          case c4 => first | omega | (simp; done) | (simp; omega)
          case c5 =>
          clear q1 q2 q3 r1 r2 r3
          intro v' w7 hS7
          obtain ⟨e', n', f', rfl⟩ : ∃ e n f, v' = .slice e n f := by obtain ⟨e, f, h, -⟩ := hS7.form 4 rfl; exact ⟨e, _, f, h⟩
          obtain ⟨q1, q2⟩ := (hS7.box 2 rfl).facts
          have q3 := (hS7.box 2 rfl).lt
          obtain ⟨r1, r2⟩ := (hS7.box 1 rfl).facts
          have r3 := (hS7.box 1 rfl).lt
          have hfin := Lib.hid (((((hS7.set 2 rfl 1 (.slice e' n' f')).set 1 rfl 0 (.slice e1 t.cls.length f1)).set 1 rfl 1 (.slice e' n' f')).set 1 rfl 2 (.slice e3 t.parts.length f3)).spoiltP (b := 2 * t.bulk + 200) 3 4 5 rfl rfl rfl (by
            have := hbk'.out
            simp only [List.length_append, List.length_singleton, sumT_snoc]; omega))
          clear hS7
          go_wp2_with fail
          exact bodyPost_ret (v := .agg #[(.slice e1 t.cls.length f1), (.slice e' n' f'), (.slice e3 t.parts.length f3)]) (by simp [results, Tryz.results21, go_sem, r1, r2, r3]) rfl hfin.out
        · -- case 5
          clear q1 q2 q3 r1 r2 r3
          go_wp2_with fail
          go_loopw [11] (fun i wr => ∃ (k n' f' : Nat) (e' : Option Addr) (ps : List Thing), k ≤ 98 ∧ i = .int .i64 k ∧ sumN Thing.bulk ps = sumN Thing.bulk t.parts + k ∧ ps.length ≤ t.parts.length + k ∧
            Mem w H [boxT w.heap.size (.slice a1 t.cls.length c1) (.slice a2 t.vals.length c2) (.slice a3 t.parts.length c3), boxT (w.heap.size + 1) (.slice none 0 0) (.slice none 0 0) (.slice none 0 0), boxT (w.heap.size + 1 + 1) (.slice e1 t.cls.length f1) (.slice e2 t.vals.length f2) (.slice e' n' f'), ownI (.slice e1 t.cls.length f1) t.cls, ownV (.slice e2 t.vals.length f2) t.vals, ownT (.slice e' n' f') ps] H wr) (fun i _ => 98 - (intOf i).toNat)
          case atStart => exact ⟨0, _, _, _, _, by omega, rfl, by omega, by omega, hS⟩
          case round =>
            clear hS
            obtain ⟨k, n', f', e', ps, hk, rfl, hsum, hpl, hS⟩ := hrel
            obtain ⟨hz0, hz1⟩ := aroundV_range (n := by_) (m := 9) hby (by omega)
            go_wp2_with fail
            refine (around_c by_ 9 _ hby (by omega) (by omega)).mono ?_
            rintro e w6 ⟨rfl, hb6⟩
            replace hS := hS.ext hb6
            clear hb6
            generalize aroundV by_ 9 = z at *
            obtain ⟨q1, q2⟩ := (hS.box 2 rfl).facts
            have q3 := (hS.box 2 rfl).lt
            by_cases hlt : (k : Int) < 90 + z
            · have hH : ThingR H [.slice none 0 0, .slice none 0 0, .slice none 0 0] (.mk [] [] []) := by
                rw [thingR_iff]
                exact ⟨_, _, _, rfl, SliceRep.nil _ _ _, SliceRep.nil _ _ _, SliceRep.nil _ _ _⟩
              replace hH := Lib.hid hH
              go_wp2_with (at_builtin; refine wpList_append_M 5 rfl _ _ 39 rfl Tryz.underlying39 infoThing rfl rfl rfl ((hS.ext xE)) rfl (Src.lit1 (x := Thing.mk [] [] []) hH.out rfl (fun j => by simp [go_sem])) one_ThingR ?c3 ?c4 ?c5)
              case c3 => first | omega | (simp; done) | (simp; omega)
              case c4 => first | omega | (simp; done) | (simp; omega)
              case c5 =>
              intro v' w7 hS7
              clear hS q1 q2 q3
              obtain ⟨e7, n7, f7, rfl⟩ : ∃ e n f, v' = .slice e n f := by obtain ⟨e, f, h, -⟩ := hS7.form 5 rfl; exact ⟨e, _, f, h⟩
              obtain ⟨q1, q2⟩ := (hS7.box 2 rfl).facts
              have q3 := (hS7.box 2 rfl).lt
              go_wp2_with fail
              go_roundw
              case rel => exact ⟨k + 1, n7, f7, e7, ps ++ [Thing.mk [] [] []], by omega, by go_num, by rw [sumT_snoc, hsum]; simp [Thing.bulk, bulks]; omega, by simp; omega, hS7.set 2 rfl 2 (.slice e7 n7 f7)⟩
              case measure => simp [intOf]; omega
            · obtain ⟨r1, r2⟩ := (hS.box 1 rfl).facts
              have r3 := (hS.box 1 rfl).lt
              have hfin := Lib.hid ((((hS.set 1 rfl 0 (.slice e1 t.cls.length f1)).set 1 rfl 1 (.slice e2 t.vals.length f2)).set 1 rfl 2 (.slice e' n' f')).spoiltP (b := 2 * t.bulk + 200) 3 4 5 rfl rfl rfl (by
                have := hbk'.out
                omega))
              clear hS
              go_wp2_with fail
              exact bodyPost_ret (v := .agg #[.slice e1 t.cls.length f1, .slice e2 t.vals.length f2, .slice e' n' f']) (by simp [results, Tryz.results21, go_sem, r1, r2, r3]) rfl hfin.out
        · -- case 6
          clear q1 q2 q3 r1 r2 r3
          go_wp2_with fail
          go_loopw [13] (fun i wr => ∃ (k : Nat) (p : Thing) (x1 x2 x3 : Option Addr) (y1 y2 y3 z1 z2 z3 : Nat) (H' : PH), k ≤ 8 ∧ i = .int .i64 k ∧ p.bulk ≤ k + 1 ∧ ThingR H' [.slice x1 y1 z1, .slice x2 y2 z2, .slice x3 y3 z3] p ∧
            Mem w H [boxT w.heap.size (.slice a1 t.cls.length c1) (.slice a2 t.vals.length c2) (.slice a3 t.parts.length c3), boxT (w.heap.size + 1) (.slice none 0 0) (.slice none 0 0) (.slice none 0 0), boxT (w.heap.size + 1 + 1) (.slice e1 t.cls.length f1) (.slice e2 t.vals.length f2) (.slice e3 t.parts.length f3), ownI (.slice e1 t.cls.length f1) t.cls, ownV (.slice e2 t.vals.length f2) t.vals, ownT (.slice e3 t.parts.length f3) t.parts, boxT w5.heap.size (.slice x1 y1 z1) (.slice x2 y2 z2) (.slice x3 y3 z3)] H' wr) (fun i _ => 8 - (intOf i).toNat)
          case atStart =>
            refine ⟨0, .mk [] [] [], none, none, none, 0, 0, 0, 0, 0, 0, H, by omega, rfl, by simp [Thing.bulk, bulks], ?_, hS.new _ _⟩
            rw [thingR_iff]
            exact ⟨_, _, _, rfl, SliceRep.nil _ _ _, SliceRep.nil _ _ _, SliceRep.nil _ _ _⟩
          case round =>
            clear hS
            obtain ⟨k, p, x1, x2, x3, y1, y2, y3, z1, z2, z3, H', hk, rfl, hpb, hpR, hS⟩ := hrel
            obtain ⟨hz0, hz1⟩ := aroundV_range (n := by_) (m := 4) hby (by omega)
            go_wp2_with fail
            refine (around_c by_ 4 _ hby (by omega) (by omega)).mono ?_
            rintro e w6 ⟨rfl, hb6⟩
            replace hS := hS.ext hb6
            clear hb6
            generalize aroundV by_ 4 = z at *
            obtain ⟨q1, q2⟩ := (hS.box 6 rfl).facts
            have q3 := (hS.box 6 rfl).lt
            by_cases hlt : (k : Int) < 5 + z
            · obtain ⟨H2, hle, hS2, hcel⟩ := ((((hS.set 6 rfl 0 (.slice none 0 0)).set 6 rfl 1 (.slice none 0 0)).set 6 rfl 2 (.slice (some ⟨w6.heap.size, 0, none⟩) 1 1)).new' #[.slice x1 y1 z1, .slice x2 y2 z2, .slice x3 y3 z3] 41 (n := w6.heap.size) (by simp)).freezeB 7 rfl
              have hpR2 : ThingR H2 [.slice none 0 0, .slice none 0 0, .slice (some ⟨w6.heap.size, 0, none⟩) 1 1] (.mk [] [] [p]) := by
                rw [thingR_iff]
                refine ⟨_, _, _, rfl, SliceRep.nil _ _ _, SliceRep.nil _ _ _, _, 1, rfl, Nat.le_refl _, by simp [maxLen], .inr ⟨_, 0, rfl, ⟨_, rfl, fun j hj => ?_, mono_ThingR _ _ _ _ hle hpR⟩, trivial⟩⟩
                rw [hcel, Nat.zero_add]
                match j, hj with
                | 0, _ => rfl
                | 1, _ => rfl
                | 2, _ => rfl
              replace hpR2 := Lib.hid hpR2
              have hS3 := hS2.pick [0, 1, 2, 3, 4, 5, 6] (by decide)
              clear hS hS2 hcel hle hpR
              go_wp2_with fail
              go_roundw
              case rel => exact ⟨k + 1, .mk [] [] [p], none, none, some ⟨w6.heap.size, 0, none⟩, 0, 0, 1, 0, 0, 1, H2, by omega, by go_num, by simp [Thing.bulk, bulks]; omega, hpR2.out, hS3⟩
              case measure => simp [intOf]; omega
            · obtain ⟨r1, r2⟩ := (hS.box 2 rfl).facts
              have r3 := (hS.box 2 rfl).lt
              replace hpR := Lib.hid hpR
              go_wp2_with (at_builtin; refine wpList_append_M 5 rfl _ _ 39 rfl Tryz.underlying39 infoThing rfl rfl rfl ((hS.ext xE)) rfl (Src.lit1 (x := p) hpR.out rfl (fun j => by simp [go_sem])) one_ThingR ?c3 ?c4 ?c5)
              case c3 => first | omega | (simp; done) | (simp; omega)
              case c4 => first | omega | (simp; done) | (simp; omega)
              case c5 =>
              clear q1 q2 q3 r1 r2 r3 hS
              intro v' w7 hS7
              obtain ⟨e', n', f', rfl⟩ : ∃ e n f, v' = .slice e n f := by obtain ⟨e, f, h, -⟩ := hS7.form 5 rfl; exact ⟨e, _, f, h⟩
              obtain ⟨q1, q2⟩ := (hS7.box 2 rfl).facts
              have q3 := (hS7.box 2 rfl).lt
              obtain ⟨r1, r2⟩ := (hS7.box 1 rfl).facts
              have r3 := (hS7.box 1 rfl).lt
              have hfin := Lib.hid (((((hS7.set 2 rfl 2 (.slice e' n' f')).set 1 rfl 0 (.slice e1 t.cls.length f1)).set 1 rfl 1 (.slice e2 t.vals.length f2)).set 1 rfl 2 (.slice e' n' f')).spoiltP (b := 2 * t.bulk + 200) 3 4 5 rfl rfl rfl (by
                have := hbk'.out
                simp only [List.length_append, List.length_singleton, sumT_snoc]; omega))
              clear hS7
              go_wp2_with fail
              exact bodyPost_ret (v := .agg #[(.slice e1 t.cls.length f1), (.slice e2 t.vals.length f2), (.slice e' n' f')]) (by simp [results, Tryz.results21, go_sem, r1, r2, r3]) rfl hfin.out
        · -- case 7
          clear q1 q2 q3 r1 r2 r3
          go_wp2_with fail
          go_loopw [14] (fun i wr => ∃ (k : Nat) (xs : List Int), k ≤ t.cls.length ∧ i = .int .i64 k ∧ xs.length = t.cls.length ∧
            Mem w H [boxT w.heap.size (.slice a1 t.cls.length c1) (.slice a2 t.vals.length c2) (.slice a3 t.parts.length c3), boxT (w.heap.size + 1) (.slice none 0 0) (.slice none 0 0) (.slice none 0 0), boxT (w.heap.size + 1 + 1) (.slice e1 t.cls.length f1) (.slice e2 t.vals.length f2) (.slice e3 t.parts.length f3), ownI (.slice e1 t.cls.length f1) xs, ownV (.slice e2 t.vals.length f2) t.vals, ownT (.slice e3 t.parts.length f3) t.parts] H wr) (fun i _ => t.cls.length - (intOf i).toNat)
          case atStart => exact ⟨0, t.cls, by omega, rfl, rfl, hS⟩
          case round =>
            clear hS
            obtain ⟨k, xs, hk, rfl, hxl, hS⟩ := hrel
            replace hxl := Lib.hid hxl
            obtain ⟨q1, q2⟩ := (hS.box 2 rfl).facts
            have q3 := (hS.box 2 rfl).lt
            by_cases hlt : k < t.cls.length
            · obtain ⟨r1, r2⟩ := (hS.box 0 rfl).facts
              have r3 := (hS.box 0 rfl).lt
              obtain ⟨b, o, rfl, h0, hi64, hbl⟩ := IntsR.at (hc.mono mono_IntR hS.ple) (t.cls.length - 1 - k) (by omega)
              generalize t.cls[t.cls.length - 1 - k] = x at *
              have hw1 : IntKind.i64.wrap ((t.cls.length : Int) - 1) = (t.cls.length : Int) - 1 := by rw [IntKind.wrap_i64]; omega
              have hw2 : IntKind.i64.wrap ((t.cls.length : Int) - 1 - k) = (t.cls.length : Int) - 1 - k := by rw [IntKind.wrap_i64]; omega
              have hi1 : (k : Int) ≤ (t.cls.length : Int) - 1 := by omega
              have hi2 : (t.cls.length : Int) - 1 - k < t.cls.length := by omega
              have hi3 : ((t.cls.length : Int) - 1 - k).toNat = t.cls.length - 1 - k := by omega
              go_wp2_with fail
              (refine wp_region_I 13 (by kernel_rfl) (by kernel_rfl) ?_; simp only [List.toList_toArray, List.take_succ_cons, List.take_zero, List.drop_succ_cons, List.drop_zero])
              repeat ((refine wiA rfl (by simp) rfl ?_; (try simp only [List.nil_append, List.cons_append])))
              (refine walkI_nil ?_; simp only [List.nil_append, List.cons_append, fins, Is, forall_eq, Act.put, List.setIfInBounds_toArray, List.set_cons_zero, List.set_cons_succ])
              intro w6 hb6
              replace hS := hS.ext hb6
              have hkx := hxl.out
              rcases hS.asBox 3 rfl with ⟨-, h6⟩ | ⟨g', cap, cur, h6, h7, h8, h9, h10, hB⟩
              · rw [h6] at hkx; simp at hkx; omega
              injection h6 with h6 _ h6'
              subst h6 h6'
              clear hS hw1 hw2 hi1 hi2 hi3 q1 q2 q3 r1 r2 r3 h0 hbl
              have hcs : cur.size = f1 := by omega
              obtain ⟨x0, hx0⟩ : ∃ x, cur[k]? = some x := ⟨_, Array.getElem?_eq_getElem (by omega)⟩
              obtain ⟨q1, q2⟩ := (hB.box 3 rfl).facts
              have q3 := (hB.box 3 rfl).lt
              have hS := (hB.set 3 rfl k (.int .i64 x)).asOwn 3 (xs := xs.set k x) (n := f1) (sz := 1) rfl mono_IntR (by simpa using h7) h8 (by simpa using hcs) (by
                simp only [Array.toList_setIfInBounds, List.length_set]
                rw [List.take_set]
                exact Cells.set1 (by exact ⟨rfl, hi64⟩) k (by omega) h10)
              rw [List.length_set, hkx] at hS
              clear hkx hB
              go_wp2_with fail
              go_roundw
              case rel => exact ⟨k + 1, xs.set k x, by omega, by go_num, by rw [List.length_set]; exact hxl.out, hS⟩
              case measure => simp [intOf]; omega
            · obtain ⟨r1, r2⟩ := (hS.box 1 rfl).facts
              have r3 := (hS.box 1 rfl).lt
              have hfin := Lib.hid ((((hS.set 1 rfl 0 (.slice e1 t.cls.length f1)).set 1 rfl 1 (.slice e2 t.vals.length f2)).set 1 rfl 2 (.slice e3 t.parts.length f3)).spoiltP (b := 2 * t.bulk + 200) 3 4 5 rfl rfl rfl (by
                have := hbk'.out
                have := hxl.out
                omega))
              clear hS
              go_wp2_with fail
              exact bodyPost_ret (v := .agg #[.slice e1 t.cls.length f1, .slice e2 t.vals.length f2, .slice e3 t.parts.length f3]) (by simp [results, Tryz.results21, go_sem, r1, r2, r3]) rfl hfin.out
        · -- case 8
          go_wp2_with (at_builtin; refine wpList_append_M 4 rfl _ _ 38 rfl Tryz.underlying38 infoVal rfl rfl rfl (hS) rfl (hS.src 4 rfl) one_ValR ?c3 ?c4 ?c5)
          case c3 => first | omega | (simp; done) | (simp; omega)
          case c4 => first | omega | (simp; done) | (simp; omega)
          case c5 =>
          intro v' w6 hS6
          obtain ⟨e', n', f', rfl⟩ : ∃ e n f, v' = .slice e n f := by obtain ⟨e, f, h, -⟩ := hS6.form 4 rfl; exact ⟨e, _, f, h⟩
          clear q1 q2 q3 r1 r2 r3 hS
          obtain ⟨q1, q2⟩ := (hS6.box 2 rfl).facts
          have q3 := (hS6.box 2 rfl).lt
          have hS := hS6.set 2 rfl 1 (.slice e' n' f')
          go_wp2_with (at_builtin; refine wpList_append_M 3 rfl _ _ 22 rfl Tryz.underlying22 infoInt rfl rfl rfl (hS) rfl (hS.src 3 rfl) one_IntR ?c3 ?c4 ?c5)
          case c3 => first | omega | (simp; done) | (simp; omega)
          case c4 => first | omega | (simp; done) | (simp; omega)
          case c5 =>
          clear q1 q2 q3 hS hS6
          intro v' w7 hS7
          obtain ⟨e4, n4, f4, rfl⟩ : ∃ e n f, v' = .slice e n f := by obtain ⟨e, f, h, -⟩ := hS7.form 3 rfl; exact ⟨e, _, f, h⟩
          obtain ⟨q1, q2⟩ := (hS7.box 2 rfl).facts
          have q3 := (hS7.box 2 rfl).lt
          obtain ⟨r1, r2⟩ := (hS7.box 1 rfl).facts
          have r3 := (hS7.box 1 rfl).lt
          have hfin := Lib.hid (((((hS7.set 2 rfl 0 (.slice e4 n4 f4)).set 1 rfl 0 (.slice e4 n4 f4)).set 1 rfl 1 (.slice e' n' f')).set 1 rfl 2 (.slice e3 t.parts.length f3)).spoiltP (b := 2 * t.bulk + 200) 3 4 5 rfl rfl rfl (by
            have := hbk'.out
            simp only [List.length_append]; omega))
          clear hS7
          go_wp2_with fail
          exact bodyPost_ret (v := .agg #[.slice e4 n4 f4, .slice e' n' f', .slice e3 t.parts.length f3]) (by simp [results, Tryz.results21, go_sem, r1, r2, r3]) rfl hfin.out
end Go.Proofs.YtbpilielamjnoaaGreat
namespace Go.Proofs.YtbpilielamjnoaaGreat
open Go.RowKit Go.Shelf
attribute [local go_sem] Oper.semAt_some
set_option maxRecDepth 100000 in
set_option maxHeartbeats 4000000 in
theorem fholdsN_in (f : Fm) (t : Thing) (a3 a4 b1 b2 b3 : Option Addr) (c3 c4 d1 d2 d3 : Nat) (w : World) :
    CallsIn Fence.wide 7 Tryz.prog 22 #[.pointer none, .agg #[.int .i64 f.op, .int .i64 f.n, .slice a3 f.inn.length c3, .slice a4 f.kids.length c4], .agg #[.slice b1 t.cls.length d1, .slice b2 t.vals.length d2, .slice b3 t.parts.length d3]] w (HoldE w (false, 1)) := by
  have e5 : Ext w (((((w.alloc (.cells #[.pointer none] 33)).alloc (.cells #[.int .i64 f.op, .int .i64 f.n, .slice a3 f.inn.length c3, .slice a4 f.kids.length c4] 29)).alloc (.cells #[.slice b1 t.cls.length d1, .slice b2 t.vals.length d2, .slice b3 t.parts.length d3] 41)).alloc (.cells #[.bool false] 4)).alloc (.cells #[.int .i64 0] 25)) := xE
  have o3 : Own (((((w.alloc (.cells #[.pointer none] 33)).alloc (.cells #[.int .i64 f.op, .int .i64 f.n, .slice a3 f.inn.length c3, .slice a4 f.kids.length c4] 29)).alloc (.cells #[.slice b1 t.cls.length d1, .slice b2 t.vals.length d2, .slice b3 t.parts.length d3] 41)).alloc (.cells #[.bool false] 4)).alloc (.cells #[.int .i64 0] 25)) w.heap.size #[.pointer none] 33 := oE
  have o6 : Own (((((w.alloc (.cells #[.pointer none] 33)).alloc (.cells #[.int .i64 f.op, .int .i64 f.n, .slice a3 f.inn.length c3, .slice a4 f.kids.length c4] 29)).alloc (.cells #[.slice b1 t.cls.length d1, .slice b2 t.vals.length d2, .slice b3 t.parts.length d3] 41)).alloc (.cells #[.bool false] 4)).alloc (.cells #[.int .i64 0] 25)) (w.heap.size + 1 + 1 + 1) #[.bool false] 4 := oE
  have o7 : Own (((((w.alloc (.cells #[.pointer none] 33)).alloc (.cells #[.int .i64 f.op, .int .i64 f.n, .slice a3 f.inn.length c3, .slice a4 f.kids.length c4] 29)).alloc (.cells #[.slice b1 t.cls.length d1, .slice b2 t.vals.length d2, .slice b3 t.parts.length d3] 41)).alloc (.cells #[.bool false] 4)).alloc (.cells #[.int .i64 0] 25)) (w.heap.size + 1 + 1 + 1 + 1) #[.int .i64 0] 25 := oE
  refine callsIn_of_wp_marks Tryz.func22 rfl trivial ?_ rfl
  simp only [Tryz.ntmps22, List.size_toArray, List.length_cons, List.length_nil, Nat.reduceAdd, Nat.reduceSub, Array.replicate_succ, Array.replicate_zero, List.push_toArray, List.append_toArray, List.nil_append, List.cons_append]
  refine wpIn_wide.2 ?_
  go_upto_region 1 with (fail)
  generalize World.alloc _ _ = w5 at *
  have hgs := e5.size
  generalize hB7 : w.heap.size + 1 + 1 + 1 + 1 = g7 at *
  generalize hB6 : w.heap.size + 1 + 1 + 1 = g6 at *
  generalize hB5 : w.heap.size + 1 + 1 = g5 at *
  generalize hB4 : w.heap.size + 1 = g4 at *
  have y3 : w5.cell? ⟨w.heap.size, 0, none⟩ = some (.pointer none) := o3.facts.1 0
  have yl := o3.lt
  have e6 := o6.facts.2 0
  have e7 := o7.facts.2 0
  have c6 : w5.cell? ⟨g6, 0, none⟩ = some (.bool false) := o6.facts.1 0
  have c7 : w5.cell? ⟨g7, 0, none⟩ = some (.int .i64 0) := o7.facts.1 0
  have l6 := o6.lt
  have l7 := o7.lt
  have hne : g6 ≠ g7 := by omega
  have hl7 : w.heap.size ≤ g7 := by omega
  have hl6 : w.heap.size ≤ g6 := by omega
  have m6 := (o6.set 0 (.bool false)).setOther (p := ⟨g7, 0, none⟩) hne (.int .i64 1)
  have m7 := (o7.setOther (p := ⟨g6, 0, none⟩) (Ne.symm hne) (.bool false)).set 0 (.int .i64 1)
  have r6 := m6.facts.1 0
  have r7 := m7.facts.1 0
  simp at r6 r7
  go_wp2_with fail
  exact ⟨.tuple #[.bool false, .int .i64 1], by simp [results, Tryz.results22, go_sem, r6, r7], rfl, (e5.set' (p := ⟨g6, 0, none⟩) hl6 _).set' (p := ⟨g7, 0, none⟩) hl7 _⟩
def TIs (v : Value) (w : World) : Prop := ∃ (t : Thing) (b1 : Option Addr) (d1 : Nat) (b2 : Option Addr) (d2 : Nat) (b3 : Option Addr) (d3 : Nat), v = .agg #[.slice b1 t.cls.length d1, .slice b2 t.vals.length d2, .slice b3 t.parts.length d3] ∧
  ThingR (ph w) [.slice b1 t.cls.length d1, .slice b2 t.vals.length d2, .slice b3 t.parts.length d3] t ∧ t.bulk ≤ 50000
theorem stab_TIs {W : World} : Stable W TIs := fun v w w' _ ⟨t, b1, d1, b2, d2, b3, d3, h1, h2, h3⟩ e => ⟨t, b1, d1, b2, d2, b3, d3, h1, mono_ThingR _ _ _ _ e.ple h2, h3⟩
theorem TIs.of {w w' : World} {cs : List Value} {u : Thing} (h : ThingR (up (ph w) w w') cs u) (hx : Ext w w') (hb : u.bulk ≤ 50000) : TIs (.agg cs.toArray) w' := by
  replace h := mono_ThingR _ _ _ _ (up_ple (fun _ _ h => h) hx) h
  obtain ⟨b1, d1, b2, d2, b3, d3, rfl, -⟩ := h.form
  exact ⟨u, b1, d1, b2, d2, b3, d3, rfl, h, hb⟩
theorem things4 {w : World} {g : Nat} {T : TypeId} {v0 v1 v2 v3 v4 v5 v6 v7 v8 v9 va vb : Value} {a b c d : Thing} (ho : Own w g #[v0, v1, v2, v3, v4, v5, v6, v7, v8, v9, va, vb] T) (h1 : ThingR (ph w) [v0, v1, v2] a) (h2 : ThingR (ph w) [v3, v4, v5] b) (h3 : ThingR (ph w) [v6, v7, v8] c) (h4 : ThingR (ph w) [v9, va, vb] d) : ThingsR (ph w) (.slice (some ⟨g, 0, none⟩) 4 4) [a, b, c, d] := by
  refine ⟨_, 4, rfl, Nat.le_refl _, by simp [maxLen], .inr ⟨g, 0, rfl, ⟨[v0, v1, v2], rfl, fun j hj => ?_, h1⟩, ⟨[v3, v4, v5], rfl, fun j hj => ?_, h2⟩, ⟨[v6, v7, v8], rfl, fun j hj => ?_, h3⟩, ⟨[v9, va, vb], rfl, fun j hj => ?_, h4⟩, trivial⟩⟩
  all_goals
    rw [← cell_ph, ho.facts.1]
    rcases j with _ | _ | _ | j <;> first | rfl | omega
theorem thing0 (h : PH) : ThingR h [.slice none 0 0, .slice none 0 0, .slice none 0 0] (.mk [] [] []) := by
  rw [thingR_iff]
  exact ⟨_, _, _, rfl, SliceRep.nil _ _ _, SliceRep.nil _ _ _, SliceRep.nil _ _ _⟩
def TsIs (v : Value) (w : World) : Prop := ∃ ts : List Thing, ThingsR (ph w) v ts ∧ ts.length = 4 ∧ ∀ x ∈ ts, x.bulk ≤ 50000
theorem stab_TsIs {W : World} : Stable W TsIs := fun v w w' _ ⟨t, h1, h2, h3⟩ e => ⟨t, h1.mono mono_ThingR e.ple, h2, h3⟩
set_option maxRecDepth 100000 in
set_option maxHeartbeats 8000000 in
theorem formulaHoldsLaw (vl vm vk : Value) (l m k : List Int) (at' how by' : Int) (w : World) (hl : IntsR (ph w) vl l) (hm : IntsR (ph w) vm m) (hk : IntsR (ph w) vk k) (_ : l.length ≤ 140737488355328) (hml : m.length ≤ 140737488355328) (_ : k.length ≤ 140737488355328) (i1 : I64 at') (i2 : I64 how) (i3 : I64 by') :
    Calls Tryz.prog 4 #[vl, vm, vk, .int .i64 at', .int .i64 how, .int .i64 by'] w (RetV w (.bool true)) := by
  have hl0 := hl
  have hm0 := hm
  have hk0 := hk
  obtain ⟨xa, xc, rfl, -, -⟩ := hl.form
  obtain ⟨ya, yc, rfl, -, -⟩ := hm.form
  obtain ⟨za, zc, rfl, -, -⟩ := hk.form
  clear hl hm hk
  go_enter Tryz.func4, Tryz.ntmps4
  go_wp2_with fail
  refine (world7_c k _ w hk0).mono ?_
  rintro e w1 ⟨B, v, ps, rk, rfl, hx, hps, ok, hp6, hT⟩
  obtain ⟨pa, pc, rfl, -, -⟩ := id hps.form
  have hn0 := ok.pos
  have hn := ok.le
  replace ok := Lib.hid ok
  clear hk0
  have hs := some7_c l _ (ps.length : Int) at' how by' w1 (hl0.mono mono_IntR hx.ple) (by omega) (by omega) i1 i2 i3
  go_wp2_with fail
  refine hs.mono ?_
  rintro e w2 ⟨v, f, g, h, rfl, hx2, ⟨hL, lb, rfl⟩, hv, hw, hgb, hhb⟩
  have hb := valid_bulk hv
  replace hx := hx.then hx2
  replace hT := hT.keep hx2
  replace hps := hps.mono mono_IntsRow hx2.ple
  clear hs hx2 hv hw
  have hs := some07_q l _ 7 9 3 4 w2 rfl (hl0.mono mono_IntR hx.ple) (by omega) (by omega) (by omega) (by omega) (by omega)
  go_wp2_with fail
  refine hs.mono ?_
  rintro e w3 ⟨p, p3, q3, p4, q4, rfl, hx3, hP, -, -, -, hpv⟩
  have hpb := valid_bulk hpv
  replace hx := hx.then hx3
  replace hT := hT.keep hx3
  replace hps := hps.mono mono_IntsRow hx3.ple
  replace hL := hL.mono mono_FmR hx3.ple
  clear hs hx3 hpv hl0
  have hPQ := litN (w := w3) [⟨p, p3, q3, p4, q4, hP⟩] (by simp)
  have e4 := Ext.new w3 (.cells (fmC p p3 q3 p4 q4).toArray 29)
  replace hPQ : FmsR (ph (w3.alloc (.cells (fmC p p3 q3 p4 q4).toArray 29))) (.slice (some ⟨w3.heap.size, 0, none⟩) 1 1) [p] := hPQ
  unfold fmC at e4 hPQ
  replace hL := hL.mono mono_FmR e4.ple
  replace hx := hx.then e4
  replace hT := hT.keep e4
  replace hps := hps.mono mono_IntsRow e4.ple
  clear hP
  go_wp2_with (first | (at_builtin; refine wpList_append_F mono_FmR rfl _ _ 23 rfl Tryz.underlying23 infoFm rfl rfl rfl rfl hL hPQ (by simp) (by simp) (by simp) (by simp) ?c5))
  case c5 =>
  intro v' w5 hx5 hL5
  replace hL5 : FmsR (ph w5) v' [f, g, h, p] := hL5
  replace hx := hx.then hx5
  replace hT := hT.keep hx5
  replace hps := hps.mono mono_IntsRow hx5.ple
  have hall : ∀ x : Fm, x ∈ [f, g, h, p] → x.bulk ≤ 15000 := by
    intro x hx
    simp only [List.mem_cons, List.not_mem_nil, or_false] at hx
    rcases hx with rfl | rfl | rfl | rfl <;> omega
  have hl5 : ([f, g, h, p]).length ≤ 4 := by simp
  have hl6 : 0 < ([f, g, h, p]).length := by simp
  generalize [f, g, h, p] = L at *
  clear hL hPQ hx5 e4 hb hgb hhb hpb
  obtain ⟨la, lc, rfl, -, hL⟩ := id hL5.form
  clear hL5
  replace hall := Lib.hid hall
  have hth := thingW_c m _ (ps.length : Int) 4 4 w5 rfl (by omega) (by omega) hml (hm0.mono mono_IntR hx.ple) (by omega) (by omega)
  go_wp2_with fail
  refine hth.mono ?_
  rintro e w6 ⟨t, b1, d1, b2, d2, b3, d3, rfl, hx6, hD, -, -, -, htb, -⟩
  have e6 := Ext.new w6 (.cells #[.slice b1 t.cls.length d1, .slice b2 t.vals.length d2, .slice b3 t.parts.length d3] 41)
  have o16 := Own.new w6 #[.slice b1 t.cls.length d1, .slice b2 t.vals.length d2, .slice b3 t.parts.length d3] 41
  replace hx6 := hx6.then e6
  replace hD := mono_ThingR _ _ _ _ e6.ple hD
  replace hx := hx.then hx6
  replace hT := hT.keep hx6
  replace hps := hps.mono mono_IntsRow hx6.ple
  replace hL := hL.mono mono_FmR hx6.ple
  replace hm0 := hm0.mono mono_IntR hx.ple
  clear hth
  go_upto_region 7 with (fail)
  generalize w6.alloc _ = W at *
  generalize w6.heap.size = g16 at *
  clear e6 hx6
  have y0 : (W).cell? ⟨g16, 0, none⟩ = some (.slice b1 t.cls.length d1) := (o16).facts.1 0
  have y1 : (W).cell? ⟨g16, 1, none⟩ = some (.slice b2 t.vals.length d2) := (o16).facts.1 1
  have y2 : (W).cell? ⟨g16, 2, none⟩ = some (.slice b3 t.parts.length d3) := (o16).facts.1 2
  have yl := (o16).lt
  (refine wp_region_I 11 (by kernel_rfl) (by kernel_rfl) ?_; simp only [List.toList_toArray, List.take_succ_cons, List.take_zero, List.drop_succ_cons, List.drop_zero])
  iterate 5 (refine wiA rfl (by simp) rfl ?_; (try simp only [List.nil_append, List.cons_append]))
  (refine walkI_step (TIs) rfl (by simp) rfl (stab_TIs) ?_ ?_; (focus (intro A w' hS hA K hK; (simp only [List.map_cons, List.map_nil, knows, Is, Op.operands, Call.operands, List.lookup_cons, List.lookup_nil, Nat.reduceBEq, Bool.false_eq_true, if_false, if_true, Act.eval, Array.getD_eq_getD_getElem?, List.getElem?_toArray, List.getElem?_cons_succ, List.getElem?_cons_zero, Option.getD_some, and_true, true_and, List.append_toArray, List.nil_append, List.cons_append, List.toList_toArray, Array.toList_append, Option.toArray, List.append_nil] at hA); (go_simp; refine (spoilt_c t (ph _) _ at' how by' _ (PLe.refl _) (mono_ThingR _ _ _ _ hS.ple hD) i1 i2 i3 (by omega)).mono ?_; rintro e w9 ⟨cs, u, rfl, hu, hub, hx9⟩; exact hK _ _ hx9 (TIs.of hu hx9 (by omega))))); (try simp only [List.nil_append, List.cons_append]))
  (refine wiA rfl (by simp) rfl ?_; (try simp only [List.nil_append, List.cons_append]))
  (refine walkI_step (TIs) rfl (by simp) rfl (stab_TIs) ?_ ?_; (focus (intro A w' hS hA K hK; (simp only [List.map_cons, List.map_nil, knows, Is, Op.operands, Call.operands, List.lookup_cons, List.lookup_nil, Nat.reduceBEq, Bool.false_eq_true, if_false, if_true, Act.eval, Array.getD_eq_getD_getElem?, List.getElem?_toArray, List.getElem?_cons_succ, List.getElem?_cons_zero, Option.getD_some, and_true, true_and, List.append_toArray, List.nil_append, List.cons_append, List.toList_toArray, Array.toList_append, Option.toArray, List.append_nil] at hA); (go_simp; refine (thingW_c m _ 7 3 3 _ rfl (by omega) (by omega) hml (hm0.mono mono_IntR hS.ple) (by omega) (by omega)).mono ?_; rintro e w9 ⟨u, p1, r1, p2, r2, p3', r3, rfl, hx9, hu, -, -, -, hub, -⟩; exact hK _ _ hx9 ⟨u, p1, r1, p2, r2, p3', r3, rfl, hu, by omega⟩))); (try simp only [List.nil_append, List.cons_append]))
  (refine wiA rfl (by simp) rfl ?_; (try simp only [List.nil_append, List.cons_append]))
  (refine walkI_step (TsIs) rfl (by simp) rfl (stab_TsIs) ?_ ?_; (focus (intro A w' hS hA K hK; (simp only [List.map_cons, List.map_nil, knows, Is, Op.operands, Call.operands, List.lookup_cons, List.lookup_nil, Nat.reduceBEq, Bool.false_eq_true, if_false, if_true, Act.eval, Array.getD_eq_getD_getElem?, List.getElem?_toArray, List.getElem?_cons_succ, List.getElem?_cons_zero, Option.getD_some, and_true, true_and, List.append_toArray, List.nil_append, List.cons_append, List.toList_toArray, Array.toList_append, Option.toArray, List.append_nil] at hA); (obtain ⟨hA1, ⟨u, p1, r1, p2, r2, p3', r3, hA2, hu, hub⟩, ⟨u', p1', r1', p2', r2', p3'', r3', hA3, hu', hub'⟩, hA4⟩ := hA; go_simp; exact hK _ _ (Ext.new _ _) ⟨[t, u, u', .mk [] [] []], things4 (Own.new _ _ _) (mono_ThingR _ _ _ _ (hS.then (Ext.new _ _)).ple hD) (mono_ThingR _ _ _ _ (Ext.new _ _).ple hu) (mono_ThingR _ _ _ _ (Ext.new _ _).ple hu') (thing0 _), rfl, by intro x hx; simp only [List.mem_cons, List.not_mem_nil, or_false] at hx; rcases hx with rfl | rfl | rfl | rfl <;> first | omega | (rw [Thing.bulk_eq]; simp [Thing.cls, Thing.vals, Thing.parts, sumN])⟩))); (try simp only [List.nil_append, List.cons_append]))
  (refine walkI_step (TsIs) rfl (by simp) rfl (stab_TsIs) ?_ ?_; (focus (intro A w' hS hA K hK; (simp only [List.map_cons, List.map_nil, knows, Is, Op.operands, Call.operands, List.lookup_cons, List.lookup_nil, Nat.reduceBEq, Bool.false_eq_true, if_false, if_true, Act.eval, Array.getD_eq_getD_getElem?, List.getElem?_toArray, List.getElem?_cons_succ, List.getElem?_cons_zero, Option.getD_some, and_true, true_and, List.append_toArray, List.nil_append, List.cons_append, List.toList_toArray, Array.toList_append, Option.toArray, List.append_nil] at hA); (go_simp; exact hK _ _ (Ext.rfl' _) hA))); (try simp only [List.nil_append, List.cons_append]))
  (refine walkI_nil ?_; simp only [List.nil_append, List.cons_append, fins, Is, forall_eq, Act.put, List.setIfInBounds_toArray, List.set_cons_zero, List.set_cons_succ])
  rintro W2 hx7 v54 - v56 - v58 - v17 ⟨ts, hTs, htl, htsb⟩
  obtain ⟨ta, tc, rfl, -, hTs⟩ := id hTs.form
  replace hx := hx.then hx7
  replace hT := hT.keep hx7
  replace hps := hps.mono mono_IntsRow hx7.ple
  replace hL := hL.mono mono_FmR hx7.ple
  replace o16 := o16.keep hx7
  replace htl := Nat.le_of_eq htl
  replace htsb := Lib.hid htsb
  clear y0 y1 y2 yl hD hm0 hx7
  go_wp2_with fail
  go_loopw [18] (fun i wr => ∃ k : Nat, k ≤ L.length ∧ i = .int .i64 k ∧ Ext W2 wr) (fun i _ => L.length - (intOf i).toNat)
  case atStart => exact ⟨0, by omega, rfl, Ext.rfl' _⟩
  case round =>
    obtain ⟨k, hk, rfl, hr⟩ := hrel
    by_cases hlt : k < L.length
    · have hd1 : decide (k < L.length) = true := decide_eq_true hlt
      clear hl6
      go_wp2_with fail
      go_loopw [19] (fun i wq => ∃ j : Nat, j ≤ ts.length ∧ i = .int .i64 j ∧ Ext W2 wq) (fun i _ => ts.length - (intOf i).toNat)
      case atStart => exact ⟨0, by omega, rfl, hr⟩
      case round =>
        clear hr
        obtain ⟨j, hj, rfl, hr⟩ := hrel
        by_cases hlt2 : j < ts.length
        · have hd2 : decide (j < ts.length) = true := decide_eq_true hlt2
          obtain ⟨jb, jo, a3, c3, a4, c4, ej, x0, x1, x2, x3, hE, xl⟩ := FmsR.at (hL.mono mono_FmR hr.ple) k hlt
          cases ej
          obtain ⟨ub, uo, r1, s1, r2, s2, r3, s3, ek, z0, z1, z2, hU, zl⟩ := ThingsR.at (hTs.mono mono_ThingR hr.ple) j hlt2
          cases ek
          have hbx := hall.out _ (List.getElem_mem hlt)
          have hbt := htsb.out _ (List.getElem_mem hlt2)
          generalize L[k] = x at *
          generalize ts[j] = u at *
          have hc1 := fun W (e : Ext wr W) => fholdsE_c hn B x u _ _ W (hT.keep (hr.then e)) (mono_FmR _ _ _ _ e.ple hE) (mono_ThingR _ _ _ _ e.ple hU) (by omega) (by omega)
          have hc2 := fun W (e : Ext wr W) => rholds_c ok.out _ x u _ _ W (hps.mono mono_IntsRow (hr.then e).ple) (mono_FmR _ _ _ _ e.ple hE) (mono_ThingR _ _ _ _ e.ple hU) (by omega) (by omega)
          obtain ⟨R1, hR1⟩ : ∃ z, holdE ps x u = z := ⟨_, rfl⟩
          rw [hR1] at hc1 hc2
          obtain ⟨ra, re⟩ := R1
          have n1 : (ra != ra) = false := by simp
          have n2 : (re != re) = false := by simp
          unfold fmC HoldE at hc1 hc2
          dsimp only at hc1 hc2
          replace hc1 := Lib.hid hc1
          replace hc2 := Lib.hid hc2
          clear hR1 hE hU hbx hbt
          go_upto_region 14 with (fail)
          (refine wp_region_I 15 (by kernel_rfl) (by kernel_rfl) ?_; simp only [List.toList_toArray, List.take_succ_cons, List.take_zero, List.drop_succ_cons, List.drop_zero])
          iterate 9 (refine wiA rfl (by simp) rfl ?_; (try simp only [List.nil_append, List.cons_append]))
          (refine walkI_is (u := ?_) rfl (by simp) rfl ?_ ?_; rotate_left; (focus (intro A w' hS hA K hK; (simp only [List.map_cons, List.map_nil, knows, Is, Op.operands, Call.operands, List.lookup_cons, List.lookup_nil, Nat.reduceBEq, Bool.false_eq_true, if_false, if_true, Act.eval, Array.getD_eq_getD_getElem?, List.getElem?_toArray, List.getElem?_cons_succ, List.getElem?_cons_zero, Option.getD_some, and_true, true_and, List.append_toArray, List.nil_append, List.cons_append, List.toList_toArray, Array.toList_append, Option.toArray, List.append_nil] at hA); first | (go_simp; refine (hc1.out _ hS).mono ?_; rintro e w9 ⟨rfl, hx9⟩; exact hK _ hx9) | (obtain ⟨hSc, hSf, hSs⟩ := hS.cells; go_simp; exact hK _ xN))); (try simp only [List.nil_append, List.cons_append]))
          iterate 5 (refine wiA rfl (by simp) rfl ?_; (try simp only [List.nil_append, List.cons_append]))
          (refine walkI_nil ?_; simp only [List.nil_append, List.cons_append, fins, Is, forall_eq, Act.put, List.setIfInBounds_toArray, List.set_cons_zero, List.set_cons_succ])
          intro W3 hx3
          replace x0 := (hx3).cell1 x0
          replace x1 := (hx3).cell1 x1
          replace x2 := (hx3).cell1 x2
          replace x3 := (hx3).cell1 x3
          replace xl := cell_lt x0
          replace z0 := (hx3).cell1 z0
          replace z1 := (hx3).cell1 z1
          replace z2 := (hx3).cell1 z2
          replace zl := cell_lt z0
          replace hc2 := Lib.hid (fun W (e : Ext W3 W) => hc2.out W (hx3.then e))
          replace hr := hr.then hx3
          clear hx3 hc1
          go_upto_region 15 with (fail)
          (refine wp_region_I 15 (by kernel_rfl) (by kernel_rfl) ?_; simp only [List.toList_toArray, List.take_succ_cons, List.take_zero, List.drop_succ_cons, List.drop_zero])
          iterate 9 (refine wiA rfl (by simp) rfl ?_; (try simp only [List.nil_append, List.cons_append]))
          (refine walkI_is (u := ?_) rfl (by simp) rfl ?_ ?_; rotate_left; (focus (intro A w' hS hA K hK; (simp only [List.map_cons, List.map_nil, knows, Is, Op.operands, Call.operands, List.lookup_cons, List.lookup_nil, Nat.reduceBEq, Bool.false_eq_true, if_false, if_true, Act.eval, Array.getD_eq_getD_getElem?, List.getElem?_toArray, List.getElem?_cons_succ, List.getElem?_cons_zero, Option.getD_some, and_true, true_and, List.append_toArray, List.nil_append, List.cons_append, List.toList_toArray, Array.toList_append, Option.toArray, List.append_nil] at hA); first | (go_simp; refine (hc2.out _ hS).mono ?_; rintro e w9 ⟨rfl, hx9⟩; exact hK _ hx9) | (obtain ⟨hSc, hSf, hSs⟩ := hS.cells; go_simp; exact hK _ xN))); (try simp only [List.nil_append, List.cons_append]))
          iterate 5 (refine wiA rfl (by simp) rfl ?_; (try simp only [List.nil_append, List.cons_append]))
          (refine walkI_nil ?_; simp only [List.nil_append, List.cons_append, fins, Is, forall_eq, Act.put, List.setIfInBounds_toArray, List.set_cons_zero, List.set_cons_succ])
          intro W4 hx4
          replace hr := hr.then hx4
          clear hx4 hc2 x0 x1 x2 x3 xl z0 z1 z2 zl
          go_wp2_with fail
          go_roundw
          case rel => exact ⟨j + 1, by omega, by go_num, hr⟩
          case measure => simp [intOf]; omega
        · have hd2 : decide (j < ts.length) = false := decide_eq_false hlt2
          go_wp2_with fail
          go_roundw
          case rel => exact ⟨k + 1, by omega, by go_num, hr⟩
          case measure => simp [intOf]; omega
    · have hd1 : decide (k < L.length) = false := decide_eq_false hlt
      obtain ⟨jb, jo, a3, c3, a4, c4, ej, x0, x1, x2, x3, hE, xl⟩ := FmsR.at (hL.mono mono_FmR hr.ple) 0 hl6
      cases ej
      generalize L[0] = x at *
      simp only [Nat.zero_mul, Nat.add_zero] at x0 x1 x2 x3
      replace o16 := o16.keep hr
      have y0 : (wr).cell? ⟨g16, 0, none⟩ = some (.slice b1 t.cls.length d1) := (o16).facts.1 0
      have y1 : (wr).cell? ⟨g16, 1, none⟩ = some (.slice b2 t.vals.length d2) := (o16).facts.1 1
      have y2 : (wr).cell? ⟨g16, 2, none⟩ = some (.slice b3 t.parts.length d3) := (o16).facts.1 2
      have yl := (o16).lt
      have hc1 := Lib.hid (fun W => (callsIn_wide (n := 7)).1 (fholdsN_in x t a3 a4 b1 b2 b3 c3 c4 d1 d2 d3 W))
      have n3 : ((1 : Int) == 1) = true := rfl
      clear hE
      go_upto_region 18 with (fail)
      (refine wp_region_I 10 (by kernel_rfl) (by kernel_rfl) ?_; simp only [List.toList_toArray, List.take_succ_cons, List.take_zero, List.drop_succ_cons, List.drop_zero])
      iterate 4 (refine wiA rfl (by simp) rfl ?_; (try simp only [List.nil_append, List.cons_append]))
      (refine walkI_is (u := ?_) rfl (by simp) rfl ?_ ?_; rotate_left; (focus (intro A w' hS hA K hK; (simp only [List.map_cons, List.map_nil, knows, Is, Op.operands, Call.operands, List.lookup_cons, List.lookup_nil, Nat.reduceBEq, Bool.false_eq_true, if_false, if_true, Act.eval, Array.getD_eq_getD_getElem?, List.getElem?_toArray, List.getElem?_cons_succ, List.getElem?_cons_zero, Option.getD_some, and_true, true_and, List.append_toArray, List.nil_append, List.cons_append, List.toList_toArray, Array.toList_append, Option.toArray, List.append_nil] at hA); first | (go_simp; refine (hc1.out _).mono ?_; rintro e w9 ⟨rfl, hx9⟩; exact hK _ hx9) | (obtain ⟨hSc, hSf, hSs⟩ := hS.cells; go_simp; exact hK _ xN))); (try simp only [List.nil_append, List.cons_append]))
      iterate 5 (refine wiA rfl (by simp) rfl ?_; (try simp only [List.nil_append, List.cons_append]))
      (refine walkI_nil ?_; simp only [List.nil_append, List.cons_append, fins, Is, forall_eq, Act.put, List.setIfInBounds_toArray, List.set_cons_zero, List.set_cons_succ])
      intro W5 hx5
      clear x0 x1 x2 x3 xl y0 y1 y2 yl hc1
      go_wp2_with fail
      refine RetV_at (lives07_c _) ?_
      intro W6 hx6
      go_wp2_with fail
      go_ret
      exact ⟨rfl, ((hx.then hr).then hx5).then hx6⟩
end Go.Proofs.YtbpilielamjnoaaGreat
