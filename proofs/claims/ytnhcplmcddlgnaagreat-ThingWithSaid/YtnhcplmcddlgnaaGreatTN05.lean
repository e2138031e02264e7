/- priorartref06.Spoilt: it returns some thing, of bounded bulk.; Size and Deep of both sides.; three fresh blocks of different types join one's own; the cells of a thing's box. -/
import Derived.Test.YtnhcplmcddlgnaaGreatTN00
import Derived.Test.YtnhcplmcddlgnaaGreatTN02
import Derived.Test.YtnhcplmcddlgnaaGreatTN03
import Derived.Test.YtnhcplmcddlgnaaGreatTN04
namespace Go.Proofs.YtnhcplmcddlgnaaGreat
open Go.RowKit
set_option linter.unusedSimpArgs false
set_option linter.unusedVariables false
/-- some thing, new or made of what was there, of bulk at most b comes back -/
def SpoiltP (H : PH) (w : World) (b : Nat) (e : Ending) (w' : World) : Prop := ∃ (cs : List Value) (t : Thing), e = .returned (.agg cs.toArray) ∧ ThingR (up H w w') cs t ∧ t.bulk ≤ b ∧ Ext w w'
abbrev ownI (v : Value) (xs : List Int) : Chunk := own mono_IntR 1 3 v xs
abbrev ownV (v : Value) (xs : List Val) : Chunk := own mono_ValR 3 46 v xs
abbrev ownT (v : Value) (xs : List Thing) : Chunk := own mono_ThingR 3 27 v xs
abbrev boxT (b : Nat) (v1 v2 v3 : Value) : Chunk := box b #[v1, v2, v3] 27
theorem i64_tdiv {n k : Int} (hk : 0 < k) (h : I64 n) : I64 (n.tdiv k) := by
  unfold I64 at *
  have h1 := Int.natAbs_tdiv_le_natAbs n k
  by_cases h0 : 0 ≤ n
  · have := Int.tdiv_nonneg h0 (Int.le_of_lt hk); omega
  · have h2 : n.tdiv k ≤ 0 := by
      have := Int.tdiv_nonneg (a := -n) (b := k) (by omega) (by omega)
      rw [Int.neg_tdiv] at this; omega
    omega
theorem wrap_tdiv {n k : Int} (hk : 0 < k) (h : I64 n) : IntKind.i64.wrap (n.tdiv k) = n.tdiv k := by
  have := i64_tdiv hk h
  unfold I64 at this
  rw [IntKind.wrap_i64]; omega
theorem sumN_set {α : Type} (f : α → Nat) : ∀ (l : List α) (k : Nat) (x : α) (h : k < l.length), sumN f (l.set k x) + f l[k] = sumN f l + f x
  | y :: l, 0, x, _ => by simp [sumN]; omega
  | y :: l, k + 1, x, h => by
    have := sumN_set f l k x (by simpa using h)
    simp only [List.set_cons_succ, sumN, List.getElem_cons_succ] at *; omega
theorem Mem.getT {w0 w : World} {H0 H : PH} {L : List Chunk} {v : Value} {xs : List Thing} (h : Mem w0 H0 L H w) (i : Nat) (hi : L[i]? = some (ownT v xs)) (k : Nat) (hk : k < xs.length) :
    ∃ g cap a1 c1 a2 c2 a3 c3, v = .slice (some ⟨g, 0, none⟩) xs.length cap ∧ w.cell? ⟨g, k * 3, none⟩ = some (.slice a1 xs[k].cls.length c1) ∧ w.cell? ⟨g, k * 3 + 1, none⟩ = some (.slice a2 xs[k].vals.length c2) ∧
      w.cell? ⟨g, k * 3 + 2, none⟩ = some (.slice a3 xs[k].parts.length c3) ∧ ThingR H [.slice a1 xs[k].cls.length c1, .slice a2 xs[k].vals.length c2, .slice a3 xs[k].parts.length c3] xs[k] ∧ g < w.heap.size := by
  obtain ⟨g, cap, cs, h1, h2, h3, h4, h5⟩ := h.get i hi k hk
  obtain ⟨a1, c1, a2, c2, a3, c3, rfl, -⟩ := h4.form
  exact ⟨g, cap, a1, c1, a2, c2, a3, c3, h1, h3 0 (by omega), h3 1 (by omega), h3 2 (by omega), h4, h5⟩
theorem take_set3 {n k : Nat} {c : List Value} {u v t : Value} : (((c.set k u).set (k + 1) v).set (k + 2) t).take n = (((c.take n).set k u).set (k + 1) v).set (k + 2) t := by
  rw [List.take_set, List.take_set, List.take_set]
/-- a new thing of what is read and what is one's own -/
theorem Mem.thing {w0 w : World} {H0 H : PH} {L : List Chunk} (h : Mem w0 H0 L H w) (i1 i2 i3 : Nat) {v1 v2 v3 : Value} {c : List Int} {v : List Val} {p : List Thing} (g1 : L[i1]? = some (ownI v1 c)) (g2 : L[i2]? = some (ownV v2 v)) (g3 : L[i3]? = some (ownT v3 p)) : ThingR (Proofs.YtnhcplmcddlgnaaGreat.up H0 w0 w) [v1, v2, v3] (.mk c v p) := by
  rw [thingR_iff]
  exact ⟨v1, v2, v3, rfl, h.repUp i1 g1, h.repUp i2 g2, h.repUp i3 g3⟩
/-- three slices in a box and in another one, as an end -/
theorem Mem.spoiltP {w0 w : World} {H0 H : PH} {L : List Chunk} {b : Nat} (h : Mem w0 H0 L H w) (i1 i2 i3 : Nat) {v1 v2 v3 : Value} {c : List Int} {v : List Val} {p : List Thing} (g1 : L[i1]? = some (ownI v1 c)) (g2 : L[i2]? = some (ownV v2 v)) (g3 : L[i3]? = some (ownT v3 p)) (hb : 1 + c.length + v.length + sumN Thing.bulk p ≤ b) :
    SpoiltP H0 w0 b (.returned (.agg #[v1, v2, v3])) w :=
  ⟨[v1, v2, v3], .mk c v p, rfl, h.thing i1 i2 i3 g1 g2 g3, by rw [Thing.bulk_eq]; exact hb, h.ex⟩
/-- an array of integers of one's own; a place in it; an integer; an array of one -/
def ArrAt (arr : Array Value) (n : Nat) : Prop1 := fun v w => ∃ g, v = .slice (some ⟨g, 0, none⟩) n n ∧ Own w g arr 3
def PtrAt (arr : Array Value) (q : Nat) : Prop1 := fun v w => ∃ g, v = .pointer (some ⟨g, q, none⟩) ∧ Own w g arr 3
def OneInt : Prop1 := fun v w => ∃ g n, v = .slice (some ⟨g, 0, none⟩) 1 1 ∧ Own w g #[.int .i64 n] 3 ∧ I64 n
theorem stab_ArrAt {W : World} (arr : Array Value) (n : Nat) : Stable W (ArrAt arr n) := fun v w w' _ ⟨g, h1, h2⟩ e => ⟨g, h1, h2.keep e⟩
theorem stab_PtrAt {W : World} (arr : Array Value) (n : Nat) : Stable W (PtrAt arr n) := fun v w w' _ ⟨g, h1, h2⟩ e => ⟨g, h1, h2.keep e⟩
theorem stab_OneInt {W : World} : Stable W OneInt := fun v w w' _ ⟨g, n, h1, h2, h3⟩ e => ⟨g, n, h1, h2.keep e, h3⟩
def OneVal : Prop1 := fun v w => ∃ (g : Nat) (x : Val), v = .slice (some ⟨g, 0, none⟩) 1 1 ∧ Own w g #[.int .i64 x.attr, .int .i64 x.n.num, .int .i64 x.n.den] 46 ∧ I64 x.attr ∧ I64 x.n.num ∧ I64 x.n.den
theorem stab_OneVal {W : World} : Stable W OneVal := fun v w w' _ ⟨g, n, h1, h2, h3⟩ e => ⟨g, n, h1, h2.keep e, h3⟩
theorem five_ints {a b c d e : Int} (ha : I64 a) (hb : I64 b) (hc : I64 c) (hd : I64 d) (he : I64 e) (q : Nat) (hq : q < 5) : ∃ n, (#[.int .i64 a, .int .i64 b, .int .i64 c, .int .i64 d, .int .i64 e] : Array Value)[q]? = some (.int .i64 n) ∧ I64 n := by
  match q, hq with
  | 0, _ => exact ⟨_, rfl, ha⟩
  | 1, _ => exact ⟨_, rfl, hb⟩
  | 2, _ => exact ⟨_, rfl, hc⟩
  | 3, _ => exact ⟨_, rfl, hd⟩
  | 4, _ => exact ⟨_, rfl, he⟩
theorem four_ints {a b c d : Int} (ha : I64 a) (hb : I64 b) (hc : I64 c) (hd : I64 d) (q : Nat) (hq : q < 4) : ∃ n, (#[.int .i64 a, .int .i64 b, .int .i64 c, .int .i64 d] : Array Value)[q]? = some (.int .i64 n) ∧ I64 n := by
  match q, hq with
  | 0, _ => exact ⟨_, rfl, ha⟩
  | 1, _ => exact ⟨_, rfl, hb⟩
  | 2, _ => exact ⟨_, rfl, hc⟩
  | 3, _ => exact ⟨_, rfl, hd⟩
set_option maxRecDepth 100000 in
set_option maxHeartbeats 2000000 in
theorem spoilt_c (t : Thing) : ∀ (H : PH) (cs : List Value) (at_ how by_ : Int) (w : World), PLe H (ph w) → ThingR H cs t → I64 at_ → I64 how → I64 by_ → t.bulk ≤ 1000000 →
    Calls Tryz.prog 17 #[.agg cs.toArray, .int .i64 at_, .int .i64 how, .int .i64 by_] w (SpoiltP H w (2 * t.bulk + 200)) := by
  induction t using Thing.ind with
  | h t ih =>
    intro H cs at_ how by_ w hP hr hat hhow hby hbk
    obtain ⟨a1, c1, a2, c2, a3, c3, rfl, l1, l2, l3, hc, hv, hp⟩ := hr.form
    have HI := Lib.hid ih; clear ih
    have hbk' := Lib.hid (Thing.bulk_eq t)
    have hb1 : t.cls.length ≤ 1000000 := by have := hbk'.out; omega
    have hb2 : t.vals.length ≤ 1000000 := by have := hbk'.out; omega
    have hb3 : t.parts.length ≤ 1000000 := by have := t.parts_le; omega
    have hS : Mem w H [boxT w.heap.size (.slice a1 t.cls.length c1) (.slice a2 t.vals.length c2) (.slice a3 t.parts.length c3), boxT (w.heap.size + 1) (.slice none 0 0) (.slice none 0 0) (.slice none 0 0), boxT (w.heap.size + 1 + 1) (.slice none 0 0) (.slice none 0 0) (.slice none 0 0), ownI (.slice none 0 0) [], ownV (.slice none 0 0) [], ownT (.slice none 0 0) []] H _ :=
      ((((((Mem.start w H hP).new #[.slice a1 t.cls.length c1, .slice a2 t.vals.length c2, .slice a3 t.parts.length c3] 27).new' zeroT 27 (n := w.heap.size + 1) (by simp)).new' zeroT 27 (n := w.heap.size + 1 + 1) (by simp)).nil mono_IntR 1 3).nil mono_ValR 3 46).nil mono_ThingR 3 27
    go_enter Tryz.func17, Tryz.ntmps17
    go_wp2_with (at_builtin; refine wpList_append_M 3 rfl _ _ 22 rfl Tryz.underlying22 infoInt rfl rfl rfl (hS) rfl (Src.ofRep hc hS.ple) one_IntR ?c3 ?c4 ?c5)
    case c3 => first | omega | (simp; done) | (simp; omega)
    case c4 => first | omega | (simp; done) | (simp; omega)
    case c5 =>
    intro v1 w1 hS1
    obtain ⟨e1, f1, rfl, -⟩ := hS1.form 3 rfl
    clear hS
    obtain ⟨q1, q2⟩ := (hS1.box 2 rfl).facts
    have q3 := (hS1.box 2 rfl).lt
    obtain ⟨q4, q5⟩ := (hS1.box 0 rfl).facts
    have q6 := (hS1.box 0 rfl).lt
    go_wp2_with (at_builtin; refine wpList_append_M 4 rfl _ _ 25 rfl Tryz.underlying25 infoVal rfl rfl rfl ((hS1.set 2 rfl 0 (.slice e1 t.cls.length f1))) rfl (Src.ofRep hv (hS1.set 2 rfl 0 (.slice e1 t.cls.length f1)).ple) one_ValR ?c3 ?c4 ?c5)
    case c3 => first | omega | (simp; done) | (simp; omega)
    case c4 => first | omega | (simp; done) | (simp; omega)
    case c5 =>
    intro v2 w2 hS2
    obtain ⟨e2, f2, rfl, -⟩ := hS2.form 4 rfl
    clear hS1 q1 q2 q3 q4 q5 q6
    obtain ⟨q1, q2⟩ := (hS2.box 2 rfl).facts
    have q3 := (hS2.box 2 rfl).lt
    obtain ⟨q4, q5⟩ := (hS2.box 0 rfl).facts
    have q6 := (hS2.box 0 rfl).lt
    go_wp2_with (at_builtin; refine wpList_append_M 5 rfl _ _ 23 rfl Tryz.underlying23 infoThing rfl rfl rfl ((hS2.set 2 rfl 1 (.slice e2 t.vals.length f2))) rfl (Src.ofRep hp (hS2.set 2 rfl 1 (.slice e2 t.vals.length f2)).ple) one_ThingR ?c3 ?c4 ?c5)
    case c3 => first | omega | (simp; done) | (simp; omega)
    case c4 => first | omega | (simp; done) | (simp; omega)
    case c5 =>
    intro v3 w3 hS3
    obtain ⟨e3, f3, rfl, -⟩ := hS3.form 5 rfl
    clear hS2 q1 q2 q3 q4 q5 q6
    obtain ⟨q1, q2⟩ := (hS3.box 2 rfl).facts
    have q3 := (hS3.box 2 rfl).lt
    go_upto_region 5 with (fail)
    have hS := hS3.set 2 rfl 2 (.slice e3 t.parts.length f3)
    clear hS3 q1 q2 q3
    generalize w3.setCell ⟨w.heap.size + 1 + 1, 2, none⟩ (.slice e3 t.parts.length f3) = w4 at *
    go_cut [42] (fun c wx => ∃ b, c = .bool b ∧ (b = false ∨ 0 < t.parts.length) ∧ Mem w H [boxT w.heap.size (.slice a1 t.cls.length c1) (.slice a2 t.vals.length c2) (.slice a3 t.parts.length c3), boxT (w.heap.size + 1) (.slice none 0 0) (.slice none 0 0) (.slice none 0 0), boxT (w.heap.size + 1 + 1) (.slice e1 t.cls.length f1) (.slice e2 t.vals.length f2) (.slice e3 t.parts.length f3), ownI (.slice e1 t.cls.length f1) t.cls, ownV (.slice e2 t.vals.length f2) t.vals, ownT (.slice e3 t.parts.length f3) t.parts] H wx)
    case first =>
      obtain ⟨q1, q2⟩ := (hS.box 2 rfl).facts
      have q3 := (hS.box 2 rfl).lt
      by_cases hl : 0 < t.parts.length
      · go_wp2_with fail
        refine (around_c at_ 3 _ hat (by omega) (by omega)).mono ?_
        rintro e w5 ⟨rfl, hb5⟩
        generalize aroundV at_ 3 = r at *
        replace hS := hS.ext hb5
        clear hb5 q1 q2 q3
        go_wp2_with fail
        go_meet
        case rel => exact ⟨_, rfl, .inr hl, hS⟩
      · go_wp2_with fail
        go_meet
        case rel => exact ⟨_, rfl, .inl rfl, hS⟩
    case rest =>
      clear hS
      obtain ⟨b, rfl, hl, hS⟩ := hcut
      cases b
      case true =>
        replace hl : 0 < t.parts.length := by rcases hl with h | h; cases h; exact h
        obtain ⟨q1, q2⟩ := (hS.box 2 rfl).facts
        have q3 := (hS.box 2 rfl).lt
        have hw3 := wrap_tdiv (k := 3) (by omega) hat
        have hw9 := Lib.hid (wrap_tdiv (k := 9) (by omega) hat)
        go_wp2_with fail
        refine (around_c (at_.tdiv 3) _ _ (i64_tdiv (by omega) hat) (by omega) (by omega)).mono ?_
        rintro e w5 ⟨rfl, hb5⟩
        obtain ⟨hr0, hr1⟩ := aroundV_range (n := at_.tdiv 3) (m := t.parts.length) (i64_tdiv (by omega) hat) (by omega)
        replace hS := hS.ext hb5
        clear hb5 q1 q2 q3 hw3
        obtain ⟨k, hk⟩ : ∃ k : Nat, aroundV (at_.tdiv 3) t.parts.length = k := ⟨_, (Int.toNat_of_nonneg hr0).symm⟩
        rw [hk] at hr1 ⊢
        clear hk hr0
        obtain ⟨q1, q2⟩ := (hS.box 2 rfl).facts
        have q3 := (hS.box 2 rfl).lt
        have hkl : k < t.parts.length := by omega
        clear hr1
        obtain ⟨g, cp, b1, d1, b2, d2, b3, d3, hx, h0, h1, h2, hE, hbl⟩ := hS.getT 5 rfl k hkl
        injection hx with hx _ hx2
        subst hx hx2
        go_wp2_with fail
        (refine wp_region_I 13 (by kernel_rfl) (by kernel_rfl) ?_; simp only [List.toList_toArray, List.take_succ_cons, List.take_zero, List.drop_succ_cons, List.drop_zero])
        repeat ((refine walkI_is (u := ?_) rfl (by simp) rfl ?_ ?_; rotate_left; (focus (intro A w' hS hA K hK; (simp only [List.map_cons, List.map_nil, knows, Is, Op.operands, Call.operands, List.lookup_cons, List.lookup_nil, Nat.reduceBEq, Bool.false_eq_true, if_false, if_true, Act.eval, Array.getD_eq_getD_getElem?, List.getElem?_toArray, List.getElem?_cons_succ, List.getElem?_cons_zero, Option.getD_some, and_true, true_and, List.append_toArray, List.nil_append, List.cons_append, List.toList_toArray, Array.toList_append, Option.toArray, List.append_nil] at hA); first | fail | (obtain ⟨hSc, hSf, hSs⟩ := hS.cells; go_simp; exact hK _ (by first | exact Ext.rfl' _ | exact Ext.new _ _ | assumption)))); (try simp only [List.nil_append, List.cons_append])))
        have hpb := Thing.part_le (List.getElem_mem hkl)
        have hpm := List.getElem_mem hkl
        generalize hpe : t.parts[k] = p at *
        replace hpe := Lib.hid hpe
        refine walkI_step (fun v w' => ∃ (cs : List Value) (t' : Thing), v = .agg cs.toArray ∧ ThingR (up H w5 w') cs t' ∧ t'.bulk ≤ 2 * p.bulk + 200) rfl (by simp) rfl ?_ ?_ ?_
        · rintro v w1 w2 hx ⟨cs, t', rfl, h1, h2⟩ hy
          exact ⟨cs, t', rfl, mono_ThingR _ _ _ _ (up_then hx hy) h1, h2⟩
        · intro A w' hx hA K hK
          (simp only [List.map_cons, List.map_nil, knows, Is, Op.operands, Call.operands, List.lookup_cons, List.lookup_nil, Nat.reduceBEq, Bool.false_eq_true, if_false, if_true, Act.eval, Array.getD_eq_getD_getElem?, List.getElem?_toArray, List.getElem?_cons_succ, List.getElem?_cons_zero, Option.getD_some, and_true, true_and, List.append_toArray, List.nil_append, List.cons_append, List.toList_toArray, Array.toList_append, Option.toArray, List.append_nil] at hA)
          go_simp
          rw [hw9.out]
          refine (HI.out p hpm H _ _ _ _ _ (hS.ple.trans hx.ple) hE (i64_tdiv (by omega) hat) hhow hby (by omega)).mono ?_
          rintro e w6 ⟨cs, t', rfl, h4, h5, h6⟩
          exact hK _ _ h6 ⟨cs, t', rfl, mono_ThingR _ _ _ _ (up_sub hS.ple hx) h4, h5⟩
        (refine walkI_nil ?_; simp only [List.nil_append, List.cons_append, fins, Is, forall_eq, Act.put, List.setIfInBounds_toArray, List.set_cons_zero, List.set_cons_succ])
        rintro w6 hb6 v ⟨cs, t', rfl, h4, h5⟩
        obtain ⟨b1', d1', b2', d2', b3', d3', rfl, -⟩ := h4.form
        replace hS := hS.up hb6
        clear q1 q2 q3 h0 h1 h2 hbl hE
        generalize up H w5 w6 = H6 at *
        rcases hS.asBox 5 rfl with ⟨h6, -⟩ | ⟨g', cap, cur, h6, h7, h8, h9, h10, hB⟩
        · cases h6
        injection h6 with h6 _ h6'
        injection h6 with h6
        injection h6 with h6
        subst h6 h6'
        clear hS
        have hcs : cur.size = f3 * 3 := h9
        obtain ⟨x0, hx0⟩ : ∃ x, cur[k * 3]? = some x := ⟨_, Array.getElem?_eq_getElem (by omega)⟩
        obtain ⟨x1, hx1⟩ : ∃ x, cur[k * 3 + 1]? = some x := ⟨_, Array.getElem?_eq_getElem (by omega)⟩
        obtain ⟨x2, hx2⟩ : ∃ x, cur[k * 3 + 2]? = some x := ⟨_, Array.getElem?_eq_getElem (by omega)⟩
        obtain ⟨q1, q2⟩ := (hB.box 5 rfl).facts
        have q3 := (hB.box 5 rfl).lt
        go_upto_region 8 with (fail)
        have hS := (((hB.set 5 rfl (k * 3) (Value.slice b1' t'.cls.length d1')).set 5 rfl (k * 3 + 1) (Value.slice b2' t'.vals.length d2')).set 5 rfl (k * 3 + 2) (Value.slice b3' t'.parts.length d3')).asOwn 5 (xs := t.parts.set k t') (n := f3) (sz := 3) rfl mono_ThingR (by simpa using h7) h8 (by simpa using hcs) (by
          simp only [Array.toList_setIfInBounds, List.length_set]
          rw [take_set3]
          exact Cells.set3 h4 k hkl h10)
        rw [List.length_set] at hS
        generalize ((w6.setCell _ _).setCell _ _).setCell _ _ = w7 at *
        clear hB q1 q2 q3 hx0 hx1 hx2
        obtain ⟨q1, q2⟩ := (hS.box 2 rfl).facts
        have q3 := (hS.box 2 rfl).lt
        obtain ⟨r1, r2⟩ := (hS.box 1 rfl).facts
        have r3 := (hS.box 1 rfl).lt
        have hfin := Lib.hid ((((hS.set 1 rfl 0 (Value.slice e1 t.cls.length f1)).set 1 rfl 1 (Value.slice e2 t.vals.length f2)).set 1 rfl 2 (Value.slice (some ⟨g, 0, none⟩) t.parts.length f3)).spoiltP (b := 2 * t.bulk + 200) 3 4 5 rfl rfl rfl (by
          have h11 := sumN_set Thing.bulk t.parts k t' hkl
          have h12 := sumN_mem Thing.bulk hpm
          rw [hpe.out] at h11
          have := hbk'.out
          omega))
        clear hS
        go_wp2_with fail
        exact bodyPost_ret (v := .agg #[Value.slice e1 t.cls.length f1, Value.slice e2 t.vals.length f2, Value.slice (some ⟨g, 0, none⟩) t.parts.length f3]) (by simp [results, Tryz.results17, go_sem, r1, r2, r3]) rfl hfin.out
      case false =>
        clear hl
        go_wp2_with fail
        refine (around_c how 9 _ hhow (by omega) (by omega)).mono ?_
        rintro e w5 ⟨rfl, hb5⟩
        obtain ⟨hr0, hr1⟩ := aroundV_range (n := how) (m := 9) hhow (by omega)
        replace hS := hS.ext hb5
        clear hb5
        generalize aroundV how 9 = r at *
        have h9 : r = 0 ∨ r = 1 ∨ r = 2 ∨ r = 3 ∨ r = 4 ∨ r = 5 ∨ r = 6 ∨ r = 7 ∨ r = 8 := by omega
        obtain ⟨q1, q2⟩ := (hS.box 2 rfl).facts
        have q3 := (hS.box 2 rfl).lt
        obtain ⟨r1, r2⟩ := (hS.box 1 rfl).facts
        have r3 := (hS.box 1 rfl).lt
        rcases h9 with rfl | rfl | rfl | rfl | rfl | rfl | rfl | rfl | rfl
        · -- a class more
          go_wp2_with fail
          obtain ⟨hq0, hq1⟩ := aroundV_range (n := by_) (m := 5) hby (by omega)
          obtain ⟨q, hq⟩ : ∃ q : Nat, aroundV by_ 5 = q := ⟨_, (Int.toNat_of_nonneg hq0).symm⟩
          rw [hq] at hq1
          replace hq := Lib.hid hq
          clear hq0
          obtain ⟨n, hn, hn64⟩ := five_ints (a := by_) (b := -1) (c := 0) (d := 63) (e := 64) hby (by unfold I64; omega) (by unfold I64; omega) (by unfold I64; omega) (by unfold I64; omega) q (by omega)
          (refine wp_region_I 9 (by kernel_rfl) (by kernel_rfl) ?_; simp only [List.toList_toArray, List.take_succ_cons, List.take_zero, List.drop_succ_cons, List.drop_zero])
          repeat ((refine walkI_is (u := ?_) rfl (by simp) rfl ?_ ?_; rotate_left; (focus (intro A w' hS hA K hK; (simp only [List.map_cons, List.map_nil, knows, Is, Op.operands, Call.operands, List.lookup_cons, List.lookup_nil, Nat.reduceBEq, Bool.false_eq_true, if_false, if_true, Act.eval, Array.getD_eq_getD_getElem?, List.getElem?_toArray, List.getElem?_cons_succ, List.getElem?_cons_zero, Option.getD_some, and_true, true_and, List.append_toArray, List.nil_append, List.cons_append, List.toList_toArray, Array.toList_append, Option.toArray, List.append_nil] at hA); first | fail | (obtain ⟨hSc, hSf, hSs⟩ := hS.cells; go_simp; exact hK _ (by first | exact Ext.rfl' _ | exact Ext.new _ _ | assumption)))); (try simp only [List.nil_append, List.cons_append])))
          (refine walkI_step (ArrAt #[.int .i64 by_, .int .i64 (-1), .int .i64 0, .int .i64 63, .int .i64 64] 5) rfl (by simp) rfl (stab_ArrAt _ _) ?_ ?_; (focus (intro A w' hS hA K hK; (simp only [List.map_cons, List.map_nil, knows, Is, Op.operands, Call.operands, List.lookup_cons, List.lookup_nil, Nat.reduceBEq, Bool.false_eq_true, if_false, if_true, Act.eval, Array.getD_eq_getD_getElem?, List.getElem?_toArray, List.getElem?_cons_succ, List.getElem?_cons_zero, Option.getD_some, and_true, true_and, List.append_toArray, List.nil_append, List.cons_append, List.toList_toArray, Array.toList_append, Option.toArray, List.append_nil] at hA); (go_simp; exact hK _ _ (Ext.new _ _) ⟨_, rfl, Own.new _ _ _⟩))); (try simp only [List.nil_append, List.cons_append]))
          repeat ((refine walkI_is (u := ?_) rfl (by simp) rfl ?_ ?_; rotate_left; (focus (intro A w' hS hA K hK; (simp only [List.map_cons, List.map_nil, knows, Is, Op.operands, Call.operands, List.lookup_cons, List.lookup_nil, Nat.reduceBEq, Bool.false_eq_true, if_false, if_true, Act.eval, Array.getD_eq_getD_getElem?, List.getElem?_toArray, List.getElem?_cons_succ, List.getElem?_cons_zero, Option.getD_some, and_true, true_and, List.append_toArray, List.nil_append, List.cons_append, List.toList_toArray, Array.toList_append, Option.toArray, List.append_nil] at hA); first | fail | (obtain ⟨hSc, hSf, hSs⟩ := hS.cells; go_simp; exact hK _ (by first | exact Ext.rfl' _ | exact Ext.new _ _ | assumption)))); (try simp only [List.nil_append, List.cons_append])))
          (refine walkI_is (u := ?_) rfl (by simp) rfl ?_ ?_; rotate_left; (focus (intro A w' hS hA K hK; (simp only [List.map_cons, List.map_nil, knows, Is, Op.operands, Call.operands, List.lookup_cons, List.lookup_nil, Nat.reduceBEq, Bool.false_eq_true, if_false, if_true, Act.eval, Array.getD_eq_getD_getElem?, List.getElem?_toArray, List.getElem?_cons_succ, List.getElem?_cons_zero, Option.getD_some, and_true, true_and, List.append_toArray, List.nil_append, List.cons_append, List.toList_toArray, Array.toList_append, Option.toArray, List.append_nil] at hA); first | (go_simp; refine (around_c by_ 5 _ hby (by omega) (by omega)).mono ?_; rintro e w'' ⟨rfl, hbx⟩; rw [hq.out]; exact hK _ hbx) | (obtain ⟨hSc, hSf, hSs⟩ := hS.cells; go_simp; exact hK _ (by first | exact Ext.rfl' _ | exact Ext.new _ _ | assumption)))); (try simp only [List.nil_append, List.cons_append]))
          (refine walkI_step (PtrAt #[.int .i64 by_, .int .i64 (-1), .int .i64 0, .int .i64 63, .int .i64 64] q) rfl (by simp) rfl (stab_PtrAt _ _) ?_ ?_; (focus (intro A w' hS hA K hK; (simp only [List.map_cons, List.map_nil, knows, Is, Op.operands, Call.operands, List.lookup_cons, List.lookup_nil, Nat.reduceBEq, Bool.false_eq_true, if_false, if_true, Act.eval, Array.getD_eq_getD_getElem?, List.getElem?_toArray, List.getElem?_cons_succ, List.getElem?_cons_zero, Option.getD_some, and_true, true_and, List.append_toArray, List.nil_append, List.cons_append, List.toList_toArray, Array.toList_append, Option.toArray, List.append_nil] at hA); (obtain ⟨⟨g, hA1, hA2⟩, hA3⟩ := hA; go_simp; exact hK _ _ (Ext.rfl' _) ⟨_, rfl, hA2⟩))); (try simp only [List.nil_append, List.cons_append]))
          (refine walkI_is (u := ?_) rfl (by simp) rfl ?_ ?_; rotate_left; (focus (intro A w' hS hA K hK; (simp only [List.map_cons, List.map_nil, knows, Is, Op.operands, Call.operands, List.lookup_cons, List.lookup_nil, Nat.reduceBEq, Bool.false_eq_true, if_false, if_true, Act.eval, Array.getD_eq_getD_getElem?, List.getElem?_toArray, List.getElem?_cons_succ, List.getElem?_cons_zero, Option.getD_some, and_true, true_and, List.append_toArray, List.nil_append, List.cons_append, List.toList_toArray, Array.toList_append, Option.toArray, List.append_nil] at hA); first | (obtain ⟨g, hA1, hA2⟩ := hA; obtain ⟨hA3, hA4⟩ := hA2.facts; clear hA2; replace hA3 := hA3 q; rw [hn] at hA3; go_simp; exact hK _ (Ext.rfl' _)) | (obtain ⟨hSc, hSf, hSs⟩ := hS.cells; go_simp; exact hK _ (by first | exact Ext.rfl' _ | exact Ext.new _ _ | assumption)))); (try simp only [List.nil_append, List.cons_append]))
          repeat ((refine walkI_is (u := ?_) rfl (by simp) rfl ?_ ?_; rotate_left; (focus (intro A w' hS hA K hK; (simp only [List.map_cons, List.map_nil, knows, Is, Op.operands, Call.operands, List.lookup_cons, List.lookup_nil, Nat.reduceBEq, Bool.false_eq_true, if_false, if_true, Act.eval, Array.getD_eq_getD_getElem?, List.getElem?_toArray, List.getElem?_cons_succ, List.getElem?_cons_zero, Option.getD_some, and_true, true_and, List.append_toArray, List.nil_append, List.cons_append, List.toList_toArray, Array.toList_append, Option.toArray, List.append_nil] at hA); first | fail | (obtain ⟨hSc, hSf, hSs⟩ := hS.cells; go_simp; exact hK _ (by first | exact Ext.rfl' _ | exact Ext.new _ _ | assumption)))); (try simp only [List.nil_append, List.cons_append])))
          (refine walkI_step (OneInt) rfl (by simp) rfl (stab_OneInt) ?_ ?_; (focus (intro A w' hS hA K hK; (simp only [List.map_cons, List.map_nil, knows, Is, Op.operands, Call.operands, List.lookup_cons, List.lookup_nil, Nat.reduceBEq, Bool.false_eq_true, if_false, if_true, Act.eval, Array.getD_eq_getD_getElem?, List.getElem?_toArray, List.getElem?_cons_succ, List.getElem?_cons_zero, Option.getD_some, and_true, true_and, List.append_toArray, List.nil_append, List.cons_append, List.toList_toArray, Array.toList_append, Option.toArray, List.append_nil] at hA); (go_simp; exact hK _ _ (Ext.new _ _) ⟨_, n, rfl, Own.new _ _ _, hn64⟩))); (try simp only [List.nil_append, List.cons_append]))
          (refine walkI_nil ?_; simp only [List.nil_append, List.cons_append, fins, Is, forall_eq, Act.put, List.setIfInBounds_toArray, List.set_cons_zero, List.set_cons_succ])
          rintro w6 hb6 v83 - v86 - v88 ⟨g, m, rfl, ho, hm64⟩
          replace hS := hS.ext hb6
          clear q1 q2 q3 r1 r2 r3
          obtain ⟨q1, q2⟩ := (hS.box 2 rfl).facts
          go_wp2_with (at_builtin; refine wpList_append_M 3 rfl _ _ 22 rfl Tryz.underlying22 infoInt rfl rfl rfl (hS) rfl (Src.lit1 (x := m) ⟨rfl, hm64⟩ rfl (fun j => by simpa using ho.facts.1 j)) one_IntR ?c3 ?c4 ?c5)
          case c3 => first | omega | (simp; done) | (simp; omega)
          case c4 => first | omega | (simp; done) | (simp; omega)
          case c5 =>
          intro v' w7 hS7
          obtain ⟨e', n', f', rfl⟩ : ∃ e n f, v' = .slice e n f := by obtain ⟨e, f, h, -⟩ := hS7.form 3 rfl; exact ⟨e, _, f, h⟩
          obtain ⟨q1, q2⟩ := (hS7.box 2 rfl).facts
          have q3 := (hS7.box 2 rfl).lt
          obtain ⟨r1, r2⟩ := (hS7.box 1 rfl).facts
          have r3 := (hS7.box 1 rfl).lt
          have hfin := Lib.hid (((((hS7.set 2 rfl 0 (.slice e' n' f')).set 1 rfl 0 (.slice e' n' f')).set 1 rfl 1 (.slice e2 t.vals.length f2)).set 1 rfl 2 (.slice e3 t.parts.length f3)).spoiltP (b := 2 * t.bulk + 200) 3 4 5 rfl rfl rfl (by
            have := hbk'.out
            simp only [List.length_append, List.length_singleton, sumN_snoc]; omega))
          clear hS7
          go_wp2_with fail
          exact bodyPost_ret (v := .agg #[(.slice e' n' f'), (.slice e2 t.vals.length f2), (.slice e3 t.parts.length f3)]) (by simp [results, Tryz.results17, go_sem, r1, r2, r3]) rfl hfin.out
        · -- case 1
          go_wp2_with fail
          obtain ⟨hq0, hq1⟩ := aroundV_range (n := by_) (m := 5) hby (by omega)
          obtain ⟨q, hq⟩ : ∃ q : Nat, aroundV by_ 5 = q := ⟨_, (Int.toNat_of_nonneg hq0).symm⟩
          rw [hq] at hq1
          replace hq := Lib.hid hq
          clear hq0
          obtain ⟨n, hn, hn64⟩ := five_ints (a := by_) (b := -1) (c := 0) (d := 31) (e := 32) hby (by unfold I64; omega) (by unfold I64; omega) (by unfold I64; omega) (by unfold I64; omega) q (by omega)
          (refine wp_region_I 11 (by kernel_rfl) (by kernel_rfl) ?_; simp only [List.toList_toArray, List.take_succ_cons, List.take_zero, List.drop_succ_cons, List.drop_zero])
          repeat ((refine walkI_is (u := ?_) rfl (by simp) rfl ?_ ?_; rotate_left; (focus (intro A w' hS hA K hK; (simp only [List.map_cons, List.map_nil, knows, Is, Op.operands, Call.operands, List.lookup_cons, List.lookup_nil, Nat.reduceBEq, Bool.false_eq_true, if_false, if_true, Act.eval, Array.getD_eq_getD_getElem?, List.getElem?_toArray, List.getElem?_cons_succ, List.getElem?_cons_zero, Option.getD_some, and_true, true_and, List.append_toArray, List.nil_append, List.cons_append, List.toList_toArray, Array.toList_append, Option.toArray, List.append_nil] at hA); first | fail | (obtain ⟨hSc, hSf, hSs⟩ := hS.cells; go_simp; exact hK _ (by first | exact Ext.rfl' _ | exact Ext.new _ _ | assumption)))); (try simp only [List.nil_append, List.cons_append])))
          (refine walkI_step (ArrAt #[.int .i64 by_, .int .i64 (-1), .int .i64 0, .int .i64 31, .int .i64 32] 5) rfl (by simp) rfl (stab_ArrAt _ _) ?_ ?_; (focus (intro A w' hS hA K hK; (simp only [List.map_cons, List.map_nil, knows, Is, Op.operands, Call.operands, List.lookup_cons, List.lookup_nil, Nat.reduceBEq, Bool.false_eq_true, if_false, if_true, Act.eval, Array.getD_eq_getD_getElem?, List.getElem?_toArray, List.getElem?_cons_succ, List.getElem?_cons_zero, Option.getD_some, and_true, true_and, List.append_toArray, List.nil_append, List.cons_append, List.toList_toArray, Array.toList_append, Option.toArray, List.append_nil] at hA); (go_simp; exact hK _ _ (Ext.new _ _) ⟨_, rfl, Own.new _ _ _⟩))); (try simp only [List.nil_append, List.cons_append]))
          repeat ((refine walkI_is (u := ?_) rfl (by simp) rfl ?_ ?_; rotate_left; (focus (intro A w' hS hA K hK; (simp only [List.map_cons, List.map_nil, knows, Is, Op.operands, Call.operands, List.lookup_cons, List.lookup_nil, Nat.reduceBEq, Bool.false_eq_true, if_false, if_true, Act.eval, Array.getD_eq_getD_getElem?, List.getElem?_toArray, List.getElem?_cons_succ, List.getElem?_cons_zero, Option.getD_some, and_true, true_and, List.append_toArray, List.nil_append, List.cons_append, List.toList_toArray, Array.toList_append, Option.toArray, List.append_nil] at hA); first | fail | (obtain ⟨hSc, hSf, hSs⟩ := hS.cells; go_simp; exact hK _ (by first | exact Ext.rfl' _ | exact Ext.new _ _ | assumption)))); (try simp only [List.nil_append, List.cons_append])))
          (refine walkI_is (u := ?_) rfl (by simp) rfl ?_ ?_; rotate_left; (focus (intro A w' hS hA K hK; (simp only [List.map_cons, List.map_nil, knows, Is, Op.operands, Call.operands, List.lookup_cons, List.lookup_nil, Nat.reduceBEq, Bool.false_eq_true, if_false, if_true, Act.eval, Array.getD_eq_getD_getElem?, List.getElem?_toArray, List.getElem?_cons_succ, List.getElem?_cons_zero, Option.getD_some, and_true, true_and, List.append_toArray, List.nil_append, List.cons_append, List.toList_toArray, Array.toList_append, Option.toArray, List.append_nil] at hA); first | (go_simp; refine (around_c by_ 5 _ hby (by omega) (by omega)).mono ?_; rintro e w'' ⟨rfl, hbx⟩; rw [hq.out]; exact hK _ hbx) | (obtain ⟨hSc, hSf, hSs⟩ := hS.cells; go_simp; exact hK _ (by first | exact Ext.rfl' _ | exact Ext.new _ _ | assumption)))); (try simp only [List.nil_append, List.cons_append]))
          (refine walkI_step (PtrAt #[.int .i64 by_, .int .i64 (-1), .int .i64 0, .int .i64 31, .int .i64 32] q) rfl (by simp) rfl (stab_PtrAt _ _) ?_ ?_; (focus (intro A w' hS hA K hK; (simp only [List.map_cons, List.map_nil, knows, Is, Op.operands, Call.operands, List.lookup_cons, List.lookup_nil, Nat.reduceBEq, Bool.false_eq_true, if_false, if_true, Act.eval, Array.getD_eq_getD_getElem?, List.getElem?_toArray, List.getElem?_cons_succ, List.getElem?_cons_zero, Option.getD_some, and_true, true_and, List.append_toArray, List.nil_append, List.cons_append, List.toList_toArray, Array.toList_append, Option.toArray, List.append_nil] at hA); (obtain ⟨⟨g, hA1, hA2⟩, hA3⟩ := hA; go_simp; exact hK _ _ (Ext.rfl' _) ⟨_, rfl, hA2⟩))); (try simp only [List.nil_append, List.cons_append]))
          (refine walkI_is (u := ?_) rfl (by simp) rfl ?_ ?_; rotate_left; (focus (intro A w' hS hA K hK; (simp only [List.map_cons, List.map_nil, knows, Is, Op.operands, Call.operands, List.lookup_cons, List.lookup_nil, Nat.reduceBEq, Bool.false_eq_true, if_false, if_true, Act.eval, Array.getD_eq_getD_getElem?, List.getElem?_toArray, List.getElem?_cons_succ, List.getElem?_cons_zero, Option.getD_some, and_true, true_and, List.append_toArray, List.nil_append, List.cons_append, List.toList_toArray, Array.toList_append, Option.toArray, List.append_nil] at hA); first | (obtain ⟨g, hA1, hA2⟩ := hA; obtain ⟨hA3, hA4⟩ := hA2.facts; clear hA2; replace hA3 := hA3 q; rw [hn] at hA3; go_simp; exact hK _ (Ext.rfl' _)) | (obtain ⟨hSc, hSf, hSs⟩ := hS.cells; go_simp; exact hK _ (by first | exact Ext.rfl' _ | exact Ext.new _ _ | assumption)))); (try simp only [List.nil_append, List.cons_append]))
          repeat ((refine walkI_is (u := ?_) rfl (by simp) rfl ?_ ?_; rotate_left; (focus (intro A w' hS hA K hK; (simp only [List.map_cons, List.map_nil, knows, Is, Op.operands, Call.operands, List.lookup_cons, List.lookup_nil, Nat.reduceBEq, Bool.false_eq_true, if_false, if_true, Act.eval, Array.getD_eq_getD_getElem?, List.getElem?_toArray, List.getElem?_cons_succ, List.getElem?_cons_zero, Option.getD_some, and_true, true_and, List.append_toArray, List.nil_append, List.cons_append, List.toList_toArray, Array.toList_append, Option.toArray, List.append_nil] at hA); first | fail | (obtain ⟨hSc, hSf, hSs⟩ := hS.cells; go_simp; exact hK _ (by first | exact Ext.rfl' _ | exact Ext.new _ _ | assumption)))); (try simp only [List.nil_append, List.cons_append])))
          (refine walkI_step (OneVal) rfl (by simp) rfl (stab_OneVal) ?_ ?_; (focus (intro A w' hS hA K hK; (simp only [List.map_cons, List.map_nil, knows, Is, Op.operands, Call.operands, List.lookup_cons, List.lookup_nil, Nat.reduceBEq, Bool.false_eq_true, if_false, if_true, Act.eval, Array.getD_eq_getD_getElem?, List.getElem?_toArray, List.getElem?_cons_succ, List.getElem?_cons_zero, Option.getD_some, and_true, true_and, List.append_toArray, List.nil_append, List.cons_append, List.toList_toArray, Array.toList_append, Option.toArray, List.append_nil] at hA); (go_simp; exact hK _ _ (Ext.new _ _) ⟨_, ⟨n, ⟨1, 1⟩⟩, rfl, Own.new _ _ _, by first | exact hn64 | (unfold I64; simp only []; omega), by first | exact hn64 | (unfold I64; simp only []; omega), by first | exact hn64 | (unfold I64; simp only []; omega)⟩))); (try simp only [List.nil_append, List.cons_append]))
          (refine walkI_nil ?_; simp only [List.nil_append, List.cons_append, fins, Is, forall_eq, Act.put, List.setIfInBounds_toArray, List.set_cons_zero, List.set_cons_succ])
          rintro w6 hb6 vx1 - vx2 - vx3 ⟨g, m, rfl, ho, hm64⟩
          replace hS := hS.ext hb6
          clear q1 q2 q3 r1 r2 r3
          obtain ⟨q1, q2⟩ := (hS.box 2 rfl).facts
          go_wp2_with (at_builtin; refine wpList_append_M 4 rfl _ _ 25 rfl Tryz.underlying25 infoVal rfl rfl rfl (hS) rfl (Src.lit1 (x := m) ⟨rfl, hm64⟩ rfl (fun j => by simpa using ho.facts.1 j)) one_ValR ?c3 ?c4 ?c5)
          case c3 => first | omega | (simp; done) | (simp; omega)
          case c4 => first | omega | (simp; done) | (simp; omega)
          case c5 =>
          intro v' w7 hS7
          obtain ⟨e', n', f', rfl⟩ : ∃ e n f, v' = .slice e n f := by obtain ⟨e, f, h, -⟩ := hS7.form 4 rfl; exact ⟨e, _, f, h⟩
          obtain ⟨q1, q2⟩ := (hS7.box 2 rfl).facts
          have q3 := (hS7.box 2 rfl).lt
          obtain ⟨r1, r2⟩ := (hS7.box 1 rfl).facts
          have r3 := (hS7.box 1 rfl).lt
          have hfin := Lib.hid (((((hS7.set 2 rfl 1 (.slice e' n' f')).set 1 rfl 0 (.slice e1 t.cls.length f1)).set 1 rfl 1 (.slice e' n' f')).set 1 rfl 2 (.slice e3 t.parts.length f3)).spoiltP (b := 2 * t.bulk + 200) 3 4 5 rfl rfl rfl (by
            have := hbk'.out
            simp only [List.length_append, List.length_singleton, sumN_snoc]; omega))
          clear hS7
          go_wp2_with fail
          exact bodyPost_ret (v := .agg #[(.slice e1 t.cls.length f1), (.slice e' n' f'), (.slice e3 t.parts.length f3)]) (by simp [results, Tryz.results17, go_sem, r1, r2, r3]) rfl hfin.out
        · -- case 2
          go_wp2_with fail
          obtain ⟨hq0, hq1⟩ := aroundV_range (n := by_) (m := 4) hby (by omega)
          obtain ⟨q, hq⟩ : ∃ q : Nat, aroundV by_ 4 = q := ⟨_, (Int.toNat_of_nonneg hq0).symm⟩
          rw [hq] at hq1
          replace hq := Lib.hid hq
          clear hq0
          obtain ⟨n, hn, hn64⟩ := four_ints (a := by_) (b := 1099511627776) (c := -1099511627776) (d := 1099511627777) hby (by unfold I64; omega) (by unfold I64; omega) (by unfold I64; omega) q (by omega)
          (refine wp_region_I 11 (by kernel_rfl) (by kernel_rfl) ?_; simp only [List.toList_toArray, List.take_succ_cons, List.take_zero, List.drop_succ_cons, List.drop_zero])
          repeat ((refine walkI_is (u := ?_) rfl (by simp) rfl ?_ ?_; rotate_left; (focus (intro A w' hS hA K hK; (simp only [List.map_cons, List.map_nil, knows, Is, Op.operands, Call.operands, List.lookup_cons, List.lookup_nil, Nat.reduceBEq, Bool.false_eq_true, if_false, if_true, Act.eval, Array.getD_eq_getD_getElem?, List.getElem?_toArray, List.getElem?_cons_succ, List.getElem?_cons_zero, Option.getD_some, and_true, true_and, List.append_toArray, List.nil_append, List.cons_append, List.toList_toArray, Array.toList_append, Option.toArray, List.append_nil] at hA); first | fail | (obtain ⟨hSc, hSf, hSs⟩ := hS.cells; go_simp; exact hK _ (by first | exact Ext.rfl' _ | exact Ext.new _ _ | assumption)))); (try simp only [List.nil_append, List.cons_append])))
          (refine walkI_step (ArrAt #[.int .i64 by_, .int .i64 1099511627776, .int .i64 (-1099511627776), .int .i64 1099511627777] 4) rfl (by simp) rfl (stab_ArrAt _ _) ?_ ?_; (focus (intro A w' hS hA K hK; (simp only [List.map_cons, List.map_nil, knows, Is, Op.operands, Call.operands, List.lookup_cons, List.lookup_nil, Nat.reduceBEq, Bool.false_eq_true, if_false, if_true, Act.eval, Array.getD_eq_getD_getElem?, List.getElem?_toArray, List.getElem?_cons_succ, List.getElem?_cons_zero, Option.getD_some, and_true, true_and, List.append_toArray, List.nil_append, List.cons_append, List.toList_toArray, Array.toList_append, Option.toArray, List.append_nil] at hA); (go_simp; exact hK _ _ (Ext.new _ _) ⟨_, rfl, Own.new _ _ _⟩))); (try simp only [List.nil_append, List.cons_append]))
          repeat ((refine walkI_is (u := ?_) rfl (by simp) rfl ?_ ?_; rotate_left; (focus (intro A w' hS hA K hK; (simp only [List.map_cons, List.map_nil, knows, Is, Op.operands, Call.operands, List.lookup_cons, List.lookup_nil, Nat.reduceBEq, Bool.false_eq_true, if_false, if_true, Act.eval, Array.getD_eq_getD_getElem?, List.getElem?_toArray, List.getElem?_cons_succ, List.getElem?_cons_zero, Option.getD_some, and_true, true_and, List.append_toArray, List.nil_append, List.cons_append, List.toList_toArray, Array.toList_append, Option.toArray, List.append_nil] at hA); first | fail | (obtain ⟨hSc, hSf, hSs⟩ := hS.cells; go_simp; exact hK _ (by first | exact Ext.rfl' _ | exact Ext.new _ _ | assumption)))); (try simp only [List.nil_append, List.cons_append])))
          (refine walkI_is (u := ?_) rfl (by simp) rfl ?_ ?_; rotate_left; (focus (intro A w' hS hA K hK; (simp only [List.map_cons, List.map_nil, knows, Is, Op.operands, Call.operands, List.lookup_cons, List.lookup_nil, Nat.reduceBEq, Bool.false_eq_true, if_false, if_true, Act.eval, Array.getD_eq_getD_getElem?, List.getElem?_toArray, List.getElem?_cons_succ, List.getElem?_cons_zero, Option.getD_some, and_true, true_and, List.append_toArray, List.nil_append, List.cons_append, List.toList_toArray, Array.toList_append, Option.toArray, List.append_nil] at hA); first | (go_simp; refine (around_c by_ 4 _ hby (by omega) (by omega)).mono ?_; rintro e w'' ⟨rfl, hbx⟩; rw [hq.out]; exact hK _ hbx) | (obtain ⟨hSc, hSf, hSs⟩ := hS.cells; go_simp; exact hK _ (by first | exact Ext.rfl' _ | exact Ext.new _ _ | assumption)))); (try simp only [List.nil_append, List.cons_append]))
          (refine walkI_step (PtrAt #[.int .i64 by_, .int .i64 1099511627776, .int .i64 (-1099511627776), .int .i64 1099511627777] q) rfl (by simp) rfl (stab_PtrAt _ _) ?_ ?_; (focus (intro A w' hS hA K hK; (simp only [List.map_cons, List.map_nil, knows, Is, Op.operands, Call.operands, List.lookup_cons, List.lookup_nil, Nat.reduceBEq, Bool.false_eq_true, if_false, if_true, Act.eval, Array.getD_eq_getD_getElem?, List.getElem?_toArray, List.getElem?_cons_succ, List.getElem?_cons_zero, Option.getD_some, and_true, true_and, List.append_toArray, List.nil_append, List.cons_append, List.toList_toArray, Array.toList_append, Option.toArray, List.append_nil] at hA); (obtain ⟨⟨g, hA1, hA2⟩, hA3⟩ := hA; go_simp; exact hK _ _ (Ext.rfl' _) ⟨_, rfl, hA2⟩))); (try simp only [List.nil_append, List.cons_append]))
          (refine walkI_is (u := ?_) rfl (by simp) rfl ?_ ?_; rotate_left; (focus (intro A w' hS hA K hK; (simp only [List.map_cons, List.map_nil, knows, Is, Op.operands, Call.operands, List.lookup_cons, List.lookup_nil, Nat.reduceBEq, Bool.false_eq_true, if_false, if_true, Act.eval, Array.getD_eq_getD_getElem?, List.getElem?_toArray, List.getElem?_cons_succ, List.getElem?_cons_zero, Option.getD_some, and_true, true_and, List.append_toArray, List.nil_append, List.cons_append, List.toList_toArray, Array.toList_append, Option.toArray, List.append_nil] at hA); first | (obtain ⟨g, hA1, hA2⟩ := hA; obtain ⟨hA3, hA4⟩ := hA2.facts; clear hA2; replace hA3 := hA3 q; rw [hn] at hA3; go_simp; exact hK _ (Ext.rfl' _)) | (obtain ⟨hSc, hSf, hSs⟩ := hS.cells; go_simp; exact hK _ (by first | exact Ext.rfl' _ | exact Ext.new _ _ | assumption)))); (try simp only [List.nil_append, List.cons_append]))
          repeat ((refine walkI_is (u := ?_) rfl (by simp) rfl ?_ ?_; rotate_left; (focus (intro A w' hS hA K hK; (simp only [List.map_cons, List.map_nil, knows, Is, Op.operands, Call.operands, List.lookup_cons, List.lookup_nil, Nat.reduceBEq, Bool.false_eq_true, if_false, if_true, Act.eval, Array.getD_eq_getD_getElem?, List.getElem?_toArray, List.getElem?_cons_succ, List.getElem?_cons_zero, Option.getD_some, and_true, true_and, List.append_toArray, List.nil_append, List.cons_append, List.toList_toArray, Array.toList_append, Option.toArray, List.append_nil] at hA); first | fail | (obtain ⟨hSc, hSf, hSs⟩ := hS.cells; go_simp; exact hK _ (by first | exact Ext.rfl' _ | exact Ext.new _ _ | assumption)))); (try simp only [List.nil_append, List.cons_append])))
          (refine walkI_step (OneVal) rfl (by simp) rfl (stab_OneVal) ?_ ?_; (focus (intro A w' hS hA K hK; (simp only [List.map_cons, List.map_nil, knows, Is, Op.operands, Call.operands, List.lookup_cons, List.lookup_nil, Nat.reduceBEq, Bool.false_eq_true, if_false, if_true, Act.eval, Array.getD_eq_getD_getElem?, List.getElem?_toArray, List.getElem?_cons_succ, List.getElem?_cons_zero, Option.getD_some, and_true, true_and, List.append_toArray, List.nil_append, List.cons_append, List.toList_toArray, Array.toList_append, Option.toArray, List.append_nil] at hA); (go_simp; exact hK _ _ (Ext.new _ _) ⟨_, ⟨31, ⟨n, 1⟩⟩, rfl, Own.new _ _ _, by first | exact hn64 | (unfold I64; simp only []; omega), by first | exact hn64 | (unfold I64; simp only []; omega), by first | exact hn64 | (unfold I64; simp only []; omega)⟩))); (try simp only [List.nil_append, List.cons_append]))
          (refine walkI_nil ?_; simp only [List.nil_append, List.cons_append, fins, Is, forall_eq, Act.put, List.setIfInBounds_toArray, List.set_cons_zero, List.set_cons_succ])
          rintro w6 hb6 vx1 - vx2 - vx3 ⟨g, m, rfl, ho, hm64⟩
          replace hS := hS.ext hb6
          clear q1 q2 q3 r1 r2 r3
          obtain ⟨q1, q2⟩ := (hS.box 2 rfl).facts
          go_wp2_with (at_builtin; refine wpList_append_M 4 rfl _ _ 25 rfl Tryz.underlying25 infoVal rfl rfl rfl (hS) rfl (Src.lit1 (x := m) ⟨rfl, hm64⟩ rfl (fun j => by simpa using ho.facts.1 j)) one_ValR ?c3 ?c4 ?c5)
          case c3 => first | omega | (simp; done) | (simp; omega)
          case c4 => first | omega | (simp; done) | (simp; omega)
          case c5 =>
          intro v' w7 hS7
          obtain ⟨e', n', f', rfl⟩ : ∃ e n f, v' = .slice e n f := by obtain ⟨e, f, h, -⟩ := hS7.form 4 rfl; exact ⟨e, _, f, h⟩
          obtain ⟨q1, q2⟩ := (hS7.box 2 rfl).facts
          have q3 := (hS7.box 2 rfl).lt
          obtain ⟨r1, r2⟩ := (hS7.box 1 rfl).facts
          have r3 := (hS7.box 1 rfl).lt
          have hfin := Lib.hid (((((hS7.set 2 rfl 1 (.slice e' n' f')).set 1 rfl 0 (.slice e1 t.cls.length f1)).set 1 rfl 1 (.slice e' n' f')).set 1 rfl 2 (.slice e3 t.parts.length f3)).spoiltP (b := 2 * t.bulk + 200) 3 4 5 rfl rfl rfl (by
            have := hbk'.out
            simp only [List.length_append, List.length_singleton, sumN_snoc]; omega))
          clear hS7
          go_wp2_with fail
          exact bodyPost_ret (v := .agg #[(.slice e1 t.cls.length f1), (.slice e' n' f'), (.slice e3 t.parts.length f3)]) (by simp [results, Tryz.results17, go_sem, r1, r2, r3]) rfl hfin.out
        · -- case 3
          go_wp2_with fail
          obtain ⟨hq0, hq1⟩ := aroundV_range (n := by_) (m := 5) hby (by omega)
          obtain ⟨q, hq⟩ : ∃ q : Nat, aroundV by_ 5 = q := ⟨_, (Int.toNat_of_nonneg hq0).symm⟩
          rw [hq] at hq1
          replace hq := Lib.hid hq
          clear hq0
          obtain ⟨n, hn, hn64⟩ := five_ints (a := by_) (b := 0) (c := -1) (d := 65536) (e := 65537) hby (by unfold I64; omega) (by unfold I64; omega) (by unfold I64; omega) (by unfold I64; omega) q (by omega)
          (refine wp_region_I 11 (by kernel_rfl) (by kernel_rfl) ?_; simp only [List.toList_toArray, List.take_succ_cons, List.take_zero, List.drop_succ_cons, List.drop_zero])
          repeat ((refine walkI_is (u := ?_) rfl (by simp) rfl ?_ ?_; rotate_left; (focus (intro A w' hS hA K hK; (simp only [List.map_cons, List.map_nil, knows, Is, Op.operands, Call.operands, List.lookup_cons, List.lookup_nil, Nat.reduceBEq, Bool.false_eq_true, if_false, if_true, Act.eval, Array.getD_eq_getD_getElem?, List.getElem?_toArray, List.getElem?_cons_succ, List.getElem?_cons_zero, Option.getD_some, and_true, true_and, List.append_toArray, List.nil_append, List.cons_append, List.toList_toArray, Array.toList_append, Option.toArray, List.append_nil] at hA); first | fail | (obtain ⟨hSc, hSf, hSs⟩ := hS.cells; go_simp; exact hK _ (by first | exact Ext.rfl' _ | exact Ext.new _ _ | assumption)))); (try simp only [List.nil_append, List.cons_append])))
          (refine walkI_step (ArrAt #[.int .i64 by_, .int .i64 0, .int .i64 (-1), .int .i64 65536, .int .i64 65537] 5) rfl (by simp) rfl (stab_ArrAt _ _) ?_ ?_; (focus (intro A w' hS hA K hK; (simp only [List.map_cons, List.map_nil, knows, Is, Op.operands, Call.operands, List.lookup_cons, List.lookup_nil, Nat.reduceBEq, Bool.false_eq_true, if_false, if_true, Act.eval, Array.getD_eq_getD_getElem?, List.getElem?_toArray, List.getElem?_cons_succ, List.getElem?_cons_zero, Option.getD_some, and_true, true_and, List.append_toArray, List.nil_append, List.cons_append, List.toList_toArray, Array.toList_append, Option.toArray, List.append_nil] at hA); (go_simp; exact hK _ _ (Ext.new _ _) ⟨_, rfl, Own.new _ _ _⟩))); (try simp only [List.nil_append, List.cons_append]))
          repeat ((refine walkI_is (u := ?_) rfl (by simp) rfl ?_ ?_; rotate_left; (focus (intro A w' hS hA K hK; (simp only [List.map_cons, List.map_nil, knows, Is, Op.operands, Call.operands, List.lookup_cons, List.lookup_nil, Nat.reduceBEq, Bool.false_eq_true, if_false, if_true, Act.eval, Array.getD_eq_getD_getElem?, List.getElem?_toArray, List.getElem?_cons_succ, List.getElem?_cons_zero, Option.getD_some, and_true, true_and, List.append_toArray, List.nil_append, List.cons_append, List.toList_toArray, Array.toList_append, Option.toArray, List.append_nil] at hA); first | fail | (obtain ⟨hSc, hSf, hSs⟩ := hS.cells; go_simp; exact hK _ (by first | exact Ext.rfl' _ | exact Ext.new _ _ | assumption)))); (try simp only [List.nil_append, List.cons_append])))
          (refine walkI_is (u := ?_) rfl (by simp) rfl ?_ ?_; rotate_left; (focus (intro A w' hS hA K hK; (simp only [List.map_cons, List.map_nil, knows, Is, Op.operands, Call.operands, List.lookup_cons, List.lookup_nil, Nat.reduceBEq, Bool.false_eq_true, if_false, if_true, Act.eval, Array.getD_eq_getD_getElem?, List.getElem?_toArray, List.getElem?_cons_succ, List.getElem?_cons_zero, Option.getD_some, and_true, true_and, List.append_toArray, List.nil_append, List.cons_append, List.toList_toArray, Array.toList_append, Option.toArray, List.append_nil] at hA); first | (go_simp; refine (around_c by_ 5 _ hby (by omega) (by omega)).mono ?_; rintro e w'' ⟨rfl, hbx⟩; rw [hq.out]; exact hK _ hbx) | (obtain ⟨hSc, hSf, hSs⟩ := hS.cells; go_simp; exact hK _ (by first | exact Ext.rfl' _ | exact Ext.new _ _ | assumption)))); (try simp only [List.nil_append, List.cons_append]))
          (refine walkI_step (PtrAt #[.int .i64 by_, .int .i64 0, .int .i64 (-1), .int .i64 65536, .int .i64 65537] q) rfl (by simp) rfl (stab_PtrAt _ _) ?_ ?_; (focus (intro A w' hS hA K hK; (simp only [List.map_cons, List.map_nil, knows, Is, Op.operands, Call.operands, List.lookup_cons, List.lookup_nil, Nat.reduceBEq, Bool.false_eq_true, if_false, if_true, Act.eval, Array.getD_eq_getD_getElem?, List.getElem?_toArray, List.getElem?_cons_succ, List.getElem?_cons_zero, Option.getD_some, and_true, true_and, List.append_toArray, List.nil_append, List.cons_append, List.toList_toArray, Array.toList_append, Option.toArray, List.append_nil] at hA); (obtain ⟨⟨g, hA1, hA2⟩, hA3⟩ := hA; go_simp; exact hK _ _ (Ext.rfl' _) ⟨_, rfl, hA2⟩))); (try simp only [List.nil_append, List.cons_append]))
          (refine walkI_is (u := ?_) rfl (by simp) rfl ?_ ?_; rotate_left; (focus (intro A w' hS hA K hK; (simp only [List.map_cons, List.map_nil, knows, Is, Op.operands, Call.operands, List.lookup_cons, List.lookup_nil, Nat.reduceBEq, Bool.false_eq_true, if_false, if_true, Act.eval, Array.getD_eq_getD_getElem?, List.getElem?_toArray, List.getElem?_cons_succ, List.getElem?_cons_zero, Option.getD_some, and_true, true_and, List.append_toArray, List.nil_append, List.cons_append, List.toList_toArray, Array.toList_append, Option.toArray, List.append_nil] at hA); first | (obtain ⟨g, hA1, hA2⟩ := hA; obtain ⟨hA3, hA4⟩ := hA2.facts; clear hA2; replace hA3 := hA3 q; rw [hn] at hA3; go_simp; exact hK _ (Ext.rfl' _)) | (obtain ⟨hSc, hSf, hSs⟩ := hS.cells; go_simp; exact hK _ (by first | exact Ext.rfl' _ | exact Ext.new _ _ | assumption)))); (try simp only [List.nil_append, List.cons_append]))
          repeat ((refine walkI_is (u := ?_) rfl (by simp) rfl ?_ ?_; rotate_left; (focus (intro A w' hS hA K hK; (simp only [List.map_cons, List.map_nil, knows, Is, Op.operands, Call.operands, List.lookup_cons, List.lookup_nil, Nat.reduceBEq, Bool.false_eq_true, if_false, if_true, Act.eval, Array.getD_eq_getD_getElem?, List.getElem?_toArray, List.getElem?_cons_succ, List.getElem?_cons_zero, Option.getD_some, and_true, true_and, List.append_toArray, List.nil_append, List.cons_append, List.toList_toArray, Array.toList_append, Option.toArray, List.append_nil] at hA); first | fail | (obtain ⟨hSc, hSf, hSs⟩ := hS.cells; go_simp; exact hK _ (by first | exact Ext.rfl' _ | exact Ext.new _ _ | assumption)))); (try simp only [List.nil_append, List.cons_append])))
          (refine walkI_step (OneVal) rfl (by simp) rfl (stab_OneVal) ?_ ?_; (focus (intro A w' hS hA K hK; (simp only [List.map_cons, List.map_nil, knows, Is, Op.operands, Call.operands, List.lookup_cons, List.lookup_nil, Nat.reduceBEq, Bool.false_eq_true, if_false, if_true, Act.eval, Array.getD_eq_getD_getElem?, List.getElem?_toArray, List.getElem?_cons_succ, List.getElem?_cons_zero, Option.getD_some, and_true, true_and, List.append_toArray, List.nil_append, List.cons_append, List.toList_toArray, Array.toList_append, Option.toArray, List.append_nil] at hA); (go_simp; exact hK _ _ (Ext.new _ _) ⟨_, ⟨31, ⟨1, n⟩⟩, rfl, Own.new _ _ _, by first | exact hn64 | (unfold I64; simp only []; omega), by first | exact hn64 | (unfold I64; simp only []; omega), by first | exact hn64 | (unfold I64; simp only []; omega)⟩))); (try simp only [List.nil_append, List.cons_append]))
          (refine walkI_nil ?_; simp only [List.nil_append, List.cons_append, fins, Is, forall_eq, Act.put, List.setIfInBounds_toArray, List.set_cons_zero, List.set_cons_succ])
          rintro w6 hb6 vx1 - vx2 - vx3 ⟨g, m, rfl, ho, hm64⟩
          replace hS := hS.ext hb6
          clear q1 q2 q3 r1 r2 r3
          obtain ⟨q1, q2⟩ := (hS.box 2 rfl).facts
          go_wp2_with (at_builtin; refine wpList_append_M 4 rfl _ _ 25 rfl Tryz.underlying25 infoVal rfl rfl rfl (hS) rfl (Src.lit1 (x := m) ⟨rfl, hm64⟩ rfl (fun j => by simpa using ho.facts.1 j)) one_ValR ?c3 ?c4 ?c5)
          case c3 => first | omega | (simp; done) | (simp; omega)
          case c4 => first | omega | (simp; done) | (simp; omega)
          case c5 =>
          intro v' w7 hS7
          obtain ⟨e', n', f', rfl⟩ : ∃ e n f, v' = .slice e n f := by obtain ⟨e, f, h, -⟩ := hS7.form 4 rfl; exact ⟨e, _, f, h⟩
          obtain ⟨q1, q2⟩ := (hS7.box 2 rfl).facts
          have q3 := (hS7.box 2 rfl).lt
          obtain ⟨r1, r2⟩ := (hS7.box 1 rfl).facts
          have r3 := (hS7.box 1 rfl).lt
          have hfin := Lib.hid (((((hS7.set 2 rfl 1 (.slice e' n' f')).set 1 rfl 0 (.slice e1 t.cls.length f1)).set 1 rfl 1 (.slice e' n' f')).set 1 rfl 2 (.slice e3 t.parts.length f3)).spoiltP (b := 2 * t.bulk + 200) 3 4 5 rfl rfl rfl (by
            have := hbk'.out
            simp only [List.length_append, List.length_singleton, sumN_snoc]; omega))
          clear hS7
          go_wp2_with fail
          exact bodyPost_ret (v := .agg #[(.slice e1 t.cls.length f1), (.slice e' n' f'), (.slice e3 t.parts.length f3)]) (by simp [results, Tryz.results17, go_sem, r1, r2, r3]) rfl hfin.out
        · -- case 4
          have hw64 : I64 (wrap64 (2 * by_)) := by unfold I64 wrap64; omega
          go_wp2_with (at_builtin; refine wpList_append_M 4 rfl _ _ 25 rfl Tryz.underlying25 infoVal rfl rfl rfl ((hS.ext (by with_reducible repeat (first | assumption | exact Ext.rfl' _ | exact Ext.new _ _ | refine Ext.alloc' ?_ _ | refine Ext.drew' ?_ | refine Ext.drewN' ?_ _ | (refine Ext.set' ?_ ?_ _; rotate_left; focus (first | omega | (simp; done) | (simp; omega))) | (refine Ext.then (b := ?_) ?_ ?_; rotate_left; rotate_left; assumption))))) rfl (Src.lit1 (x := ⟨31, ⟨wrap64 (2 * by_), 6⟩⟩) ⟨rfl, by unfold I64; simp only []; omega, hw64, by unfold I64; simp only []; omega⟩ rfl (fun j => by simp [go_sem])) one_ValR ?c3 ?c4 ?c5)
          case c3 => first | omega | (simp; done) | (simp; omega)
          case c4 => first | omega | (simp; done) | (simp; omega)
          case c5 =>
          clear q1 q2 q3 r1 r2 r3
          intro v' w7 hS7
          obtain ⟨e', n', f', rfl⟩ : ∃ e n f, v' = .slice e n f := by obtain ⟨e, f, h, -⟩ := hS7.form 4 rfl; exact ⟨e, _, f, h⟩
          obtain ⟨q1, q2⟩ := (hS7.box 2 rfl).facts
          have q3 := (hS7.box 2 rfl).lt
          obtain ⟨r1, r2⟩ := (hS7.box 1 rfl).facts
          have r3 := (hS7.box 1 rfl).lt
          have hfin := Lib.hid (((((hS7.set 2 rfl 1 (.slice e' n' f')).set 1 rfl 0 (.slice e1 t.cls.length f1)).set 1 rfl 1 (.slice e' n' f')).set 1 rfl 2 (.slice e3 t.parts.length f3)).spoiltP (b := 2 * t.bulk + 200) 3 4 5 rfl rfl rfl (by
            have := hbk'.out
            simp only [List.length_append, List.length_singleton, sumN_snoc]; omega))
          clear hS7
          go_wp2_with fail
          exact bodyPost_ret (v := .agg #[(.slice e1 t.cls.length f1), (.slice e' n' f'), (.slice e3 t.parts.length f3)]) (by simp [results, Tryz.results17, go_sem, r1, r2, r3]) rfl hfin.out
        · -- case 5
          clear q1 q2 q3 r1 r2 r3
          go_wp2_with fail
          go_loopw [11] (fun i wr => ∃ (k n' f' : Nat) (e' : Option Addr) (ps : List Thing), k ≤ 98 ∧ i = .int .i64 k ∧ sumN Thing.bulk ps = sumN Thing.bulk t.parts + k ∧ ps.length ≤ t.parts.length + k ∧
            Mem w H [boxT w.heap.size (.slice a1 t.cls.length c1) (.slice a2 t.vals.length c2) (.slice a3 t.parts.length c3), boxT (w.heap.size + 1) (.slice none 0 0) (.slice none 0 0) (.slice none 0 0), boxT (w.heap.size + 1 + 1) (.slice e1 t.cls.length f1) (.slice e2 t.vals.length f2) (.slice e' n' f'), ownI (.slice e1 t.cls.length f1) t.cls, ownV (.slice e2 t.vals.length f2) t.vals, ownT (.slice e' n' f') ps] H wr) (fun i _ => 98 - (intOf i).toNat)
          case atStart => exact ⟨0, _, _, _, _, by omega, rfl, by omega, by omega, hS⟩
          case round =>
            clear hS
            obtain ⟨k, n', f', e', ps, hk, rfl, hsum, hpl, hS⟩ := hrel
            obtain ⟨hz0, hz1⟩ := aroundV_range (n := by_) (m := 9) hby (by omega)
            go_wp2_with fail
            refine (around_c by_ 9 _ hby (by omega) (by omega)).mono ?_
            rintro e w6 ⟨rfl, hb6⟩
            replace hS := hS.ext hb6
            clear hb6
            generalize aroundV by_ 9 = z at *
            obtain ⟨q1, q2⟩ := (hS.box 2 rfl).facts
            have q3 := (hS.box 2 rfl).lt
            by_cases hlt : (k : Int) < 90 + z
            · have hH : ThingR H [.slice none 0 0, .slice none 0 0, .slice none 0 0] (.mk [] [] []) := by
                rw [thingR_iff]
                exact ⟨_, _, _, rfl, SliceRep.nil _ _ _, SliceRep.nil _ _ _, SliceRep.nil _ _ _⟩
              replace hH := Lib.hid hH
              go_wp2_with (at_builtin; refine wpList_append_M 5 rfl _ _ 23 rfl Tryz.underlying23 infoThing rfl rfl rfl ((hS.ext (by with_reducible repeat (first | assumption | exact Ext.rfl' _ | exact Ext.new _ _ | refine Ext.alloc' ?_ _ | refine Ext.drew' ?_ | refine Ext.drewN' ?_ _ | (refine Ext.set' ?_ ?_ _; rotate_left; focus (first | omega | (simp; done) | (simp; omega))) | (refine Ext.then (b := ?_) ?_ ?_; rotate_left; rotate_left; assumption))))) rfl (Src.lit1 (x := Thing.mk [] [] []) hH.out rfl (fun j => by simp [go_sem])) one_ThingR ?c3 ?c4 ?c5)
              case c3 => first | omega | (simp; done) | (simp; omega)
              case c4 => first | omega | (simp; done) | (simp; omega)
              case c5 =>
              intro v' w7 hS7
              clear hS q1 q2 q3
              obtain ⟨e7, n7, f7, rfl⟩ : ∃ e n f, v' = .slice e n f := by obtain ⟨e, f, h, -⟩ := hS7.form 5 rfl; exact ⟨e, _, f, h⟩
              obtain ⟨q1, q2⟩ := (hS7.box 2 rfl).facts
              have q3 := (hS7.box 2 rfl).lt
              go_wp2_with fail
              go_roundw
              case rel => exact ⟨k + 1, n7, f7, e7, ps ++ [Thing.mk [] [] []], by omega, by go_num, by rw [sumN_snoc, hsum]; simp [Thing.bulk, bulks]; omega, by simp; omega, hS7.set 2 rfl 2 (.slice e7 n7 f7)⟩
              case measure => simp [intOf]; omega
            · obtain ⟨r1, r2⟩ := (hS.box 1 rfl).facts
              have r3 := (hS.box 1 rfl).lt
              have hfin := Lib.hid ((((hS.set 1 rfl 0 (.slice e1 t.cls.length f1)).set 1 rfl 1 (.slice e2 t.vals.length f2)).set 1 rfl 2 (.slice e' n' f')).spoiltP (b := 2 * t.bulk + 200) 3 4 5 rfl rfl rfl (by
                have := hbk'.out
                omega))
              clear hS
              go_wp2_with fail
              exact bodyPost_ret (v := .agg #[.slice e1 t.cls.length f1, .slice e2 t.vals.length f2, .slice e' n' f']) (by simp [results, Tryz.results17, go_sem, r1, r2, r3]) rfl hfin.out
        · -- case 6
          clear q1 q2 q3 r1 r2 r3
          go_wp2_with fail
          go_loopw [13] (fun i wr => ∃ (k : Nat) (p : Thing) (x1 x2 x3 : Option Addr) (y1 y2 y3 z1 z2 z3 : Nat) (H' : PH), k ≤ 8 ∧ i = .int .i64 k ∧ p.bulk ≤ k + 1 ∧ ThingR H' [.slice x1 y1 z1, .slice x2 y2 z2, .slice x3 y3 z3] p ∧
            Mem w H [boxT w.heap.size (.slice a1 t.cls.length c1) (.slice a2 t.vals.length c2) (.slice a3 t.parts.length c3), boxT (w.heap.size + 1) (.slice none 0 0) (.slice none 0 0) (.slice none 0 0), boxT (w.heap.size + 1 + 1) (.slice e1 t.cls.length f1) (.slice e2 t.vals.length f2) (.slice e3 t.parts.length f3), ownI (.slice e1 t.cls.length f1) t.cls, ownV (.slice e2 t.vals.length f2) t.vals, ownT (.slice e3 t.parts.length f3) t.parts, boxT w5.heap.size (.slice x1 y1 z1) (.slice x2 y2 z2) (.slice x3 y3 z3)] H' wr) (fun i _ => 8 - (intOf i).toNat)
          case atStart =>
            refine ⟨0, .mk [] [] [], none, none, none, 0, 0, 0, 0, 0, 0, H, by omega, rfl, by simp [Thing.bulk, bulks], ?_, hS.new _ _⟩
            rw [thingR_iff]
            exact ⟨_, _, _, rfl, SliceRep.nil _ _ _, SliceRep.nil _ _ _, SliceRep.nil _ _ _⟩
          case round =>
            clear hS
            obtain ⟨k, p, x1, x2, x3, y1, y2, y3, z1, z2, z3, H', hk, rfl, hpb, hpR, hS⟩ := hrel
            obtain ⟨hz0, hz1⟩ := aroundV_range (n := by_) (m := 4) hby (by omega)
            go_wp2_with fail
            refine (around_c by_ 4 _ hby (by omega) (by omega)).mono ?_
            rintro e w6 ⟨rfl, hb6⟩
            replace hS := hS.ext hb6
            clear hb6
            generalize aroundV by_ 4 = z at *
            obtain ⟨q1, q2⟩ := (hS.box 6 rfl).facts
            have q3 := (hS.box 6 rfl).lt
            by_cases hlt : (k : Int) < 5 + z
            · obtain ⟨H2, hle, hS2, hcel⟩ := ((((hS.set 6 rfl 0 (.slice none 0 0)).set 6 rfl 1 (.slice none 0 0)).set 6 rfl 2 (.slice (some ⟨w6.heap.size, 0, none⟩) 1 1)).new' #[.slice x1 y1 z1, .slice x2 y2 z2, .slice x3 y3 z3] 27 (n := w6.heap.size) (by simp)).freezeB 7 rfl
              have hpR2 : ThingR H2 [.slice none 0 0, .slice none 0 0, .slice (some ⟨w6.heap.size, 0, none⟩) 1 1] (.mk [] [] [p]) := by
                rw [thingR_iff]
                refine ⟨_, _, _, rfl, SliceRep.nil _ _ _, SliceRep.nil _ _ _, _, 1, rfl, Nat.le_refl _, by simp [maxLen], .inr ⟨_, 0, rfl, ⟨_, rfl, fun j hj => ?_, mono_ThingR _ _ _ _ hle hpR⟩, trivial⟩⟩
                rw [hcel, Nat.zero_add]
                match j, hj with
                | 0, _ => rfl
                | 1, _ => rfl
                | 2, _ => rfl
              replace hpR2 := Lib.hid hpR2
              have hS3 := hS2.pick [0, 1, 2, 3, 4, 5, 6] (by decide)
              clear hS hS2 hcel hle hpR
              go_wp2_with fail
              go_roundw
              case rel => exact ⟨k + 1, .mk [] [] [p], none, none, some ⟨w6.heap.size, 0, none⟩, 0, 0, 1, 0, 0, 1, H2, by omega, by go_num, by simp [Thing.bulk, bulks]; omega, hpR2.out, hS3⟩
              case measure => simp [intOf]; omega
            · obtain ⟨r1, r2⟩ := (hS.box 2 rfl).facts
              have r3 := (hS.box 2 rfl).lt
              replace hpR := Lib.hid hpR
              go_wp2_with (at_builtin; refine wpList_append_M 5 rfl _ _ 23 rfl Tryz.underlying23 infoThing rfl rfl rfl ((hS.ext (by with_reducible repeat (first | assumption | exact Ext.rfl' _ | exact Ext.new _ _ | refine Ext.alloc' ?_ _ | refine Ext.drew' ?_ | refine Ext.drewN' ?_ _ | (refine Ext.set' ?_ ?_ _; rotate_left; focus (first | omega | (simp; done) | (simp; omega))) | (refine Ext.then (b := ?_) ?_ ?_; rotate_left; rotate_left; assumption))))) rfl (Src.lit1 (x := p) hpR.out rfl (fun j => by simp [go_sem])) one_ThingR ?c3 ?c4 ?c5)
              case c3 => first | omega | (simp; done) | (simp; omega)
              case c4 => first | omega | (simp; done) | (simp; omega)
              case c5 =>
              clear q1 q2 q3 r1 r2 r3 hS
              intro v' w7 hS7
              obtain ⟨e', n', f', rfl⟩ : ∃ e n f, v' = .slice e n f := by obtain ⟨e, f, h, -⟩ := hS7.form 5 rfl; exact ⟨e, _, f, h⟩
              obtain ⟨q1, q2⟩ := (hS7.box 2 rfl).facts
              have q3 := (hS7.box 2 rfl).lt
              obtain ⟨r1, r2⟩ := (hS7.box 1 rfl).facts
              have r3 := (hS7.box 1 rfl).lt
              have hfin := Lib.hid (((((hS7.set 2 rfl 2 (.slice e' n' f')).set 1 rfl 0 (.slice e1 t.cls.length f1)).set 1 rfl 1 (.slice e2 t.vals.length f2)).set 1 rfl 2 (.slice e' n' f')).spoiltP (b := 2 * t.bulk + 200) 3 4 5 rfl rfl rfl (by
                have := hbk'.out
                simp only [List.length_append, List.length_singleton, sumN_snoc]; omega))
              clear hS7
              go_wp2_with fail
              exact bodyPost_ret (v := .agg #[(.slice e1 t.cls.length f1), (.slice e2 t.vals.length f2), (.slice e' n' f')]) (by simp [results, Tryz.results17, go_sem, r1, r2, r3]) rfl hfin.out
        · -- case 7
          clear q1 q2 q3 r1 r2 r3
          go_wp2_with fail
          go_loopw [14] (fun i wr => ∃ (k : Nat) (xs : List Int), k ≤ t.cls.length ∧ i = .int .i64 k ∧ xs.length = t.cls.length ∧
            Mem w H [boxT w.heap.size (.slice a1 t.cls.length c1) (.slice a2 t.vals.length c2) (.slice a3 t.parts.length c3), boxT (w.heap.size + 1) (.slice none 0 0) (.slice none 0 0) (.slice none 0 0), boxT (w.heap.size + 1 + 1) (.slice e1 t.cls.length f1) (.slice e2 t.vals.length f2) (.slice e3 t.parts.length f3), ownI (.slice e1 t.cls.length f1) xs, ownV (.slice e2 t.vals.length f2) t.vals, ownT (.slice e3 t.parts.length f3) t.parts] H wr) (fun i _ => t.cls.length - (intOf i).toNat)
          case atStart => exact ⟨0, t.cls, by omega, rfl, rfl, hS⟩
          case round =>
            clear hS
            obtain ⟨k, xs, hk, rfl, hxl, hS⟩ := hrel
            replace hxl := Lib.hid hxl
            obtain ⟨q1, q2⟩ := (hS.box 2 rfl).facts
            have q3 := (hS.box 2 rfl).lt
            by_cases hlt : k < t.cls.length
            · obtain ⟨r1, r2⟩ := (hS.box 0 rfl).facts
              have r3 := (hS.box 0 rfl).lt
              obtain ⟨b, o, rfl, h0, hi64, hbl⟩ := IntsR.at (hc.mono mono_IntR hS.ple) (t.cls.length - 1 - k) (by omega)
              generalize t.cls[t.cls.length - 1 - k] = x at *
              have hw1 : IntKind.i64.wrap ((t.cls.length : Int) - 1) = (t.cls.length : Int) - 1 := by rw [IntKind.wrap_i64]; omega
              have hw2 : IntKind.i64.wrap ((t.cls.length : Int) - 1 - k) = (t.cls.length : Int) - 1 - k := by rw [IntKind.wrap_i64]; omega
              have hi1 : (k : Int) ≤ (t.cls.length : Int) - 1 := by omega
              have hi2 : (t.cls.length : Int) - 1 - k < t.cls.length := by omega
              have hi3 : ((t.cls.length : Int) - 1 - k).toNat = t.cls.length - 1 - k := by omega
              go_wp2_with fail
              (refine wp_region_I 13 (by kernel_rfl) (by kernel_rfl) ?_; simp only [List.toList_toArray, List.take_succ_cons, List.take_zero, List.drop_succ_cons, List.drop_zero])
              repeat ((refine walkI_is (u := ?_) rfl (by simp) rfl ?_ ?_; rotate_left; (focus (intro A w' hS hA K hK; (simp only [List.map_cons, List.map_nil, knows, Is, Op.operands, Call.operands, List.lookup_cons, List.lookup_nil, Nat.reduceBEq, Bool.false_eq_true, if_false, if_true, Act.eval, Array.getD_eq_getD_getElem?, List.getElem?_toArray, List.getElem?_cons_succ, List.getElem?_cons_zero, Option.getD_some, and_true, true_and, List.append_toArray, List.nil_append, List.cons_append, List.toList_toArray, Array.toList_append, Option.toArray, List.append_nil] at hA); first | fail | (obtain ⟨hSc, hSf, hSs⟩ := hS.cells; go_simp; exact hK _ (by first | exact Ext.rfl' _ | exact Ext.new _ _ | assumption)))); (try simp only [List.nil_append, List.cons_append])))
              (refine walkI_nil ?_; simp only [List.nil_append, List.cons_append, fins, Is, forall_eq, Act.put, List.setIfInBounds_toArray, List.set_cons_zero, List.set_cons_succ])
              intro w6 hb6
              replace hS := hS.ext hb6
              have hkx := hxl.out
              rcases hS.asBox 3 rfl with ⟨-, h6⟩ | ⟨g', cap, cur, h6, h7, h8, h9, h10, hB⟩
              · rw [h6] at hkx; simp at hkx; omega
              injection h6 with h6 _ h6'
              subst h6 h6'
              clear hS hw1 hw2 hi1 hi2 hi3 q1 q2 q3 r1 r2 r3 h0 hbl
              have hcs : cur.size = f1 := by omega
              obtain ⟨x0, hx0⟩ : ∃ x, cur[k]? = some x := ⟨_, Array.getElem?_eq_getElem (by omega)⟩
              obtain ⟨q1, q2⟩ := (hB.box 3 rfl).facts
              have q3 := (hB.box 3 rfl).lt
              have hS := (hB.set 3 rfl k (.int .i64 x)).asOwn 3 (xs := xs.set k x) (n := f1) (sz := 1) rfl mono_IntR (by simpa using h7) h8 (by simpa using hcs) (by
                simp only [Array.toList_setIfInBounds, List.length_set]
                rw [List.take_set]
                exact Cells.set1 (by exact ⟨rfl, hi64⟩) k (by omega) h10)
              rw [List.length_set, hkx] at hS
              clear hkx hB
              go_wp2_with fail
              go_roundw
              case rel => exact ⟨k + 1, xs.set k x, by omega, by go_num, by rw [List.length_set]; exact hxl.out, hS⟩
              case measure => simp [intOf]; omega
            · obtain ⟨r1, r2⟩ := (hS.box 1 rfl).facts
              have r3 := (hS.box 1 rfl).lt
              have hfin := Lib.hid ((((hS.set 1 rfl 0 (.slice e1 t.cls.length f1)).set 1 rfl 1 (.slice e2 t.vals.length f2)).set 1 rfl 2 (.slice e3 t.parts.length f3)).spoiltP (b := 2 * t.bulk + 200) 3 4 5 rfl rfl rfl (by
                have := hbk'.out
                have := hxl.out
                omega))
              clear hS
              go_wp2_with fail
              exact bodyPost_ret (v := .agg #[.slice e1 t.cls.length f1, .slice e2 t.vals.length f2, .slice e3 t.parts.length f3]) (by simp [results, Tryz.results17, go_sem, r1, r2, r3]) rfl hfin.out
        · -- case 8
          go_wp2_with (at_builtin; refine wpList_append_M 4 rfl _ _ 25 rfl Tryz.underlying25 infoVal rfl rfl rfl (hS) rfl (hS.src 4 rfl) one_ValR ?c3 ?c4 ?c5)
          case c3 => first | omega | (simp; done) | (simp; omega)
          case c4 => first | omega | (simp; done) | (simp; omega)
          case c5 =>
          intro v' w6 hS6
          obtain ⟨e', n', f', rfl⟩ : ∃ e n f, v' = .slice e n f := by obtain ⟨e, f, h, -⟩ := hS6.form 4 rfl; exact ⟨e, _, f, h⟩
          clear q1 q2 q3 r1 r2 r3 hS
          obtain ⟨q1, q2⟩ := (hS6.box 2 rfl).facts
          have q3 := (hS6.box 2 rfl).lt
          have hS := hS6.set 2 rfl 1 (.slice e' n' f')
          go_wp2_with (at_builtin; refine wpList_append_M 3 rfl _ _ 22 rfl Tryz.underlying22 infoInt rfl rfl rfl (hS) rfl (hS.src 3 rfl) one_IntR ?c3 ?c4 ?c5)
          case c3 => first | omega | (simp; done) | (simp; omega)
          case c4 => first | omega | (simp; done) | (simp; omega)
          case c5 =>
          clear q1 q2 q3 hS hS6
          intro v' w7 hS7
          obtain ⟨e4, n4, f4, rfl⟩ : ∃ e n f, v' = .slice e n f := by obtain ⟨e, f, h, -⟩ := hS7.form 3 rfl; exact ⟨e, _, f, h⟩
          obtain ⟨q1, q2⟩ := (hS7.box 2 rfl).facts
          have q3 := (hS7.box 2 rfl).lt
          obtain ⟨r1, r2⟩ := (hS7.box 1 rfl).facts
          have r3 := (hS7.box 1 rfl).lt
          have hfin := Lib.hid (((((hS7.set 2 rfl 0 (.slice e4 n4 f4)).set 1 rfl 0 (.slice e4 n4 f4)).set 1 rfl 1 (.slice e' n' f')).set 1 rfl 2 (.slice e3 t.parts.length f3)).spoiltP (b := 2 * t.bulk + 200) 3 4 5 rfl rfl rfl (by
            have := hbk'.out
            simp only [List.length_append]; omega))
          clear hS7
          go_wp2_with fail
          exact bodyPost_ret (v := .agg #[.slice e4 n4 f4, .slice e' n' f', .slice e3 t.parts.length f3]) (by simp [results, Tryz.results17, go_sem, r1, r2, r3]) rfl hfin.out
end Go.Proofs.YtnhcplmcddlgnaaGreat
namespace Go.Proofs.YtnhcplmcddlgnaaGreat
open Go.RowKit
set_option linter.unusedSimpArgs false
set_option linter.unusedVariables false
set_option maxHeartbeats 400000 in
theorem size_c (t : Thing) : ∀ (cs : List Value) (w : World), ThingR (ph w) cs t → t.size < 1000000 →
    Calls Tryz.prog 11 #[.agg cs.toArray] w (RetV w (.int .i64 t.size)) := by
  induction t using Thing.ind with
  | h t ih =>
    intro cs w hr hs
    obtain ⟨a1, c1, a2, c2, a3, c3, rfl, -, -, hlen, -, -, hp⟩ := hr.form
    rw [Thing.size_eq] at hs
    go_enter Tryz.func11, Tryz.ntmps11
    go_wp2
    go_loopw [3, 9] (fun n i wr => ∃ k : Nat, k ≤ t.parts.length ∧ i = .int .i64 k ∧ n = .int .i64 (1 + sumN Thing.size (t.parts.take k) : Nat) ∧ Ext w wr) (fun _ i _ => t.parts.length - (intOf i).toNat)
    case atStart => exact ⟨0, Nat.zero_le _, rfl, by simp [sumN], (by with_reducible repeat (first | assumption | exact Ext.rfl' _ | exact Ext.new _ _ | refine Ext.alloc' ?_ _ | refine Ext.drew' ?_ | refine Ext.drewN' ?_ _ | (refine Ext.set' ?_ ?_ _; rotate_left; focus (first | omega | (simp; done) | (simp; omega))) | (refine Ext.then (b := ?_) ?_ ?_; rotate_left; rotate_left; assumption)))⟩
    case round =>
      obtain ⟨k, hk, rfl, rfl, hb⟩ := hrel
      have hst := sumN_take_le Thing.size t.parts k
      by_cases hlt : k < t.parts.length
      · have hp' := hp.mono mono_ThingR hb.ple
        obtain ⟨b, o, b1, d1, b2, d2, b3, d3, rfl, h0, h1, h2, hE, hbl⟩ := ThingsR.at hp' k hlt
        have H3 := Lib.hid (sumN_take Thing.size t.parts k hlt)
        have hst2 := sumN_take_le Thing.size t.parts (k+1)
        rw [H3.out] at hst2
        have H := Lib.hid ih
        clear ih hp hp'
        go_wp2_with fail
        refine (H.out _ (by simp) _ _ (mono_ThingR _ _ _ _ (Ext.ple (by with_reducible repeat (first | assumption | exact Ext.rfl' _ | exact Ext.new _ _ | refine Ext.alloc' ?_ _ | refine Ext.drew' ?_ | refine Ext.drewN' ?_ _ | (refine Ext.set' ?_ ?_ _; rotate_left; focus (first | omega | (simp; done) | (simp; omega))) | (refine Ext.then (b := ?_) ?_ ?_; rotate_left; rotate_left; assumption)))) hE) (by omega)).mono ?_
        rintro e w1 ⟨rfl, hb1⟩
        go_wp2_with fail
        go_roundw
        case rel => exact ⟨k + 1, by omega, by go_num, by rw [H3.out]; go_num, (by with_reducible repeat (first | assumption | exact Ext.rfl' _ | exact Ext.new _ _ | refine Ext.alloc' ?_ _ | refine Ext.drew' ?_ | refine Ext.drewN' ?_ _ | (refine Ext.set' ?_ ?_ _; rotate_left; focus (first | omega | (simp; done) | (simp; omega))) | (refine Ext.then (b := ?_) ?_ ?_; rotate_left; rotate_left; assumption)))⟩
        case measure => simp [intOf]; omega
      · have hst2 : t.parts.take k = t.parts := List.take_of_length_le (by omega)
        have H3 := Lib.hid hst2
        clear hst2 ih hp
        go_wp2_with fail
        go_ret
        refine ⟨ret_int ?_, hb⟩
        rw [H3.out, Thing.size_eq]
set_option maxHeartbeats 400000 in
theorem size_r (t : Thing) : ∀ (cs : List Value) (w : World), ThingR (ph w) cs t → t.size < 1000000 →
    Calls Tryz.prog 12 #[.agg cs.toArray] w (RetV w (.int .i64 t.size)) := by
  induction t using Thing.ind with
  | h t ih =>
    intro cs w hr hs
    obtain ⟨a1, c1, a2, c2, a3, c3, rfl, -, -, hlen, -, -, hp⟩ := hr.form
    rw [Thing.size_eq] at hs
    go_enter Tryz.func12, Tryz.ntmps12
    go_wp2
    go_loopw [3, 4] (fun n i wr => ∃ k : Nat, k ≤ t.parts.length ∧ i = .int .i64 k ∧ n = .int .i64 (1 + sumN Thing.size (t.parts.take k) : Nat) ∧ Own wr w.heap.size #[.slice a1 t.cls.length c1, .slice a2 t.vals.length c2, .slice a3 t.parts.length c3] 27 ∧ Ext w wr) (fun _ i _ => t.parts.length - (intOf i).toNat)
    case atStart => exact ⟨0, Nat.zero_le _, rfl, by simp [sumN], (by repeat (first | (with_reducible assumption) | (with_reducible exact Own.new _ _ _) | (with_reducible refine Own.new' _ _ _ ?_; (focus (simp; done))) | (with_reducible refine Own.alloc ?_ _) | (with_reducible refine Own.drew ?_) | (with_reducible refine Own.drewN ?_ _) | (with_reducible refine Own.keep (w := ?_) ?_ ?_; rotate_left; (with_reducible assumption); (exact (by with_reducible repeat (first | assumption | exact Ext.rfl' _ | exact Ext.new _ _ | refine Ext.alloc' ?_ _ | refine Ext.drew' ?_ | refine Ext.drewN' ?_ _ | (refine Ext.set' ?_ ?_ _; rotate_left; focus (first | omega | (simp; done) | (simp; omega))) | (refine Ext.then (b := ?_) ?_ ?_; rotate_left; rotate_left; assumption))))) | (with_reducible refine Own.keep (w := ?_) ?_ ?_; rotate_left; rotate_left; (with_reducible assumption)))), (by with_reducible repeat (first | assumption | exact Ext.rfl' _ | exact Ext.new _ _ | refine Ext.alloc' ?_ _ | refine Ext.drew' ?_ | refine Ext.drewN' ?_ _ | (refine Ext.set' ?_ ?_ _; rotate_left; focus (first | omega | (simp; done) | (simp; omega))) | (refine Ext.then (b := ?_) ?_ ?_; rotate_left; rotate_left; assumption)))⟩
    case round =>
      obtain ⟨k, hk, rfl, rfl, ho, hb⟩ := hrel
      obtain ⟨hoc, hof⟩ := ho.facts
      have hst := sumN_take_le Thing.size t.parts k
      by_cases hlt : k < t.parts.length
      · have hp' := hp.mono mono_ThingR hb.ple
        obtain ⟨b, o, b1, d1, b2, d2, b3, d3, rfl, h0, h1, h2, hE, hbl⟩ := ThingsR.at hp' k hlt
        have H3 := Lib.hid (sumN_take Thing.size t.parts k hlt)
        have hst2 := sumN_take_le Thing.size t.parts (k+1)
        rw [H3.out] at hst2
        have H := Lib.hid ih
        clear ih hp hp'
        go_wp2_with fail
        refine (H.out _ (by simp) _ _ (mono_ThingR _ _ _ _ (Ext.ple (by with_reducible repeat (first | assumption | exact Ext.rfl' _ | exact Ext.new _ _ | refine Ext.alloc' ?_ _ | refine Ext.drew' ?_ | refine Ext.drewN' ?_ _ | (refine Ext.set' ?_ ?_ _; rotate_left; focus (first | omega | (simp; done) | (simp; omega))) | (refine Ext.then (b := ?_) ?_ ?_; rotate_left; rotate_left; assumption)))) hE) (by omega)).mono ?_
        rintro e w1 ⟨rfl, hb1⟩
        go_wp2_with fail
        go_roundw
        case rel => exact ⟨k + 1, by omega, by go_num, by rw [H3.out]; go_num, (by repeat (first | (with_reducible assumption) | (with_reducible exact Own.new _ _ _) | (with_reducible refine Own.new' _ _ _ ?_; (focus (simp; done))) | (with_reducible refine Own.alloc ?_ _) | (with_reducible refine Own.drew ?_) | (with_reducible refine Own.drewN ?_ _) | (with_reducible refine Own.keep (w := ?_) ?_ ?_; rotate_left; (with_reducible assumption); (exact (by with_reducible repeat (first | assumption | exact Ext.rfl' _ | exact Ext.new _ _ | refine Ext.alloc' ?_ _ | refine Ext.drew' ?_ | refine Ext.drewN' ?_ _ | (refine Ext.set' ?_ ?_ _; rotate_left; focus (first | omega | (simp; done) | (simp; omega))) | (refine Ext.then (b := ?_) ?_ ?_; rotate_left; rotate_left; assumption))))) | (with_reducible refine Own.keep (w := ?_) ?_ ?_; rotate_left; rotate_left; (with_reducible assumption)))), (by with_reducible repeat (first | assumption | exact Ext.rfl' _ | exact Ext.new _ _ | refine Ext.alloc' ?_ _ | refine Ext.drew' ?_ | refine Ext.drewN' ?_ _ | (refine Ext.set' ?_ ?_ _; rotate_left; focus (first | omega | (simp; done) | (simp; omega))) | (refine Ext.then (b := ?_) ?_ ?_; rotate_left; rotate_left; assumption)))⟩
        case measure => simp [intOf]; omega
      · have hst2 : t.parts.take k = t.parts := List.take_of_length_le (by omega)
        have H3 := Lib.hid hst2
        clear hst2 ih hp
        go_wp2_with fail
        go_ret
        refine ⟨ret_int ?_, hb⟩
        rw [H3.out, Thing.size_eq]
set_option maxHeartbeats 400000 in
theorem deep_c (t : Thing) : ∀ (cs : List Value) (w : World), ThingR (ph w) cs t → t.deep < 1000000 →
    Calls Tryz.prog 26 #[.agg cs.toArray] w (RetV w (.int .i64 t.deep)) := by
  induction t using Thing.ind with
  | h t ih =>
    intro cs w hr hs
    obtain ⟨a1, c1, a2, c2, a3, c3, rfl, -, -, hlen, -, -, hp⟩ := hr.form
    rw [Thing.deep_eq] at hs
    go_enter Tryz.func26, Tryz.ntmps26
    go_wp2
    go_loopw [3, 9] (fun n i wr => ∃ k : Nat, k ≤ t.parts.length ∧ i = .int .i64 k ∧ n = .int .i64 (maxN Thing.deep (t.parts.take k) : Nat) ∧ Ext w wr) (fun _ i _ => t.parts.length - (intOf i).toNat)
    case atStart => exact ⟨0, Nat.zero_le _, rfl, by simp [maxN], (by with_reducible repeat (first | assumption | exact Ext.rfl' _ | exact Ext.new _ _ | refine Ext.alloc' ?_ _ | refine Ext.drew' ?_ | refine Ext.drewN' ?_ _ | (refine Ext.set' ?_ ?_ _; rotate_left; focus (first | omega | (simp; done) | (simp; omega))) | (refine Ext.then (b := ?_) ?_ ?_; rotate_left; rotate_left; assumption)))⟩
    case round =>
      obtain ⟨k, hk, rfl, rfl, hb⟩ := hrel
      have hst := maxN_take_le Thing.deep t.parts k
      by_cases hlt : k < t.parts.length
      · have hp' := hp.mono mono_ThingR hb.ple
        obtain ⟨b, o, b1, d1, b2, d2, b3, d3, rfl, h0, h1, h2, hE, hbl⟩ := ThingsR.at hp' k hlt
        have H3 := Lib.hid (maxN_take Thing.deep t.parts k hlt)
        have hst2 := maxN_take_le Thing.deep t.parts (k+1)
        rw [H3.out] at hst2
        have H := Lib.hid ih
        clear ih hp hp'
        go_wp2_with fail
        refine (H.out _ (by simp) _ _ (mono_ThingR _ _ _ _ (Ext.ple (by with_reducible repeat (first | assumption | exact Ext.rfl' _ | exact Ext.new _ _ | refine Ext.alloc' ?_ _ | refine Ext.drew' ?_ | refine Ext.drewN' ?_ _ | (refine Ext.set' ?_ ?_ _; rotate_left; focus (first | omega | (simp; done) | (simp; omega))) | (refine Ext.then (b := ?_) ?_ ?_; rotate_left; rotate_left; assumption)))) hE) (by omega)).mono ?_
        rintro e w1 ⟨rfl, hb1⟩
        go_wp2_with fail
        go_roundw
        case rel => exact ⟨k + 1, by omega, by go_num, by rw [H3.out]; go_num, (by with_reducible repeat (first | assumption | exact Ext.rfl' _ | exact Ext.new _ _ | refine Ext.alloc' ?_ _ | refine Ext.drew' ?_ | refine Ext.drewN' ?_ _ | (refine Ext.set' ?_ ?_ _; rotate_left; focus (first | omega | (simp; done) | (simp; omega))) | (refine Ext.then (b := ?_) ?_ ?_; rotate_left; rotate_left; assumption)))⟩
        case measure => simp [intOf]; omega
      · have hst2 : t.parts.take k = t.parts := List.take_of_length_le (by omega)
        have H3 := Lib.hid hst2
        clear hst2 ih hp
        go_wp2_with fail
        go_ret
        refine ⟨ret_int ?_, hb⟩
        rw [H3.out, Thing.deep_eq]; omega
set_option maxHeartbeats 400000 in
theorem deep_r (t : Thing) : ∀ (cs : List Value) (w : World), ThingR (ph w) cs t → t.deep < 1000000 →
    Calls Tryz.prog 45 #[.agg cs.toArray] w (RetV w (.int .i64 t.deep)) := by
  induction t using Thing.ind with
  | h t ih =>
    intro cs w hr hs
    obtain ⟨a1, c1, a2, c2, a3, c3, rfl, -, -, hlen, -, -, hp⟩ := hr.form
    rw [Thing.deep_eq] at hs
    go_enter Tryz.func45, Tryz.ntmps45
    go_wp2
    go_loopw [3, 4] (fun n i wr => ∃ k : Nat, k ≤ t.parts.length ∧ i = .int .i64 k ∧ n = .int .i64 (maxN Thing.deep (t.parts.take k) : Nat) ∧ Own wr w.heap.size #[.slice a1 t.cls.length c1, .slice a2 t.vals.length c2, .slice a3 t.parts.length c3] 27 ∧ Ext w wr) (fun _ i _ => t.parts.length - (intOf i).toNat)
    case atStart => exact ⟨0, Nat.zero_le _, rfl, by simp [maxN], (by repeat (first | (with_reducible assumption) | (with_reducible exact Own.new _ _ _) | (with_reducible refine Own.new' _ _ _ ?_; (focus (simp; done))) | (with_reducible refine Own.alloc ?_ _) | (with_reducible refine Own.drew ?_) | (with_reducible refine Own.drewN ?_ _) | (with_reducible refine Own.keep (w := ?_) ?_ ?_; rotate_left; (with_reducible assumption); (exact (by with_reducible repeat (first | assumption | exact Ext.rfl' _ | exact Ext.new _ _ | refine Ext.alloc' ?_ _ | refine Ext.drew' ?_ | refine Ext.drewN' ?_ _ | (refine Ext.set' ?_ ?_ _; rotate_left; focus (first | omega | (simp; done) | (simp; omega))) | (refine Ext.then (b := ?_) ?_ ?_; rotate_left; rotate_left; assumption))))) | (with_reducible refine Own.keep (w := ?_) ?_ ?_; rotate_left; rotate_left; (with_reducible assumption)))), (by with_reducible repeat (first | assumption | exact Ext.rfl' _ | exact Ext.new _ _ | refine Ext.alloc' ?_ _ | refine Ext.drew' ?_ | refine Ext.drewN' ?_ _ | (refine Ext.set' ?_ ?_ _; rotate_left; focus (first | omega | (simp; done) | (simp; omega))) | (refine Ext.then (b := ?_) ?_ ?_; rotate_left; rotate_left; assumption)))⟩
    case round =>
      obtain ⟨k, hk, rfl, rfl, ho, hb⟩ := hrel
      obtain ⟨hoc, hof⟩ := ho.facts
      have hst := maxN_take_le Thing.deep t.parts k
      by_cases hlt : k < t.parts.length
      · have hp' := hp.mono mono_ThingR hb.ple
        obtain ⟨b, o, b1, d1, b2, d2, b3, d3, rfl, h0, h1, h2, hE, hbl⟩ := ThingsR.at hp' k hlt
        have H3 := Lib.hid (maxN_take Thing.deep t.parts k hlt)
        have hst2 := maxN_take_le Thing.deep t.parts (k+1)
        rw [H3.out] at hst2
        have H := Lib.hid ih
        clear ih hp hp'
        go_wp2_with fail
        refine (H.out _ (by simp) _ _ (mono_ThingR _ _ _ _ (Ext.ple (by with_reducible repeat (first | assumption | exact Ext.rfl' _ | exact Ext.new _ _ | refine Ext.alloc' ?_ _ | refine Ext.drew' ?_ | refine Ext.drewN' ?_ _ | (refine Ext.set' ?_ ?_ _; rotate_left; focus (first | omega | (simp; done) | (simp; omega))) | (refine Ext.then (b := ?_) ?_ ?_; rotate_left; rotate_left; assumption)))) hE) (by omega)).mono ?_
        rintro e w1 ⟨rfl, hb1⟩
        go_wp2_with fail
        go_roundw
        case rel => exact ⟨k + 1, by omega, by go_num, by rw [H3.out]; go_num, (by repeat (first | (with_reducible assumption) | (with_reducible exact Own.new _ _ _) | (with_reducible refine Own.new' _ _ _ ?_; (focus (simp; done))) | (with_reducible refine Own.alloc ?_ _) | (with_reducible refine Own.drew ?_) | (with_reducible refine Own.drewN ?_ _) | (with_reducible refine Own.keep (w := ?_) ?_ ?_; rotate_left; (with_reducible assumption); (exact (by with_reducible repeat (first | assumption | exact Ext.rfl' _ | exact Ext.new _ _ | refine Ext.alloc' ?_ _ | refine Ext.drew' ?_ | refine Ext.drewN' ?_ _ | (refine Ext.set' ?_ ?_ _; rotate_left; focus (first | omega | (simp; done) | (simp; omega))) | (refine Ext.then (b := ?_) ?_ ?_; rotate_left; rotate_left; assumption))))) | (with_reducible refine Own.keep (w := ?_) ?_ ?_; rotate_left; rotate_left; (with_reducible assumption)))), (by with_reducible repeat (first | assumption | exact Ext.rfl' _ | exact Ext.new _ _ | refine Ext.alloc' ?_ _ | refine Ext.drew' ?_ | refine Ext.drewN' ?_ _ | (refine Ext.set' ?_ ?_ _; rotate_left; focus (first | omega | (simp; done) | (simp; omega))) | (refine Ext.then (b := ?_) ?_ ?_; rotate_left; rotate_left; assumption)))⟩
        case measure => simp [intOf]; omega
      · have hst2 : t.parts.take k = t.parts := List.take_of_length_le (by omega)
        have H3 := Lib.hid hst2
        clear hst2 ih hp
        go_wp2_with fail
        go_ret
        refine ⟨ret_int ?_, hb⟩
        rw [H3.out, Thing.deep_eq]; omega
end Go.Proofs.YtnhcplmcddlgnaaGreat
namespace Go.Proofs.YtnhcplmcddlgnaaGreat
open Go.RowKit Go.Shelf
set_option linter.unusedSimpArgs false
set_option linter.unusedVariables false
theorem OwnS.lower {α : Type} {E : PH → List Value → α → Prop} {sz b b' : Nat} {H : PH} {w : World} {T : TypeId} {v : Value} {xs : List α} (h : OwnS b H w E sz T v xs) (hb : b' ≤ b) : OwnS b' H w E sz T v xs := by
  rcases h with h | ⟨g, cap, cur, h1, h2, h3⟩
  · exact .inl h
  · exact .inr ⟨g, cap, cur, h1, Nat.le_trans hb h2, h3⟩
theorem mem3 {w0 wr w4 : World} {H0 H : PH} {L : List Chunk} {v1 v2 : Value} {xs : List Int} {ys : List Val} {g : Nat} {c : Array Value} (hM : Mem w0 H0 L H wr) (e : Ext wr w4)
    (h1 : OwnS wr.heap.size noH w4 IntR 1 3 v1 xs) (h2 : OwnS wr.heap.size noH w4 ValR 3 46 v2 ys) (h3 : Own w4 g c 27) (hg : wr.heap.size ≤ g) :
    Mem w0 H0 (L ++ [ownI v1 xs] ++ [ownV v2 ys] ++ [box g c 27]) H w4 := by
  have hM4 := hM.ext e
  have hold : ∀ k, wr.heap.size ≤ k → w0.heap.size ≤ k ∧ H k = none ∧ ∀ (i : Nat) (d : Chunk), L[i]? = some d → d.foot ≠ some k := fun k hk =>
    ⟨Nat.le_trans hM.ex.size hk, fresh_none hM.ple hk, fun i d hi he => by have := hM.lt hi he; omega⟩
  have hA := hM4.add (ownI v1 xs) ((ownI v1 xs).mono h1.c (noH_le H)) fun k hk => hold k (h1.lt k hk).1
  have hB := hA.add (ownV v2 ys) ((ownV v2 ys).mono h2.c (noH_le H)) fun k hk => by
    obtain ⟨k1, k2, k3⟩ := hold k (h2.lt k hk).1
    refine ⟨k1, k2, fun i d hi he => ?_⟩
    rcases getElem?_snoc hi with hi | ⟨-, rfl⟩
    · exact k3 i d hi he
    · obtain ⟨cu1, q1⟩ := h1.ty he
      obtain ⟨cu2, q2⟩ := h2.ty hk
      exact ty_ne q1 q2 (by decide) rfl
  refine hB.add (box g c 27) h3 fun k hk => ?_
  obtain rfl : g = k := by cases hk; rfl
  obtain ⟨k1, k2, k3⟩ := hold g hg
  refine ⟨k1, k2, fun i d hi he => ?_⟩
  rcases getElem?_snoc hi with hi | ⟨-, rfl⟩
  · rcases getElem?_snoc hi with hi | ⟨-, rfl⟩
    · exact k3 i d hi he
    · obtain ⟨cu1, q1⟩ := h1.ty he
      exact ty_ne q1 h3 (by decide) rfl
  · obtain ⟨cu2, q2⟩ := h2.ty he
    exact ty_ne q2 h3 (by decide) rfl
theorem Mem.setT {w0 w : World} {H0 H : PH} {L : List Chunk} (h : Mem w0 H0 L H w) (i : Nat) {b : Nat} {a0 a1 a2 : Value} {T : TypeId} (hi : L[i]? = some (Proofs.YtnhcplmcddlgnaaGreat.box b #[a0, a1, a2] T)) (p q r : Value) :
    Mem w0 H0 (L.set i (Proofs.YtnhcplmcddlgnaaGreat.box b #[p, q, r] T)) H (((w.setCell ⟨b, 0, none⟩ p).setCell ⟨b, 1, none⟩ q).setCell ⟨b, 2, none⟩ r) := by
  have hil : i < L.length := (List.getElem?_eq_some_iff.1 hi).1
  have h1 := h.set i hi 0 p
  have h2 := h1.set i (List.getElem?_set_self hil) 1 q
  rw [List.set_set] at h2
  have h3 := h2.set i (List.getElem?_set_self hil) 2 r
  rw [List.set_set] at h3
  simpa using h3
theorem Mem.cellsT {w0 w : World} {H0 H : PH} {L : List Chunk} (h : Mem w0 H0 L H w) (i : Nat) {b : Nat} {a0 a1 a2 : Value} {T : TypeId} (hi : L[i]? = some (Proofs.YtnhcplmcddlgnaaGreat.box b #[a0, a1, a2] T)) :
    w.cell? ⟨b, 0, none⟩ = some a0 ∧ w.cell? ⟨b, 1, none⟩ = some a1 ∧ w.cell? ⟨b, 2, none⟩ = some a2 ∧ b < w.heap.size :=
  ⟨(h.box i hi).facts.1 0, (h.box i hi).facts.1 1, (h.box i hi).facts.1 2, (h.box i hi).lt⟩
theorem Mem.cellsF {w0 w : World} {H0 H : PH} {L : List Chunk} (h : Mem w0 H0 L H w) (i : Nat) {b : Nat} {a0 a1 a2 : Value} {T : TypeId} (hi : L[i]? = some (Proofs.YtnhcplmcddlgnaaGreat.box b #[a0, a1, a2] T)) :
    w.cell? ⟨b, 0, none⟩ = some a0 ∧ w.cell? ⟨b, 1, none⟩ = some a1 ∧ w.cell? ⟨b, 2, none⟩ = some a2 ∧ b < w.heap.size ∧ ∀ j, w.frozen? ⟨b, j, none⟩ = false :=
  ⟨(h.box i hi).facts.1 0, (h.box i hi).facts.1 1, (h.box i hi).facts.1 2, (h.box i hi).lt, (h.box i hi).facts.2⟩
end Go.Proofs.YtnhcplmcddlgnaaGreat
