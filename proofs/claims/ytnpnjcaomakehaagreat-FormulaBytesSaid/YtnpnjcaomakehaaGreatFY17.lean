/- Lemmas for FY, part 18: priorartref01.SameBytes, and more. -/
import Derived.Test.YtnpnjcaomakehaaGreatFY00
import Derived.Test.YtnpnjcaomakehaaGreatFY01
import Derived.Test.YtnpnjcaomakehaaGreatFY03
import Derived.Test.YtnpnjcaomakehaaGreatFY04
import Derived.Test.YtnpnjcaomakehaaGreatFY06
import Derived.Test.YtnpnjcaomakehaaGreatFY16
set_option linter.unusedSimpArgs false
set_option linter.unusedVariables false
namespace Go.Proofs.YtnpnjcaomakehaaGreat
open Go.RowKit
set_option maxHeartbeats 400000 in
theorem sameBytes_c (va vb : Value) (l m : List UInt8) (w : World) (ha : BytesR (ph w) va l) (hb : BytesR (ph w) vb m) :
    Calls Tryz.prog 11 #[va, vb] w (RetV w (.bool (B (l = m)))) := by
  obtain ⟨a, c, rfl, hlen, ha⟩ := ha.form
  obtain ⟨a', c', rfl, hlen', hb⟩ := hb.form
  by_cases hl : l.length = m.length
  · have HL := Lib.hid hl
    have hlb : ((l.length : Int) == (m.length : Int)) = true := by simp [hl]
    clear hl
    go_enter Tryz.func11, Tryz.ntmps11
    go_wp2_with fail
    go_loopw [5] (fun i wr => ∃ k : Nat, k ≤ l.length ∧ i = .int .i64 k ∧ Hid (l.take k = m.take k) ∧ Ext w wr) (fun i _ => l.length - (intOf i).toNat)
    case atStart => exact ⟨0, Nat.zero_le _, rfl, Lib.hid (by simp), xE⟩
    case round =>
      obtain ⟨k, hk, rfl, ht, hx⟩ := hrel
      by_cases hlt : k < l.length
      · have hlm : k < m.length := by have := HL.out; omega
        obtain ⟨b, o, rfl, h0, hbl⟩ := BytesR.at (ha.mono mono_ByteR hx.ple) k hlt
        obtain ⟨b', o', rfl, h0', hbl'⟩ := BytesR.at (hb.mono mono_ByteR hx.ple) k hlm
        generalize hx1 : l[k] = x at *
        generalize hx2 : m[k] = y at *
        replace hx1 := Lib.hid hx1
        replace hx2 := Lib.hid hx2
        clear ha hb
        go_wp2_with fail
        (refine wp_region_calm (S := fun w' => Ext _ w') (by kernel_rfl) (by kernel_rfl) (Ext.rfl' _).drew' ?_; (try simp only [List.toList_toArray]); (repeat (first | (refine walkF_skip ?_ ?_; (focus rfl); (try simp only [Act.put, List.setIfInBounds_toArray, List.set_cons_zero, List.set_cons_succ])) | (refine walkF_step (v := ?_) rfl ?_ ?_ ?_; rotate_left; (focus rfl); (focus (intro w' hS A hA K hK; (simp only [agrees, Op.operands, Call.operands, Act.eval, Array.getD_eq_getD_getElem?, List.getElem?_toArray, List.getElem?_cons_succ, List.getElem?_cons_zero, Option.getD_some, and_true, true_and, List.append_toArray, List.nil_append, List.cons_append, List.toList_toArray, Array.toList_append] at hA); (obtain ⟨hSc, hSf, hSs⟩ := hS.cells; go_simp; exact hK _ hS))); (try simp only [Act.put, List.setIfInBounds_toArray, List.set_cons_zero, List.set_cons_succ])))); refine walkF_nil ?_)
        intro w2 hw2
        by_cases hxy : x = y
        · subst hxy
          go_wp2_with fail
          all_goals first
            | (exfalso; simp_all; done)
            | (go_roundw
               case rel => exact ⟨k + 1, by omega, by go_num, Lib.hid (by rw [take_snoc l k hlt, take_snoc m k hlm, ht.out, hx1.out, hx2.out]), xE⟩
               case measure => simp [intOf]; omega)
        · have hn : ((x.toNat : Int) == (y.toNat : Int)) = false := by
            rw [beq_eq_false_iff_ne]; intro h; apply hxy; exact UInt8.toNat_inj.1 (by omega)
          replace hxy := Lib.hid hxy
          go_wp2_with fail
          all_goals first
            | (exfalso; simp_all; done)
            | (go_ret
               refine ⟨ret_f (fun h => ?_), xE⟩
               subst h
               exact hxy.out (hx1.out.symm.trans hx2.out))
      · have hkl : k = l.length := by omega
        clear ha hb
        go_wp2_with fail
        go_ret
        refine ⟨ret_t ?_, xE⟩
        have h1 := ht.out
        rw [List.take_of_length_le (by omega), List.take_of_length_le (by have := HL.out; omega)] at h1
        exact h1
  · have HL : Hid (¬ l = m) := fun h => hl (by rw [h])
    have hlb : ((l.length : Int) == (m.length : Int)) = false := by rw [beq_eq_false_iff_ne]; omega
    clear hl
    go_enter Tryz.func11, Tryz.ntmps11
    go_wp2_with fail
    go_ret
    exact ⟨ret_f HL.out, xE⟩
end Go.Proofs.YtnpnjcaomakehaaGreat
namespace Go.Proofs.YtnpnjcaomakehaaGreat
open Go.RowKit Go.Shelf
def itvN (x : Itv) : List Int := [x.lo.num, x.lo.den, x.hi.num, x.hi.den, oneI x.loO, oneI x.hiO, oneI x.loI, oneI x.hiI]
def itvE (x : Itv) : List UInt8 := encInts (itvN x)
mutual
def bytesF : Fm → List UInt8
  | .mk op n inn kids => encI op ++ (encI n ++ (encI inn.length ++ (inn.flatMap itvE ++ (encI kids.length ++ bytesFs kids))))
def bytesFs : List Fm → List UInt8
  | [] => []
  | f :: l => bytesF f ++ bytesFs l
end
theorem bytesF_eq (f : Fm) : bytesF f = encI f.op ++ (encI f.n ++ (encI f.inn.length ++ (f.inn.flatMap itvE ++ (encI f.kids.length ++ bytesFs f.kids)))) := by cases f; rfl
theorem bytesFs_snoc : ∀ (l : List Fm) (x : Fm), bytesFs (l ++ [x]) = bytesFs l ++ bytesF x
  | [], x => by simp [bytesFs]
  | y :: l, x => by rw [List.cons_append, bytesFs, bytesFs, bytesFs_snoc l x, List.append_assoc]
def NodeI (f : Fm) : Prop := I64 f.op ∧ I64 f.n ∧ (∀ x ∈ f.inn, x.I) ∧ f.inn.length ≤ 9223372036854775807 ∧ f.kids.length ≤ 9223372036854775807
def FmI (f : Fm) : Prop := ∀ g ∈ f.pre, NodeI g
theorem FmI.node {f : Fm} (h : FmI f) : NodeI f := h f (by rw [f.pre_eq]; simp)
theorem FmI.kid {f g : Fm} (h : FmI f) (hg : g ∈ f.kids) : FmI g := fun x hx => h x (by
  rw [f.pre_eq, List.mem_cons, List.mem_flatMap]; exact .inr ⟨g, hg, hx⟩)
theorem FmI.of {f : Fm} (h : NodeI f) (hk : ∀ g ∈ f.kids, FmI g) : FmI f := fun x hx => by
  rw [f.pre_eq, List.mem_cons, List.mem_flatMap] at hx
  rcases hx with rfl | ⟨g, hg, hx⟩
  · exact h
  · exact hk g hg x hx
theorem itvs_I {h : PH} {v : Value} {l : List Itv} (hr : ItvsR h v l) : ∀ x ∈ l, x.I := by
  obtain ⟨a, c, rfl, -, hr⟩ := hr.form
  intro x hx
  obtain ⟨j, hj, rfl⟩ := List.mem_iff_getElem.1 hx
  obtain ⟨b, o, cs, -, -, -, hE⟩ := hr.get j hj
  exact hE.2
theorem FmR.i {h : PH} (f : Fm) : ∀ cs, FmR h cs f → FmI f := by
  induction f using Fm.ind with
  | h f ih =>
    intro cs hr
    obtain ⟨a3, c3, a4, c4, rfl, i1, i2, l1, l2, hi, hk⟩ := hr.form
    refine .of ⟨i1, i2, itvs_I hi, l1, l2⟩ fun g hg => ?_
    obtain ⟨j, hj, rfl⟩ := List.mem_iff_getElem.1 hg
    obtain ⟨b, o, cs, -, -, -, hE⟩ := hk.get j hj
    exact ih _ hg cs hE
theorem itvN_I {x : Itv} (h : x.I) : ∀ y ∈ itvN x, I64 y := by
  obtain ⟨⟨h1, h2⟩, h3, h4⟩ := h
  intro y hy
  simp only [itvN, List.mem_cons, List.not_mem_nil, or_false] at hy
  rcases hy with rfl | rfl | rfl | rfl | rfl | rfl | rfl | rfl <;> first | exact oneI_I64 _ | assumption
theorem itvN_inj {x y : Itv} (h : itvN x = itvN y) : x = y := by
  obtain ⟨⟨a, b⟩, ⟨c, d⟩, p, q, r, s⟩ := x
  obtain ⟨⟨a', b'⟩, ⟨c', d'⟩, p', q', r', s'⟩ := y
  simp only [itvN, List.cons.injEq, and_true] at h
  obtain ⟨h1, h2, h3, h4, h5, h6, h7, h8⟩ := h
  have := oneI_inj h5; have := oneI_inj h6; have := oneI_inj h7; have := oneI_inj h8
  subst_vars; rfl
theorem itvs_pre : ∀ {l m : List Itv}, l.length = m.length → (∀ x ∈ l, x.I) → (∀ x ∈ m, x.I) → ∀ {r s : List UInt8}, l.flatMap itvE ++ r = m.flatMap itvE ++ s → l = m ∧ r = s
  | [], [], _, _, _, r, s, h => ⟨rfl, h⟩
  | [], _ :: _, h, _, _, _, _, _ => by simp at h
  | _ :: _, [], h, _, _, _, _, _ => by simp at h
  | x :: l, y :: m, hl, h1, h2, r, s, h => by
    rw [List.flatMap_cons, List.flatMap_cons, List.append_assoc, List.append_assoc] at h
    obtain ⟨h3, h4⟩ := encInts_pre (itvN_I (h1 x (by simp))) (itvN_I (h2 y (by simp))) h
    obtain ⟨h5, h6⟩ := itvs_pre (by simpa using hl) (fun z hz => h1 z (by simp [hz])) (fun z hz => h2 z (by simp [hz])) h4
    exact ⟨by rw [itvN_inj h3, h5], h6⟩
theorem bytes_pre (f : Fm) : ∀ (g : Fm) (r s : List UInt8), FmI f → FmI g → bytesF f ++ r = bytesF g ++ s → f = g ∧ r = s := by
  induction f using Fm.ind with
  | h f ih =>
    intro g r s hf hg h
    have hs : ∀ (l m : List Fm), (∀ x ∈ l, ∀ (y : Fm) (r s : List UInt8), FmI x → FmI y → bytesF x ++ r = bytesF y ++ s → x = y ∧ r = s) → l.length = m.length → (∀ x ∈ l, FmI x) → (∀ x ∈ m, FmI x) → ∀ r s : List UInt8, bytesFs l ++ r = bytesFs m ++ s → l = m ∧ r = s := by
      intro l
      induction l with
      | nil =>
        intro m _ hl _ _ r s h
        cases m with
        | nil => exact ⟨rfl, h⟩
        | cons y m => simp at hl
      | cons x l ihl =>
        intro m hx hl h1 h2 r s h
        cases m with
        | nil => simp at hl
        | cons y m =>
          rw [bytesFs, bytesFs, List.append_assoc, List.append_assoc] at h
          obtain ⟨rfl, h4⟩ := hx x (by simp) y _ _ (h1 x (by simp)) (h2 y (by simp)) h
          obtain ⟨rfl, h6⟩ := ihl m (fun z hz => hx z (by simp [hz])) (by simpa using hl) (fun z hz => h1 z (by simp [hz])) (fun z hz => h2 z (by simp [hz])) r s h4
          exact ⟨rfl, h6⟩
    obtain ⟨i1, i2, i3, i4, i5⟩ := hf.node
    obtain ⟨j1, j2, j3, j4, j5⟩ := hg.node
    rw [bytesF_eq, bytesF_eq] at h
    simp only [List.append_assoc] at h
    obtain ⟨e1, h⟩ := encI_pre i1 j1 h
    obtain ⟨e2, h⟩ := encI_pre i2 j2 h
    obtain ⟨e3, h⟩ := encI_pre (by unfold I64; omega) (by unfold I64; omega) h
    obtain ⟨e4, h⟩ := itvs_pre (by omega) i3 j3 h
    obtain ⟨e5, h⟩ := encI_pre (by unfold I64; omega) (by unfold I64; omega) h
    obtain ⟨e6, h⟩ := hs f.kids g.kids ih (by omega) (fun x hx => hf.kid hx) (fun x hx => hg.kid hx) r s h
    exact ⟨by rw [f.eta, g.eta, e1, e2, e4, e6], h⟩
theorem bytes_inj {f g : Fm} (hf : FmI f) (hg : FmI g) : bytesF f = bytesF g ↔ f = g := by
  constructor
  · intro h
    exact (bytes_pre f g [] [] hf hg (by rw [h])).1
  · intro h; rw [h]
-- lengths
theorem encInts_le {l : List Int} (h : ∀ x ∈ l, I64 x) (hl : l.length ≤ 1000000) : (encInts l).length ≤ 10 + 10 * l.length := by
  have h1 := encL_len h
  have h2 : (uvar l.length).length ≤ 10 := uvar_len10 (by omega)
  unfold encInts
  rw [List.length_append]; omega
theorem itvE_len {x : Itv} (h : x.I) : (itvE x).length ≤ 90 := by
  have := encInts_le (itvN_I h) (by simp [itvN])
  simpa [itvN, itvE] using this
theorem itvs_len : ∀ {l : List Itv}, (∀ x ∈ l, x.I) → (l.flatMap itvE).length ≤ 90 * l.length
  | [], _ => by simp
  | x :: l, h => by
    rw [List.flatMap_cons, List.length_append, List.length_cons]
    have h1 := itvE_len (h x (by simp))
    have h2 := itvs_len (l := l) fun y hy => h y (by simp [hy])
    omega
theorem bytes_len (f : Fm) : FmI f → (bytesF f).length ≤ 100 * f.bulk := by
  induction f using Fm.ind with
  | h f ih =>
    intro hf
    obtain ⟨i1, i2, i3, i4, i5⟩ := hf.node
    have hs : ∀ l : List Fm, (∀ x ∈ l, (bytesF x).length ≤ 100 * x.bulk) → (bytesFs l).length ≤ 100 * sumN Fm.bulk l := by
      intro l
      induction l with
      | nil => intro _; simp [bytesFs]
      | cons x l ihl =>
        intro h
        have h1 := h x (by simp)
        have h2 := ihl fun y hy => h y (by simp [hy])
        rw [bytesFs, List.length_append]; simp only [sumN]; omega
    have h1 := encI_len i1
    have h2 := encI_len i2
    have h3 : (encI (f.inn.length : Int)).length ≤ 10 := encI_len (by unfold I64; omega)
    have h4 : (encI (f.kids.length : Int)).length ≤ 10 := encI_len (by unfold I64; omega)
    have h5 := itvs_len i3
    have h6 := hs f.kids fun x hx => ih x hx (hf.kid hx)
    have h7 := f.bulk_eq
    rw [bytesF_eq]
    simp only [List.length_append]
    omega
def nodeE (g : Fm) : List UInt8 := encI g.op ++ (encI g.n ++ (encI g.inn.length ++ (g.inn.flatMap itvE ++ encI g.kids.length)))
theorem bytesFs_map : ∀ l : List Fm, bytesFs l = l.flatMap bytesF
  | [] => rfl
  | f :: l => by rw [bytesFs, List.flatMap_cons, bytesFs_map l]
theorem bytes_nodes (f : Fm) : bytesF f = f.pre.flatMap nodeE := by
  induction f using Fm.ind with
  | h f ih =>
    rw [bytesF_eq, f.pre_eq, List.flatMap_cons, List.flatMap_assoc, bytesFs_map]
    have hc : ∀ l : List Fm, (∀ x ∈ l, bytesF x = x.pre.flatMap nodeE) → l.flatMap bytesF = l.flatMap fun k => k.pre.flatMap nodeE := by
      intro l
      induction l with
      | nil => intro _; rfl
      | cons x l ihl => intro h; rw [List.flatMap_cons, List.flatMap_cons, h x (by simp), ihl fun y hy => h y (by simp [hy])]
    rw [hc f.kids ih]; simp only [nodeE, List.append_assoc]
theorem nodeE_len {g : Fm} (h : NodeI g) : (nodeE g).length ≤ 40 + 90 * g.inn.length := by
  obtain ⟨h1, h2, h3, h4, h5⟩ := h
  have e1 := encI_len h1
  have e2 := encI_len h2
  have e3 := encI_len (n := g.inn.length) (by unfold I64; omega)
  have e4 := encI_len (n := g.kids.length) (by unfold I64; omega)
  have e5 := itvs_len h3
  unfold nodeE
  simp only [List.length_append]; omega
def SetsR (f : Fm) : Prop := ∀ g ∈ f.pre, g.inn.length ≤ 32
theorem SetsR.kid {f g : Fm} (h : SetsR f) (hg : g ∈ f.kids) : SetsR g := fun x hx => h x (by
  rw [f.pre_eq, List.mem_cons, List.mem_flatMap]; exact .inr ⟨g, hg, hx⟩)
theorem SetsR.self {f : Fm} (h : SetsR f) : f.inn.length ≤ 32 := h f (by rw [f.pre_eq]; simp)
theorem formed_sets {f : Fm} (h : formed1 f = true) : f.inn.length ≤ 32 := by
  unfold formed1 at h
  by_cases h2 : f.op = 2
  · by_cases hc : (f.op ≠ 2 ∧ f.inn ≠ []) ∨ (f.op ≠ 2 ∧ f.op ≠ 1 ∧ f.n ≠ 0)
    · rw [if_pos hc] at h; cases h
    · rw [if_neg hc, if_neg (by omega), if_neg (by omega), if_pos h2] at h
      simp only [Bool.and_eq_true, decide_eq_true_eq] at h
      have h3 := h.2
      unfold setE at h3
      split at h3
      · cases h3
      · split at h3
        · cases h3
        · omega
  · by_cases hi : f.inn = []
    · rw [hi]; simp
    · rw [if_pos (.inl ⟨h2, hi⟩)] at h; cases h
theorem valid_sets {f : Fm} (h : validF f = 0) : SetsR f := by
  intro g hg
  have hw := (validF_0 h).2.2
  unfold wholeB at hw
  rw [List.all_eq_true] at hw
  exact formed_sets (hw g hg)
open Classical in
noncomputable def decF (b : List UInt8) : Fm × Int := if h : ∃ f, validF f = 0 ∧ FmI f ∧ bytesF f = b then (h.choose, 0) else (noF, 2)
theorem decF_ok {f : Fm} {b : List UInt8} (h1 : validF f = 0) (h2 : FmI f) (h3 : bytesF f = b) : decF b = (f, 0) := by
  have h : ∃ f, validF f = 0 ∧ FmI f ∧ bytesF f = b := ⟨f, h1, h2, h3⟩
  unfold decF
  rw [dif_pos h]
  have hc := h.choose_spec
  rw [(bytes_inj hc.2.1 h2).1 (hc.2.2.trans h3.symm)]
theorem decF_no {b : List UInt8} (h : ∀ f, validF f = 0 → FmI f → bytesF f ≠ b) : decF b = (noF, 2) := by
  unfold decF
  rw [dif_neg]
  rintro ⟨f, h1, h2, h3⟩
  exact h f h1 h2 h3
theorem decF_bad {f : Fm} (h1 : validF f ≠ 0) (h2 : FmI f) : decF (bytesF f) = (noF, 2) :=
  decF_no fun g h3 h4 h5 => h1 (by rw [← (bytes_inj h4 h2).1 h5]; exact h3)
def itvOf (l : List Int) : Itv := ⟨⟨l.getD 0 0, l.getD 1 0⟩, ⟨l.getD 2 0, l.getD 3 0⟩, l.getD 4 0 == 1, l.getD 5 0 == 1, l.getD 6 0 == 1, l.getD 7 0 == 1⟩
theorem size_snoc (l : List Fm) (x : Fm) : sumN Fm.size (l ++ [x]) = sumN Fm.size l + x.size := by
  induction l with
  | nil => simp [sumN]
  | cons y l ih => simp only [List.cons_append, sumN, ih]; omega
theorem itvOf_N (x : Itv) : itvOf (itvN x) = x := by
  obtain ⟨⟨a, b⟩, ⟨c, d⟩, p, q, r, s⟩ := x
  cases p <;> cases q <;> cases r <;> cases s <;> rfl
structure HypR (s : RS) (L : Int) (f : Fm) (rest : List UInt8) : Prop where
  i : FmI f
  sets : SetsR f
  room : (f.size : Int) ≤ L
  st : s = some (bytesF f ++ rest)
def T4 (f : Fm) (rest : List UInt8) : List UInt8 := encI f.kids.length ++ (bytesFs f.kids ++ rest)
def T3 (f : Fm) (rest : List UInt8) (i : Nat) : List UInt8 := (f.inn.drop i).flatMap itvE ++ T4 f rest
def T2 (f : Fm) (rest : List UInt8) : List UInt8 := encI f.inn.length ++ T3 f rest 0
def T1 (f : Fm) (rest : List UInt8) : List UInt8 := encI f.n ++ T2 f rest
def T5 (f : Fm) (rest : List UInt8) (i : Nat) : List UInt8 := bytesFs (f.kids.drop i) ++ rest
section
variable {s : RS} {L : Int} {f : Fm} {rest : List UInt8}
theorem i64_len {n : Nat} (h : n ≤ 9223372036854775807) : I64 (n : Int) := by unfold I64; omega
theorem HypR.op (h : HypR s L f rest) : intS s = (f.op, some (T1 f rest)) := by
  rw [h.st]
  refine intS_some.2 ⟨?_, h.i.node.1⟩
  rw [bytesF_eq]
  simp only [T1, T2, T3, T4, List.drop_zero, List.append_assoc]
theorem HypR.n (h : HypR s L f rest) : intS (some (T1 f rest)) = (f.n, some (T2 f rest)) := intS_some.2 ⟨rfl, h.i.node.2.1⟩
theorem HypR.len (h : HypR s L f rest) : intS (some (T2 f rest)) = ((f.inn.length : Int), some (T3 f rest 0)) := intS_some.2 ⟨rfl, i64_len h.i.node.2.2.2.1⟩
theorem HypR.itv (h : HypR s L f rest) {i : Nat} (hi : i < f.inn.length) : listS intS (some (T3 f rest i)) = (itvN f.inn[i], some (T3 f rest (i + 1))) := by
  refine listI_some.2 ⟨?_, itvN_I (h.i.node.2.2.1 _ (List.getElem_mem hi)), by simp [itvN]⟩
  unfold T3
  rw [List.drop_eq_getElem_cons hi, List.flatMap_cons, List.append_assoc]
  rfl
theorem HypR.end3 : T3 f rest f.inn.length = T4 f rest := by unfold T3; rw [List.drop_length]; rfl
theorem HypR.kids (h : HypR s L f rest) : intS (some (T4 f rest)) = ((f.kids.length : Int), some (T5 f rest 0)) := by
  refine intS_some.2 ⟨?_, i64_len h.i.node.2.2.2.2⟩
  unfold T4 T5; rw [List.drop_zero]
theorem HypR.size (h : HypR s L f rest) : 1 + (sumN Fm.size f.kids : Int) ≤ L := by
  have := h.room
  rw [Fm.size_eq] at this; omega
theorem HypR.kid (h : HypR s L f rest) {i : Nat} (hi : i < f.kids.length) : HypR (some (T5 f rest i)) (L - 1 - (sumN Fm.size (f.kids.take i) : Nat)) f.kids[i] (T5 f rest (i + 1)) := by
  refine ⟨h.i.kid (List.getElem_mem hi), h.sets.kid (List.getElem_mem hi), ?_, ?_⟩
  · have h1 := h.size
    have h2 : sumN Fm.size (f.kids.take (i + 1)) = sumN Fm.size (f.kids.take i) + f.kids[i].size := by rw [List.take_succ_eq_append_getElem hi, size_snoc]
    have h3 := sumN_take_le Fm.size f.kids (i + 1)
    omega
  · unfold T5
    rw [List.drop_eq_getElem_cons hi, bytesFs, List.append_assoc]
theorem HypR.end5 : T5 f rest f.kids.length = rest := by unfold T5; rw [List.drop_length]; rfl
theorem HypR.num (h : HypR s L f rest) : (f.kids.length : Int) ≤ L - 1 := by
  have h1 := h.size
  have h2 := length_le_sumN Fm.size f.kids fun x _ => x.size_pos
  omega
end
def RdF (s : RS) (L : Int) (f : Fm) (s' : RS) (L' : Int) : Prop :=
  -1 ≤ L' ∧ (f.size : Int) ≤ L - L' ∧ f.bulk ≤ 33 * f.size ∧ ∀ f0 rest, HypR s L f0 rest → f = f0 ∧ s' = some rest ∧ L' = L - f0.size
def InF (s : RS) (L : Int) (op n : Int) (m : Int) (out : List Itv) (si : RS) : Prop :=
  ∀ f0 rest, HypR s L f0 rest → op = f0.op ∧ n = f0.n ∧ m = f0.inn.length ∧ out = f0.inn.take out.length ∧ out.length ≤ f0.inn.length ∧ si = some (T3 f0 rest out.length)
def KdF (s : RS) (L : Int) (op n : Int) (inn : List Itv) (k : Int) (out : List Fm) (si : RS) (Li : Int) : Prop :=
  ∀ f0 rest, HypR s L f0 rest → op = f0.op ∧ n = f0.n ∧ inn = f0.inn ∧ k = f0.kids.length ∧ out = f0.kids.take out.length ∧ out.length ≤ f0.kids.length ∧ si = some (T5 f0 rest out.length) ∧ Li = L - 1 - (sumN Fm.size out : Nat)
section
variable {s si : RS} {L op n m k : Int}
theorem InF.start {s : RS} : InF s L (intS s).1 (intS (intS s).2).1 (intS (intS (intS s).2).2).1 [] (intS (intS (intS s).2).2).2 := by
  intro f0 rest h
  rw [h.op, h.n, h.len]
  exact ⟨rfl, rfl, rfl, by simp, Nat.zero_le _, rfl⟩
theorem InF.step {out : List Itv} (h : InF s L op n m out si) (hm : (out.length : Int) < m) : InF s L op n m (out ++ [itvOf (listS intS si).1]) (listS intS si).2 := by
  intro f0 rest hh
  obtain ⟨h1, h2, h3, h4, h5, h6⟩ := h f0 rest hh
  have hl : out.length < f0.inn.length := by omega
  have h7 := hh.itv hl
  rw [← h6] at h7
  rw [h7, List.length_append, List.length_singleton]
  refine ⟨h1, h2, h3, ?_, hl, rfl⟩
  rw [List.take_succ_eq_append_getElem hl, ← h4, itvOf_N]
theorem InF.no8 {out : List Itv} (h : InF s L op n m out si) (hm : (out.length : Int) < m) (h8 : (listS intS si).1.length ≠ 8) : ∀ f0 rest, ¬ HypR s L f0 rest := by
  intro f0 rest hh
  obtain ⟨h1, h2, h3, h4, h5, h6⟩ := h f0 rest hh
  have hl : out.length < f0.inn.length := by omega
  have h7 := hh.itv hl
  rw [← h6] at h7
  rw [h7] at h8
  exact h8 rfl
theorem InF.done {out : List Itv} (h : InF s L op n m out si) (hd : ¬ ((out.length : Int) < m ∧ m ≤ 32 ∧ 0 ≤ L - 1)) : KdF s L op n out (intS si).1 [] (intS si).2 (L - 1) ∧ ∀ f0 rest, HypR s L f0 rest → m = out.length ∧ 0 ≤ (intS si).1 ∧ (intS si).1 ≤ L - 1 := by
  have hx : ∀ f0 rest, HypR s L f0 rest → op = f0.op ∧ n = f0.n ∧ m = f0.inn.length ∧ out = f0.inn ∧ intS si = ((f0.kids.length : Int), some (T5 f0 rest 0)) := by
    intro f0 rest hh
    obtain ⟨h1, h2, h3, h4, h5, h6⟩ := h f0 rest hh
    have h7 := hh.sets.self
    have h8 := hh.size
    have h9 : out.length = f0.inn.length := by omega
    rw [h9] at h4 h6
    rw [List.take_length] at h4
    rw [HypR.end3] at h6
    exact ⟨h1, h2, h3, h4, by rw [h6]; exact hh.kids⟩
  refine ⟨fun f0 rest hh => ?_, fun f0 rest hh => ?_⟩
  · obtain ⟨h1, h2, h3, h4, h5⟩ := hx f0 rest hh
    rw [h5]
    exact ⟨h1, h2, h4, rfl, by simp, Nat.zero_le _, rfl, by simp [sumN]⟩
  · obtain ⟨h1, h2, h3, h4, h5⟩ := hx f0 rest hh
    have h6 := hh.num
    rw [h5, h3, h4]
    exact ⟨rfl, by simp, h6⟩
theorem KdF.step {inn : List Itv} {out : List Fm} {Li Lj : Int} {sj : RS} {g : Fm} (h : KdF s L op n inn k out si Li) (hk : (out.length : Int) < k) (hr : RdF si Li g sj Lj) : KdF s L op n inn k (out ++ [g]) sj Lj := by
  intro f0 rest hh
  obtain ⟨h1, h2, h3, h4, h5, h6, h7, h8⟩ := h f0 rest hh
  have hl : out.length < f0.kids.length := by omega
  have h9 := hh.kid hl
  rw [← h5, ← h7, ← h8] at h9
  obtain ⟨g1, g2, g3⟩ := hr.2.2.2 _ _ h9
  rw [List.length_append, List.length_singleton]
  refine ⟨h1, h2, h3, h4, ?_, hl, g2, ?_⟩
  · rw [List.take_succ_eq_append_getElem hl, ← h5, g1]
  · rw [g3, h8, g1, size_snoc]; omega
theorem KdF.done {inn : List Itv} {out : List Fm} {Li : Int} (h : KdF s L op n inn k out si Li) (hd : ¬ ((out.length : Int) < k ∧ 0 ≤ Li)) : ∀ f0 rest, HypR s L f0 rest → Fm.mk op n inn out = f0 ∧ si = some rest ∧ Li = L - f0.size := by
  intro f0 rest hh
  obtain ⟨h1, h2, h3, h4, h5, h6, h7, h8⟩ := h f0 rest hh
  have h9 := hh.size
  have ha := sumN_take_le Fm.size f0.kids out.length
  rw [← h5] at ha
  have hb : out.length = f0.kids.length := by omega
  rw [hb] at h5 h7
  rw [List.take_length] at h5
  rw [HypR.end5] at h7
  refine ⟨by rw [h1, h2, h3, h5]; exact f0.eta.symm, h7, ?_⟩
  rw [h8, h5, f0.size_eq]; omega
end
end Go.Proofs.YtnpnjcaomakehaaGreat
namespace Go.Proofs.YtnpnjcaomakehaaGreat
open Go.RowKit
structure ExtN (n : Nat) (w w' : World) : Prop where
  os : w'.os = w.os
  tape : w'.tape = w.tape
  output : w'.output = w.output
  size : w.heap.size ≤ w'.heap.size
  block : ∀ k, n ≤ k → k < w.heap.size → w'.heap[k]? = w.heap[k]?
theorem MemX.foreign {n : Nat} {L : List Chunk} {H : PH} {w w' : World} (h : MemX n L H w) (e : ExtN n w w') : MemX n L H w' := by
  obtain ⟨w0, rfl, hM⟩ := h
  have hs := hM.ex.size
  have hs2 := e.size
  have hz : (w'.heap.extract 0 w0.heap.size).size = w0.heap.size := by simp; omega
  refine ⟨{ w0 with heap := w'.heap.extract 0 w0.heap.size }, hz, ?_⟩
  have hHg : ∀ k o, H k = some o → w0.heap.size ≤ k := by
    intro k o hk
    have := hM.ub k o hk
    unfold up at this
    split at this
    · cases this
    · omega
  have hex : Ext { w0 with heap := w'.heap.extract 0 w0.heap.size } w' := by
    refine ⟨e.os.trans hM.ex.os, e.tape.trans hM.ex.tape, e.output.trans hM.ex.output, by rw [hz]; omega, fun k hk => ?_⟩
    have hk' : k < w0.heap.size := by rw [hz] at hk; exact hk
    show w'.heap[k]? = (w'.heap.extract 0 w0.heap.size)[k]?
    rw [Array.getElem?_extract]; simp; omega
  refine ⟨noH_le _, hM.le, fun k o hk => ?_, hex, fun i c hi => c.loc (hM.ok i c hi) fun k hk => e.block k (hM.fr i c hi k hk).1 (hM.lt hi hk), fun i c hi k hk => ⟨by rw [hz]; exact (hM.fr i c hi k hk).1, (hM.fr i c hi k hk).2⟩, hM.ap⟩
  have h1 := hM.ub k o hk
  have h2 := hHg k o hk
  unfold up at h1 ⊢
  rw [if_neg (by omega)] at h1
  rw [if_neg (by rw [hz]; omega)]
  show w'.heap[k]? = some o
  rw [e.block k h2 (ph_lt h1)]; exact h1
theorem MemX.joinN {n : Nat} {L : List Chunk} {H H' : PH} {w w' : World} (h : MemX n L H w) (e : ExtN n w w') (hl : PLe H' (up noH w w')) : ∃ H2, PLe H H2 ∧ PLe H' H2 ∧ MemX n L H2 w' := by
  have h1 := h.foreign e
  obtain ⟨w0, hn, hM⟩ := h
  obtain ⟨w1, hn1, hM1⟩ := h1
  have hge : ∀ k o, H' k = some o → w.heap.size ≤ k := by
    intro k o hk
    have := hl k o hk
    unfold up at this
    split at this
    · cases this
    · omega
  have g1 : PLe H fun k => if k < w.heap.size then H k else H' k := by
    intro k o hk
    show (if k < w.heap.size then H k else H' k) = some o
    rw [if_pos (ph_lt (hM.ple k o hk))]; exact hk
  have g2 : PLe H' fun k => if k < w.heap.size then H k else H' k := by
    intro k o hk
    show (if k < w.heap.size then H k else H' k) = some o
    rw [if_neg (by have := hge k o hk; omega)]; exact hk
  refine ⟨_, g1, g2, w1, hn1, noH_le _, noH_le _, fun k o hk => ?_, hM1.ex, fun i c hi => c.mono (hM1.ok i c hi) g1, fun i c hi k hk => ⟨(hM1.fr i c hi k hk).1, ?_⟩, hM1.ap⟩
  · split at hk
    · exact hM1.ub k o hk
    · have h3 := hl k o hk
      have := hM.ex.size
      unfold up at h3 ⊢
      rw [if_neg (by omega)] at h3 ⊢
      exact h3
  · show (if k < w.heap.size then H k else H' k) = none
    rw [if_pos (hM.lt hi hk)]; exact (hM.fr i c hi k hk).2
structure ExtGB (g b : Nat) (w w' : World) : Prop where
  os : w'.os = w.os
  tape : w'.tape = w.tape
  output : w'.output = w.output
  size : w.heap.size ≤ w'.heap.size
  block : ∀ k, k < w.heap.size → k ≠ g → k ≠ b → w'.heap[k]? = w.heap[k]?
theorem ExtGB.rfl' (g b : Nat) (w : World) : ExtGB g b w w := ⟨rfl, rfl, rfl, Nat.le_refl _, fun _ _ _ _ => rfl⟩
theorem ExtGB.then {g b : Nat} {A B C : World} (h : ExtGB g b A B) (k : ExtGB g b B C) : ExtGB g b A C :=
  ⟨k.os.trans h.os, k.tape.trans h.tape, k.output.trans h.output, Nat.le_trans h.size k.size, fun i hi h1 h2 => by
    rw [k.block i (Nat.lt_of_lt_of_le hi h.size) h1 h2]; exact h.block i hi h1 h2⟩
theorem ExtW.gb {g b : Nat} {w w' : World} (h : ExtW w w' g none) : ExtGB g b w w' := ⟨h.os, h.tape, h.output, h.size, fun k hk h1 _ => h.block k hk h1 (by simp)⟩
theorem ExtGB.n {g b n : Nat} {w w' : World} (h : ExtGB g b w w') (hg : g < n) (hb : b < n) : ExtN n w w' := ⟨h.os, h.tape, h.output, h.size, fun k hn hk => h.block k hk (by omega) (by omega)⟩
theorem ExtGB.toExt {g b : Nat} {w0 w w' : World} (h0 : Ext w0 w) (h : ExtGB g b w w') (hg : w0.heap.size ≤ g) (hb : w0.heap.size ≤ b) : Ext w0 w' :=
  ⟨h.os.trans h0.os, h.tape.trans h0.tape, h.output.trans h0.output, Nat.le_trans h0.size h.size, fun k hk => by
    rw [h.block k (Nat.lt_of_lt_of_le hk h0.size) (by omega) (by omega)]; exact h0.block k hk⟩
structure RS2 (HR : PH) (w : World) (g b : Nat) (s : RS) (L : Int) (Lc : List Chunk) (H : PH) (W : World) : Prop where
  mem : MemX w.heap.size Lc H W
  rd : Rd HR W g s
  left : Own W b #[.int .i64 L] 3
  gb : g ≠ b
  hg : g < w.heap.size
  hb : b < w.heap.size
  hr : ∀ k o, HR k = some o → k < w.heap.size
  hn : HR b = none
  ex : ExtGB g b w W
section
variable {HR : PH} {w W W' : World} {g b : Nat} {s s' : RS} {L L' : Int} {Lc Lc' : List Chunk} {H H' : PH}
theorem RS2.start (hR : Rd HR w g s) (hL : Own w b #[.int .i64 L] 3) (hgb : g ≠ b) (hn : HR b = none) : RS2 HR w g b s L [] noH w :=
  ⟨MemX.start w, hR, hL, hgb, hR.lt, hL.lt, hR.bound, hn, ExtGB.rfl' _ _ _⟩
theorem RS2.own1 (h : RS2 HR w g b s L Lc H W) {w0 : World} (hw0 : w0.heap.size = w.heap.size) (hM : Mem w0 noH Lc H W) (hM' : Mem w0 noH Lc' H' W') : RS2 HR w g b s L Lc' H' W' := by
  have hsm := hM.same hM'
  refine ⟨⟨w0, hw0, hM'⟩, Mem.rd hM hM' h.rd (by rw [hw0]; exact h.hr) (by rw [hw0]; exact h.hg), ?_, h.gb, h.hg, h.hb, h.hr, h.hn, ?_⟩
  · have := h.left
    unfold Own at *
    rw [hsm b (by rw [hw0]; exact h.hb)]; exact this
  · refine ⟨?_, ?_, ?_, ?_, fun k hk h1 h2 => ?_⟩
    · rw [hM'.ex.os, ← hM.ex.os]; exact h.ex.os
    · rw [hM'.ex.tape, ← hM.ex.tape]; exact h.ex.tape
    · rw [hM'.ex.output, ← hM.ex.output]; exact h.ex.output
    · have := hM'.ex.size; omega
    · rw [hsm k (by omega)]; exact h.ex.block k hk h1 h2
theorem RS2.own (h : RS2 HR w g b s L Lc H W) (f : ∀ w0, Mem w0 noH Lc H W → Mem w0 noH Lc' H' W') : RS2 HR w g b s L Lc' H' W' := by
  obtain ⟨w0, hw0, hM⟩ := h.mem
  exact h.own1 hw0 hM (f w0 hM)
theorem RS2.reader (h : RS2 HR w g b s L Lc H W) (hR : Rd HR W' g s') (e : ExtW W W' g none) : RS2 HR w g b s' L Lc H W' :=
  ⟨h.mem.reader e h.hg, hR, h.left.keepW e (fun q => h.gb q.symm) (by simp), h.gb, h.hg, h.hb, h.hr, h.hn, h.ex.then e.gb⟩
theorem RS2.int (h : RS2 HR w g b s L Lc H W) : Calls Tryz.prog 14 #[.pointer (some ⟨g, 0, none⟩)] W (fun e W' => e = .returned (.int .i64 (intS s).1) ∧ RS2 HR w g b (intS s).2 L Lc H W') :=
  (rint_c g s W h.rd).mono fun e W' ⟨e1, hR, hX⟩ => ⟨e1, h.reader hR hX⟩
theorem RS2.ints (h : RS2 HR w g b s L Lc H W) (hs : Small s) : Calls Tryz.prog 35 #[.pointer (some ⟨g, 0, none⟩)] W
    (fun e W' => ∃ v, e = .returned v ∧ RS2 HR w g b (listS intS s).2 L (Lc ++ [Proofs.YtnpnjcaomakehaaGreat.own mono_IntR 1 3 v (listS intS s).1]) H W') := by
  refine (rints_c g s W h.rd hs).mono ?_
  rintro e W' ⟨v, e1, hS, hR, hX⟩
  have h2 := h.reader hR hX
  exact ⟨v, e1, h.mem.take hX h.hg hS mono_IntR, h2.rd, h2.left, h2.gb, h2.hg, h2.hb, h2.hr, h2.hn, h2.ex⟩
theorem RS2.setL (h : RS2 HR w g b s L Lc H W) (L' : Int) : RS2 HR w g b s L' Lc H (W.setCell ⟨b, 0, none⟩ (.int .i64 L')) := by
  have hX : ExtW W (W.setCell ⟨b, 0, none⟩ (.int .i64 L')) b none := (ExtW.rfl' _ _ _).set 0 _
  have hbl := h.left.lt
  refine ⟨h.mem.reader hX h.hb, ?_, by simpa using h.left.set 0 (.int .i64 L'), h.gb, h.hg, h.hb, h.hr, h.hn, h.ex.then ⟨hX.os, hX.tape, hX.output, hX.size, fun k hk _ h2 => hX.block k hk h2 (by simp)⟩⟩
  obtain ⟨a, n, c, er, l, q1, q2, q3, q4⟩ := h.rd
  refine ⟨a, n, c, er, l, q1.keepW hX h.gb (by simp), q2, fun k o hk => ?_, q4⟩
  have hkb : k ≠ b := fun e => by rw [e, h.hn] at hk; cases hk
  have h3 := q3 k o hk
  unfold phX at *
  split at h3
  · cases h3
  · rename_i hk'
    rw [if_neg hk', hX.block k (Array.getElem?_eq_some_iff.1 h3).1 hkb (by simp)]; exact h3
theorem RS2.call (h : RS2 HR w g b s L Lc H W) (hR : Rd HR W' g s') (hL : Own W' b #[.int .i64 L'] 3) (e : ExtGB g b W W') (hl : PLe H' (up noH W W')) : ∃ H2, PLe H H2 ∧ PLe H' H2 ∧ RS2 HR w g b s' L' Lc H2 W' := by
  obtain ⟨H2, k1, k2, k3⟩ := h.mem.joinN (e.n h.hg h.hb) hl
  exact ⟨H2, k1, k2, k3, hR, hL, h.gb, h.hg, h.hb, h.hr, h.hn, h.ex.then e⟩
end
end Go.Proofs.YtnpnjcaomakehaaGreat
namespace Go.Proofs.YtnpnjcaomakehaaGreat
open Go.RowKit Go.Shelf
def ReadQ (HR : PH) (w : World) (g b : Nat) (s : RS) (L : Int) (e : Ending) (w' : World) : Prop :=
  ∃ f a3 c3 a4 c4 s' L', e = .returned (fmV f a3 c3 a4 c4) ∧ FmR (up noH w w') (fmC f a3 c3 a4 c4) f ∧ RdF s L f s' L' ∧ Rd HR w' g s' ∧ Own w' b #[.int .i64 L'] 3 ∧ ExtGB g b w w' ∧ Small s'
theorem ints8_at {w : World} {a : Option Addr} {n c : Nat} {p0 p1 p2 p3 p4 p5 p6 p7 : Int} (hr : IntsR (ph w) (.slice a n c) [p0, p1, p2, p3, p4, p5, p6, p7]) :
    ∃ b o, a = some ⟨b, o, none⟩ ∧ w.cell? ⟨b, o, none⟩ = some (.int .i64 p0) ∧ w.cell? ⟨b, o + 1, none⟩ = some (.int .i64 p1) ∧ w.cell? ⟨b, o + 2, none⟩ = some (.int .i64 p2) ∧ w.cell? ⟨b, o + 3, none⟩ = some (.int .i64 p3) ∧
      w.cell? ⟨b, o + 4, none⟩ = some (.int .i64 p4) ∧ w.cell? ⟨b, o + 5, none⟩ = some (.int .i64 p5) ∧ w.cell? ⟨b, o + 6, none⟩ = some (.int .i64 p6) ∧ w.cell? ⟨b, o + 7, none⟩ = some (.int .i64 p7) ∧ b < w.heap.size ∧
      I64 p0 ∧ I64 p1 ∧ I64 p2 ∧ I64 p3 := by
  have h : ∀ k (hk : k < 8), ∃ b o, a = some ⟨b, o, none⟩ ∧ w.cell? ⟨b, o + k, none⟩ = some (.int .i64 ([p0, p1, p2, p3, p4, p5, p6, p7][k]'(by simpa using hk))) ∧ I64 ([p0, p1, p2, p3, p4, p5, p6, p7][k]'(by simpa using hk)) ∧ b < w.heap.size := fun k hk => IntsR.at hr k (by simpa using hk)
  obtain ⟨b, o, rfl, h0, i0, hb⟩ := h 0 (by omega)
  obtain ⟨b1, o1, e1, h1, i1, -⟩ := h 1 (by omega); cases e1
  obtain ⟨b2, o2, e2, h2, i2, -⟩ := h 2 (by omega); cases e2
  obtain ⟨b3, o3, e3, h3, i3, -⟩ := h 3 (by omega); cases e3
  obtain ⟨b4, o4, e4, h4, -⟩ := h 4 (by omega); cases e4
  obtain ⟨b5, o5, e5, h5, -⟩ := h 5 (by omega); cases e5
  obtain ⟨b6, o6, e6, h6, -⟩ := h 6 (by omega); cases e6
  obtain ⟨b7, o7, e7, h7, -⟩ := h 7 (by omega); cases e7
  exact ⟨_, _, rfl, h0, h1, h2, h3, h4, h5, h6, h7, hb, i0, i1, i2, i3⟩
theorem up_szN {w w0 w' : World} (h : w0.heap.size = w.heap.size) : up noH w0 w' = up noH w w' := by unfold up; rw [h]
theorem bulk_snoc (l : List Fm) (x : Fm) : sumN Fm.bulk (l ++ [x]) = sumN Fm.bulk l + x.bulk := by
  induction l with
  | nil => simp [sumN]
  | cons y l ih => simp only [List.cons_append, sumN, ih]; omega
theorem rdF_no {s s' : RS} {L L' op n : Int} {out : List Itv} (h : ∀ f0 rest, ¬ HypR s L f0 rest) (h1 : -1 ≤ L') (h2 : L' ≤ L - 1) (h3 : out.length ≤ 32) : RdF s L (.mk op n out []) s' L' := by
  refine ⟨h1, ?_, ?_, fun f0 rest hh => absurd hh (h f0 rest)⟩
  · rw [Fm.size_eq]; simp [Fm.kids, sumN]; omega
  · rw [Fm.size_eq, Fm.bulk_eq]; simp [Fm.kids, Fm.inn, sumN]; omega
set_option maxRecDepth 100000 in
set_option maxHeartbeats 8000000 in
theorem fread_c {HR : PH} (N : Nat) : ∀ (L : Int) (g b : Nat) (s : RS) (w : World), L < N → 0 ≤ L → L ≤ 96 → Rd HR w g s → Own w b #[.int .i64 L] 3 → g ≠ b → HR b = none → Small s →
    Calls Tryz.prog 55 #[.pointer (some ⟨g, 0, none⟩), .pointer (some ⟨b, 0, none⟩)] w (ReadQ HR w g b s L) := by
  induction N with
  | zero => intro L g b s w h1 h2; omega
  | succ N ih =>
    intro L g b s w hLN hL0 hL9 hR hL hgb hn hsm
    have hB := ((RS2.start hR hL hgb hn).own (fun w0 m => m.new' #[.int .i64 0, .int .i64 0, .slice none 0 0, .slice none 0 0] 50 (n := w.heap.size) rfl))
    simp only [List.nil_append] at hB
    replace ih := Lib.hid ih
    clear hR hL
    go_enter Tryz.func55, Tryz.ntmps55
    go_upto_region 1 with (fail)
    generalize w.alloc _ = w1 at *
    obtain ⟨cb, fb⟩ := hB.left.facts
    have lb := hB.left.lt
    have cb0 : _ = some (Value.int .i64 L) := cb 0
    have fb0 := fb 0
    clear cb fb
    have hwr : IntKind.i64.wrap (L - 1) = L - 1 := by rw [IntKind.wrap_i64]; omega
    go_upto_region 2 with (fail)
    replace hB := hB.setL (L - 1)
    clear cb0 fb0 lb
    generalize World.setCell _ _ _ = w2 at *
    have hq0 := InF.start (s := s) (L := L)
    have i1 := intS_i64 s
    have i2 := intS_i64 (intS s).2
    have i3 := intS_i64 (intS (intS s).2).2
    have m1 := small_int hsm
    have m2 := small_int m1
    have m3 := small_int m2
    go_wp2_with fail
    refine hB.int.mono ?_
    rintro e w3 ⟨rfl, hB3⟩
    clear hB
    go_wp2_with fail
    refine hB3.int.mono ?_
    rintro e w4 ⟨rfl, hB⟩
    clear hB3
    generalize hop : (intS s).1 = op at *
    generalize hn1 : (intS (intS s).2).1 = n at *
    replace hop := Lib.hid hop
    replace hn1 := Lib.hid hn1
    have hB2 := hB.own (fun w0 m => ((m.new #[.int .i64 op, .int .i64 n, .slice none 0 0, .slice none 0 0] 50).nil mono_ItvR 8 92).nil mono_FmR 4 50)
    simp only [List.cons_append, List.nil_append] at hB2
    clear hB
    go_upto_region 3 with (fail)
    generalize hg5 : w4.heap.size = g5 at *
    generalize w4.alloc _ = w5 at *
    go_wp2_with fail
    refine hB2.int.mono ?_
    rintro e w6 ⟨rfl, hB⟩
    clear hB2
    generalize (intS (intS (intS s).2).2).2 = s3 at *
    generalize (intS (intS (intS s).2).2).1 = m at *
    go_wp2_with fail
    go_loopw [7] (fun vi wr => ∃ (i : Nat) (vI : Value) (out : List Itv) (si : RS), vi = .int .i64 i ∧ out.length = i ∧ i ≤ 32 ∧ RS2 HR w g b si (L - 1) [box w.heap.size #[.int .i64 0, .int .i64 0, .slice none 0 0, .slice none 0 0] 50, box g5 #[.int .i64 op, .int .i64 n, vI, .slice none 0 0] 50, own mono_ItvR 8 92 vI out, own mono_FmR 4 50 (.slice none 0 0) ([] : List Fm)] noH wr ∧ InF s L op n m out si ∧ Small si) (fun vi _ => 33 - (intOf vi).toNat)
    case atStart => exact ⟨0, _, [], s3, rfl, rfl, by omega, hB, hq0, m3⟩
    case round =>
      clear hB hq0
      obtain ⟨i, vI, out, si, rfl, hol, hi32, hB, hq, hsi⟩ := hrel
      replace hol := Lib.hid hol
      obtain ⟨iA, iC, rfl, -⟩ : ∃ a c, vI = .slice a out.length c ∧ True := by
        obtain ⟨w0, hw0, hMm⟩ := hB.mem
        obtain ⟨a, c, e, -⟩ := hMm.form 2 rfl
        exact ⟨a, c, e, trivial⟩
      obtain ⟨cb, fb⟩ := hB.left.facts
      have lb := hB.left.lt
      have cb0 : _ = some (Value.int .i64 (L - 1)) := cb 0
      have fb0 := fb 0
      clear cb fb
      by_cases hgo : (i : Int) < m ∧ m ≤ 32 ∧ 0 ≤ L - 1
      · obtain ⟨g1, g2, g3⟩ := hgo
        have b1 : decide ((i : Int) < m) = true := by simpa using g1
        have b2 : decide (m ≤ 32) = true := by simpa using g2
        have b3 : decide (0 ≤ L - 1) = true := by simpa using g3
        go_wp2_with fail
        refine (hB.ints hsi).mono ?_
        rintro e w7 ⟨v, rfl, hB7⟩
        have hq2 := hq.step (by have := hol.out; omega)
        have hno := fun h => hq.no8 (by have := hol.out; omega) h
        have hsi2 := small_list hsi
        obtain ⟨xs, hxs⟩ : ∃ xs, (listS intS si).1 = xs := ⟨_, rfl⟩
        rw [hxs] at hB7 hq2 hno
        generalize (listS intS si).2 = sj at *
        obtain ⟨vA, vC, rfl, -⟩ : ∃ a c, v = .slice a xs.length c ∧ True := by
          obtain ⟨w0, hw0, hMm⟩ := hB7.mem
          obtain ⟨a, c, e, -⟩ := hMm.form 4 rfl
          exact ⟨a, c, e, trivial⟩
        clear hB hxs cb0 fb0 lb
        by_cases h8 : xs.length = 8
        · have hl8 : ((xs.length : Int) != 8) = false := by rw [h8]; rfl
          obtain ⟨p0, p1, p2, p3, p4, p5, p6, p7, rfl⟩ : ∃ p0 p1 p2 p3 p4 p5 p6 p7 : Int, xs = [p0, p1, p2, p3, p4, p5, p6, p7] := by
            match xs, h8 with
            | [a, b, c, d, e, f, g, h], _ => exact ⟨a, b, c, d, e, f, g, h, rfl⟩
          clear hno h8
          have hrp : IntsR (ph w7) (.slice vA [p0, p1, p2, p3, p4, p5, p6, p7].length vC) [p0, p1, p2, p3, p4, p5, p6, p7] := by
            obtain ⟨w0, hw0, hMm⟩ := hB7.mem
            exact hMm.rep 4 rfl
          obtain ⟨lb, lo, rfl, y0, y1, y2, y3, y4, y5, y6, y7, yl, j0, j1, j2, j3⟩ := ints8_at hrp
          clear hrp
          have hB := hB7.own (fun w0 m => m.pick [0, 1, 2, 3] (by decide))
          simp only [List.cons_append, List.nil_append, List.map_cons, List.map_nil, List.getElem?_cons_zero, List.getElem?_cons_succ, Option.getD_some] at hB
          clear hB7
          have u2 : w7.cell? ⟨g5, 2, none⟩ = some (Value.slice iA out.length iC) := by
            obtain ⟨w0, hw0, hMm⟩ := hB.mem
            exact (hMm.box 1 rfl).facts.1 2
          have ul : g5 < w7.heap.size := by
            obtain ⟨w0, hw0, hMm⟩ := hB.mem
            exact (hMm.box 1 rfl).lt
          simp only [List.length_cons, List.length_nil, Nat.reduceAdd] at hl8 ⊢
          go_upto_region 11 with (fail)
          (refine wp_region_I 34 (by kernel_rfl) (by kernel_rfl) ?_; simp only [List.toList_toArray, List.take_succ_cons, List.take_zero, List.drop_succ_cons, List.drop_zero])
          iterate 33 (refine wiA rfl (by simp) rfl ?_; (try simp only [List.nil_append, List.cons_append]))
          (refine walkI_step ((fun v w' => ∃ bb, v = .slice (some ⟨bb, 0, none⟩) 1 1 ∧ Proofs.YtnpnjcaomakehaaGreat.Own w' bb #[.int .i64 p0, .int .i64 p1, .int .i64 p2, .int .i64 p3, .bool (p4 == 1), .bool (p5 == 1), .bool (p6 == 1), .bool (p7 == 1)] 92)) rfl (by simp) rfl ((fun v w w' _ ⟨b, k1, k2⟩ e => ⟨b, k1, k2.keep e⟩)) ?_ ?_; (focus (intro A w' hS hA K hK; (simp only [List.map_cons, List.map_nil, knows, Is, Op.operands, Call.operands, List.lookup_cons, List.lookup_nil, Nat.reduceBEq, Bool.false_eq_true, if_false, if_true, Act.eval, Array.getD_eq_getD_getElem?, List.getElem?_toArray, List.getElem?_cons_succ, List.getElem?_cons_zero, Option.getD_some, and_true, true_and, List.append_toArray, List.nil_append, List.cons_append, List.toList_toArray, Array.toList_append, Option.toArray, List.append_nil] at hA); (go_simp; exact hK _ _ (Ext.new _ _) ⟨_, rfl, Proofs.YtnpnjcaomakehaaGreat.Own.new _ _ _⟩))); (try simp only [List.nil_append, List.cons_append]))
          (refine walkI_nil ?_; simp only [List.nil_append, List.cons_append, fins, Is, forall_eq, Act.put, List.setIfInBounds_toArray, List.set_cons_zero, List.set_cons_succ])
          rintro w8 hx8 vv ⟨bb, rfl, ob⟩
          replace hB := hB.own (fun w0 m => m.ext hx8)
          clear u2 ul y0 y1 y2 y3 y4 y5 y6 y7 yl hx8
          obtain ⟨w0, hw0, hMm⟩ := hB.mem
          have hS := Src.lit1 (H := noH) (E := ItvR) (sz := 8) (w := w8) (b := bb) (x := ⟨⟨p0, p1⟩, ⟨p2, p3⟩, p4 == 1, p5 == 1, p6 == 1, p7 == 1⟩) (cs := [.int .i64 p0, .int .i64 p1, .int .i64 p2, .int .i64 p3, .bool (p4 == 1), .bool (p5 == 1), .bool (p6 == 1), .bool (p7 == 1)]) ⟨rfl, ⟨j0, j1⟩, j2, j3⟩ rfl (fun j => by rw [ob.facts.1]; simp)
          go_wp2_with (first | (at_builtin; refine wpList_append_M 2 rfl _ _ 48 rfl Tryz.underlying48 infoItv rfl rfl rfl hMm rfl hS one_ItvR (by have h9 := hol.out; simp; omega) (by have h9 := hol.out; simp; omega) ?c5))
          case c5 =>
          intro v' w9 hM9
          replace hB := hB.own1 hw0 hMm hM9
          try simp only [List.set_cons_zero, List.set_cons_succ] at hB
          clear hMm hM9 hS ob hw0
          obtain ⟨nA, nC, rfl, -⟩ : ∃ a c, v' = .slice a (out ++ [(⟨⟨p0, p1⟩, ⟨p2, p3⟩, p4 == 1, p5 == 1, p6 == 1, p7 == 1⟩ : Itv)]).length c ∧ True := by
            obtain ⟨w0, hw0, hMm⟩ := hB.mem
            obtain ⟨a, c, e, -⟩ := hMm.form 2 rfl
            exact ⟨a, c, e, trivial⟩
          have f2 : w9.frozen? ⟨g5, 2, none⟩ = false := by
            obtain ⟨w0, hw0, hMm⟩ := hB.mem
            exact (hMm.box 1 rfl).facts.2 2
          have u2 : w9.cell? ⟨g5, 2, none⟩ = some (Value.slice iA out.length iC) := by
            obtain ⟨w0, hw0, hMm⟩ := hB.mem
            exact (hMm.box 1 rfl).facts.1 2
          have ul : g5 < w9.heap.size := by
            obtain ⟨w0, hw0, hMm⟩ := hB.mem
            exact (hMm.box 1 rfl).lt
          have hq3 : InF s L op n m (out ++ [(⟨⟨p0, p1⟩, ⟨p2, p3⟩, p4 == 1, p5 == 1, p6 == 1, p7 == 1⟩ : Itv)]) sj := hq2
          clear hq2
          have hnl : Hid ((out ++ [(⟨⟨p0, p1⟩, ⟨p2, p3⟩, p4 == 1, p5 == 1, p6 == 1, p7 == 1⟩ : Itv)]).length = i + 1) := Lib.hid (by rw [List.length_append, hol.out]; rfl)
          generalize out ++ [(⟨⟨p0, p1⟩, ⟨p2, p3⟩, p4 == 1, p5 == 1, p6 == 1, p7 == 1⟩ : Itv)] = out2 at *
          replace hB := hB.own (fun w0 m => m.set 1 rfl 2 (.slice nA out2.length nC))
          try simp only [List.set_cons_zero, List.setIfInBounds_toArray, List.set_cons_succ] at hB
          go_wp2_with fail
          go_roundw
          case rel => exact ⟨i + 1, _, out2, sj, by go_num, hnl.out, by omega, hB, hq3, hsi2⟩
          case measure => simp [intOf]; omega
        · have hl8 : ((xs.length : Int) != 8) = true := by simp; omega
          replace hno := hno h8
          obtain ⟨cb, fb⟩ := hB7.left.facts
          have lb := hB7.left.lt
          have cb0 : _ = some (Value.int .i64 (L - 1)) := cb 0
          have fb0 := fb 0
          clear cb fb h8
          go_upto_region 10 with (fail)
          replace hB7 := hB7.setL (-1)
          clear cb0 fb0 lb
          generalize World.setCell _ _ _ = w8 at *
          have hB := hB7
          clear hB7
          obtain ⟨w0, hw0, hMm⟩ := hB.mem
          obtain ⟨uc, -⟩ := (hMm.box 1 rfl).facts
          have u0 : _ = some (Value.int .i64 op) := uc 0
          have u1 : _ = some (Value.int .i64 n) := uc 1
          have u2 : _ = some ((.slice iA out.length iC) : Value) := uc 2
          have u3 : _ = some ((.slice none 0 0) : Value) := uc 3
          have ul := (hMm.box 1 rfl).lt
          have rz0 : _ = some (Value.int .i64 0) := (hMm.box 0 rfl).facts.1 0
          have rz1 : _ = some (Value.int .i64 0) := (hMm.box 0 rfl).facts.1 1
          have rz2 : _ = some (Value.slice none 0 0) := (hMm.box 0 rfl).facts.1 2
          have rz3 : _ = some (Value.slice none 0 0) := (hMm.box 0 rfl).facts.1 3
          obtain ⟨-, rzf⟩ := (hMm.box 0 rfl).facts
          have rzl := (hMm.box 0 rfl).lt
          have hB8 := hB.own (fun w0 m => m.set4 0 rfl (.int .i64 op) (.int .i64 n) (.slice iA out.length iC) (.slice none 0 0))
          try simp only [List.set_cons_zero] at hB8
          clear hB uc hMm hw0
          go_wp2_with fail
          generalize World.setCell _ _ _ = w9 at *
          obtain ⟨w0', hw0', hMm'⟩ := hB8.mem
          obtain ⟨rq', -⟩ := (hMm'.box 0 rfl).facts
          have rq0 : _ = some (Value.int .i64 op) := rq' 0
          have rq1 : _ = some (Value.int .i64 n) := rq' 1
          have rq2 : _ = some ((.slice iA out.length iC) : Value) := rq' 2
          have rq3 : _ = some ((.slice none 0 0) : Value) := rq' 3
          obtain ⟨H5, k5, hM5, hI5⟩ := hMm'.freezeS 2 rfl
          obtain ⟨H6, k6, hM6, hK6⟩ := hM5.freezeS 3 rfl
          have hub := hM6.ub
          rw [up_szN hw0'] at hub
          refine bodyPost_ret (v := .agg #[.int .i64 op, .int .i64 n, (.slice iA out.length iC), (.slice none 0 0)]) (by simp [results, Tryz.results55, go_sem, rq0, rq1, rq2, rq3]) rfl ?_
          refine ⟨.mk op n out [], _, _, _, _, _, _, rfl, mono_FmR _ _ _ _ hub (FmR.of (f := .mk op n out []) i1 i2 (hI5.mono mono_ItvR k6) hK6), ?_, hB8.rd, hB8.left, hB8.ex, ?_⟩
          · exact rdF_no hno (by omega) (by omega) (by have := hol.out; omega)
          · exact hsi2
      · go_upto_region 5 with (fail)
        go_cut [35] (fun v wx => v = .bool false ∧ wx = wr)
        case first =>
          by_cases g1 : (i : Int) < m
          · have b1 : decide ((i : Int) < m) = true := by simpa using g1
            by_cases g2 : m ≤ 32
            · have b2 : decide (m ≤ 32) = true := by simpa using g2
              go_wp2_with fail
              go_meet
              case rel => exact ⟨by rw [decide_eq_false (by omega)], rfl⟩
            · have b2 : decide (m ≤ 32) = false := by simpa using g2
              go_wp2_with fail
              go_meet
              case rel => exact ⟨rfl, rfl⟩
          · have b1 : decide ((i : Int) < m) = false := by simpa using g1
            go_wp2_with fail
            go_meet
            case rel => exact ⟨rfl, rfl⟩
        case rest =>
        obtain ⟨rfl, rfl⟩ := hcut
        obtain ⟨hk0, hk1⟩ := hq.done (by have := hol.out; omega)
        have ik := intS_i64 si
        have hsk := small_int hsi
        clear cb0 fb0 lb
        go_wp2_with fail
        refine hB.int.mono ?_
        rintro e w6 ⟨rfl, hBk⟩
        clear hB
        generalize (intS si).2 = sK at *
        generalize (intS si).1 = kk at *
        obtain ⟨cb, fb⟩ := hBk.left.facts
        have lb := hBk.left.lt
        have cb0 : _ = some (Value.int .i64 (L - 1)) := cb 0
        have fb0 := fb 0
        clear cb fb
        have u2 : w6.cell? ⟨g5, 2, none⟩ = some (Value.slice iA out.length iC) := by
          obtain ⟨w0, hw0, hMm⟩ := hBk.mem
          exact (hMm.box 1 rfl).facts.1 2
        have ul : g5 < w6.heap.size := by
          obtain ⟨w0, hw0, hMm⟩ := hBk.mem
          exact (hMm.box 1 rfl).lt
        go_upto_region 13 with (fail)
        go_cut [99] (fun v wx => ∃ q : Bool, v = .bool q ∧ Hid (q = false ↔ (m = (out.length : Int) ∧ 0 ≤ kk ∧ kk ≤ L - 1)) ∧ wx = w6)
        case first =>
          by_cases g1 : m = (out.length : Int)
          · have b1 : (m != (out.length : Int)) = false := by simp [g1]
            by_cases g2 : kk < 0
            · have b2 : decide (kk < 0) = true := by simpa using g2
              replace g1 := Lib.hid g1
              go_wp2_with fail
              go_meet
              case rel => exact ⟨true, rfl, Lib.hid (by simp; omega), rfl⟩
            · have b2 : decide (kk < 0) = false := by simpa using g2
              by_cases g3 : L - 1 < kk
              · have b3 : decide (L - 1 < kk) = true := by simpa using g3
                replace g1 := Lib.hid g1
                go_wp2_with fail
                go_meet
                case rel => exact ⟨true, by first | (simp; done) | (simp; omega), Lib.hid (by simp; omega), rfl⟩
              · have b3 : decide (L - 1 < kk) = false := by simpa using g3
                replace g1 := Lib.hid g1
                go_wp2_with fail
                go_meet
                case rel => exact ⟨false, by first | (simp; done) | (simp; omega), Lib.hid (by have := g1.out; simp; omega), rfl⟩
          · have b1 : (m != (out.length : Int)) = true := by simpa using g1
            go_wp2_with fail
            go_meet
            case rel => exact ⟨true, rfl, Lib.hid (by simp; omega), rfl⟩
        case rest =>
        obtain ⟨q, rfl, hqb, rfl⟩ := hcut
        rename_i hKz
        refine hKz _ _ ?_
        go_cut [] (fun wx => ∃ L1, RS2 HR w g b sK L1 [box w.heap.size #[.int .i64 0, .int .i64 0, .slice none 0 0, .slice none 0 0] 50, box g5 #[.int .i64 op, .int .i64 n, .slice iA out.length iC, .slice none 0 0] 50, own mono_ItvR 8 92 (.slice iA out.length iC) out, own mono_FmR 4 50 (.slice none 0 0) ([] : List Fm)] noH wx ∧ -1 ≤ L1 ∧ L1 ≤ L - 1 ∧ KdF s L op n out kk [] sK L1)
        case first =>
          cases q with
          | true =>
            go_wp2_with fail
            go_meet
            case rel =>
              refine ⟨-1, hBk.setL (-1), by omega, by omega, fun f0 rest hh => ?_⟩
              have := hqb.out.2 (hk1 f0 rest hh)
              cases this
          | false =>
            go_wp2_with fail
            go_meet
            case rel => exact ⟨L - 1, hBk, by omega, by omega, hk0⟩
        case rest =>
        obtain ⟨L1, hB, hL1, hL2, hkd⟩ := hcut
        clear hBk hk0 hk1 hqb cb0 fb0 lb u2 ul
        have hol2 : out.length ≤ 32 := by have := hol.out; omega
        clear hol hq hsi hi32
        go_wp2_with fail
        go_loopw [10] (fun vi wr => ∃ (j : Nat) (vK : Value) (ks : List Fm) (H : PH) (sj : RS) (Lj : Int), vi = .int .i64 j ∧ Hid (ks.length = j) ∧ RS2 HR w g b sj Lj [box w.heap.size #[.int .i64 0, .int .i64 0, .slice none 0 0, .slice none 0 0] 50, box g5 #[.int .i64 op, .int .i64 n, .slice iA out.length iC, vK] 50, own mono_ItvR 8 92 (.slice iA out.length iC) out, own mono_FmR 4 50 vK ks] H wr ∧
          -1 ≤ Lj ∧ (sumN Fm.size ks : Int) ≤ L - 1 - Lj ∧ j ≤ sumN Fm.size ks ∧ sumN Fm.bulk ks ≤ 33 * sumN Fm.size ks ∧ KdF s L op n out kk ks sj Lj ∧ Small sj) (fun vi _ => 98 - (intOf vi).toNat)
        case atStart => exact ⟨0, _, [], noH, sK, L1, rfl, Lib.hid rfl, hB, hL1, by simp [sumN]; omega, by simp, by simp [sumN], hkd, hsk⟩
        case round =>
          clear hB hkd hsk
          obtain ⟨j, vK, ks, H, sj, Lj, rfl, hkl, hB, hLj, hsz, hjs, hbk, hkd, hsj⟩ := hrel
          obtain ⟨ka, kc, rfl, -⟩ : ∃ a c, vK = .slice a ks.length c ∧ True := by
            obtain ⟨w0, hw0, hMm⟩ := hB.mem
            obtain ⟨a, c, e, -⟩ := hMm.form 3 rfl
            exact ⟨a, c, e, trivial⟩
          obtain ⟨cb, fb⟩ := hB.left.facts
          have lb := hB.left.lt
          have cb0 : _ = some (Value.int .i64 Lj) := cb 0
          clear cb fb
          by_cases hgo : (j : Int) < kk ∧ 0 ≤ Lj
          · obtain ⟨g1, g2⟩ := hgo
            have b1 : decide ((j : Int) < kk) = true := by simpa using g1
            have b2 : decide (0 ≤ Lj) = true := by simpa using g2
            have k3 : wr.cell? ⟨g5, 3, none⟩ = some (Value.slice ka ks.length kc) := by
              obtain ⟨w0, hw0, hMm⟩ := hB.mem
              exact (hMm.box 1 rfl).facts.1 3
            have ul : g5 < wr.heap.size := by
              obtain ⟨w0, hw0, hMm⟩ := hB.mem
              exact (hMm.box 1 rfl).lt
            go_wp2_with fail
            refine wp_region_any (by kernel_rfl) ?_
            change wpAny _ _ _ _ _ _ _ (World.drew _)
            replace hB := hB.own (fun w0 m => m.ext (Ext.rfl' wr).drew')
            clear cb0 lb b1 b2
            (refine wpAny_take (i := 0) (v := ?_) rfl (by kernel_rfl) (by kernel_rfl) (by kernel_rfl) (fun _ _ _ h => h) (Or.inl ⟨by rfl, ?_⟩) ?_; rotate_left; (focus ((intro w; go_simp); try (with_reducible rfl))); (try simp only [Act.put, List.setIfInBounds_toArray, List.set_cons_zero, List.set_cons_succ]))
            (refine wpAny_take (i := 2) (v := ?_) rfl (by kernel_rfl) (by kernel_rfl) (by kernel_rfl) (fun _ _ _ h => h) (Or.inl ⟨by rfl, ?_⟩) ?_; rotate_left; (focus ((intro w; go_simp); try (with_reducible rfl))); (try simp only [Act.put, List.setIfInBounds_toArray, List.set_cons_zero, List.set_cons_succ]))
            (refine wpAny_take (i := 3) (v := ?_) rfl (by kernel_rfl) (by kernel_rfl) (by kernel_rfl) (fun _ _ _ h => h) (Or.inl ⟨by rfl, ?_⟩) ?_; rotate_left; (focus ((intro w; go_simp); try (with_reducible rfl))); (try simp only [Act.put, List.setIfInBounds_toArray, List.set_cons_zero, List.set_cons_succ]))
            refine wpAny_ready (rs := [1, 4]) (by kernel_rfl) (by simp) ?_
            refine AllReady.cons rfl (fun K hK => ?_) (AllReady.cons rfl (fun K hK => ?_) AllReady.nil)
            · go_simp
              refine hK _ _ ?_
              clear hK K
              refine wpAny_ready (rs := [4]) (by kernel_rfl) (by simp) ?_; refine AllReady.cons rfl (fun K hK => ?_) AllReady.nil
              go_simp
              refine (ih.out Lj g b sj _ (by omega) (by omega) (by omega) hB.rd hB.left hB.gb hB.hn hsj).mono ?_
              rintro e' w4 ⟨f, a3, c3, a4, c4, s', L', rfl, hF, hrd, hR4, hL4, hx4, hs4⟩
              refine hK _ _ ?_
              clear hK K
              obtain ⟨H4, q1, q2, hB4⟩ := hB.call hR4 hL4 hx4 (PLe.refl _)
              have hF4 := mono_FmR _ _ _ _ q2 hF
              replace hB := hB4
              clear hB4 q1 q2 hF hR4 hL4 hx4 k3 ul
              have k3 : w4.cell? ⟨g5, 3, none⟩ = some (Value.slice ka ks.length kc) := by
                obtain ⟨w0, hw0, hMm⟩ := hB.mem
                exact (hMm.box 1 rfl).facts.1 3
              have ul : g5 < w4.heap.size := by
                obtain ⟨w0, hw0, hMm⟩ := hB.mem
                exact (hMm.box 1 rfl).lt
              (refine wpAny_ready (rs := [5]) (by kernel_rfl) (by simp) ?_; refine AllReady.cons rfl (fun K hK => ?_) AllReady.nil; go_simp; refine hK _ _ ?_; clear hK K)
              clear k3 ul
              have hB5 := hB.own (fun w0 m => m.ext (Ext.new w4 (.cells #[.int .i64 f.op, .int .i64 f.n, .slice a3 f.inn.length c3, .slice a4 f.kids.length c4] 50)))
              have hS := Src.lit1 (E := FmR) (H := H4) (w := w4.alloc (.cells #[.int .i64 f.op, .int .i64 f.n, .slice a3 f.inn.length c3, .slice a4 f.kids.length c4] 50)) (b := w4.heap.size) (sz := 4) hF4 rfl (fun j => by rw [(Proofs.YtnpnjcaomakehaaGreat.Own.new w4 #[.int .i64 f.op, .int .i64 f.n, .slice a3 f.inn.length c3, .slice a4 f.kids.length c4] 50).facts.1 j]; simp [fmC])
              clear hB
              obtain ⟨w0, hw0, hMm⟩ := hB5.mem
              refine wpAny_ready (rs := [6]) (by kernel_rfl) (by simp) ?_; refine AllReady.cons rfl (fun K hK => ?_) AllReady.nil
              refine oper_append_M (hm := mono_FmR) (v := .slice ka ks.length kc) (xs := ks) (ys := [f]) 3 _ _ 45 rfl Tryz.underlying45 infoFm rfl rfl rfl hMm rfl hS one_FmR (by have := hkl.out; simp; omega) (by have := hkl.out; simp; omega) ?_
              intro v' w6 hM6 hgr6
              refine hK _ _ ?_
              clear hK K
              have hB := hB5.own1 hw0 hMm hM6
              try simp only [List.set_cons_succ, List.set_cons_zero] at hB
              clear hB5 hMm hM6 hS hgr6 hw0
              obtain ⟨na, nc, rfl, -⟩ : ∃ a c, v' = .slice a (ks ++ [f]).length c ∧ True := by
                obtain ⟨w0, hw0, hMm⟩ := hB.mem
                obtain ⟨a, c, e, -⟩ := hMm.form 3 rfl
                exact ⟨a, c, e, trivial⟩
              have uf3 : w6.frozen? ⟨g5, 3, none⟩ = false := by
                obtain ⟨w0, hw0, hMm⟩ := hB.mem
                exact (hMm.box 1 rfl).facts.2 3
              have uc3 : w6.cell? ⟨g5, 3, none⟩ = some (Value.slice ka ks.length kc) := by
                obtain ⟨w0, hw0, hMm⟩ := hB.mem
                exact (hMm.box 1 rfl).facts.1 3
              have ul : g5 < w6.heap.size := by
                obtain ⟨w0, hw0, hMm⟩ := hB.mem
                exact (hMm.box 1 rfl).lt
              have hB7 := hB.own (fun w0 m => m.set 1 rfl 3 (.slice na (ks ++ [f]).length nc))
              try simp only [List.set_cons_succ, List.set_cons_zero, List.setIfInBounds_toArray] at hB7
              clear hB
              rw [show (ks ++ [f]).length = ks.length + 1 by simp] at hB7
              (refine wpAny_take (i := 7) (v := ?_) rfl (by kernel_rfl) (by kernel_rfl) (by kernel_rfl) (fun _ _ _ h => h) (Or.inl ⟨by rfl, ?_⟩) ?_; rotate_left; (focus ((intro w; go_simp); try (with_reducible rfl))); (try simp only [Act.put, List.setIfInBounds_toArray, List.set_cons_zero, List.set_cons_succ]))
              (refine wpAny_ready (rs := [8]) (by kernel_rfl) (by simp) ?_; refine AllReady.cons rfl (fun K hK => ?_) AllReady.nil; go_simp; refine hK _ _ ?_; clear hK K)
              refine wpAny_done (by kernel_rfl) ?_ _
              try simp only [List.getElem_toArray, List.getElem_cons_succ, List.getElem_cons_zero, Act.put, List.setIfInBounds_toArray, List.set_cons_zero, List.set_cons_succ]
              go_wp2_with fail
              go_roundw
              case rel =>
                have h1 : sumN Fm.size (ks ++ [f]) = sumN Fm.size ks + f.size := size_snoc ks f
                have h2 : sumN Fm.bulk (ks ++ [f]) = sumN Fm.bulk ks + f.bulk := bulk_snoc ks f
                have h3 := hrd.1
                have h4 := hrd.2.1
                have h5 := hrd.2.2.1
                have h6 := f.size_pos
                exact ⟨j + 1, .slice na (ks.length + 1) nc, ks ++ [f], H4, s', L', by go_num, Lib.hid (by rw [List.length_append, hkl.out]; rfl), hB7, h3, by omega, by omega, by rw [h1]; omega, hkd.step (by have := hkl.out; omega) hrd, hs4⟩
              case measure => simp [intOf]; omega
            · skip
              go_simp
              refine (ih.out Lj g b sj _ (by omega) (by omega) (by omega) hB.rd hB.left hB.gb hB.hn hsj).mono ?_
              rintro e' w4 ⟨f, a3, c3, a4, c4, s', L', rfl, hF, hrd, hR4, hL4, hx4, hs4⟩
              refine hK _ _ ?_
              clear hK K
              obtain ⟨H4, q1, q2, hB4⟩ := hB.call hR4 hL4 hx4 (PLe.refl _)
              have hF4 := mono_FmR _ _ _ _ q2 hF
              replace hB := hB4
              clear hB4 q1 q2 hF hR4 hL4 hx4 k3 ul
              have k3 : w4.cell? ⟨g5, 3, none⟩ = some (Value.slice ka ks.length kc) := by
                obtain ⟨w0, hw0, hMm⟩ := hB.mem
                exact (hMm.box 1 rfl).facts.1 3
              have ul : g5 < w4.heap.size := by
                obtain ⟨w0, hw0, hMm⟩ := hB.mem
                exact (hMm.box 1 rfl).lt
              refine wpAny_ready (rs := [1, 5]) (by kernel_rfl) (by simp) ?_
              refine AllReady.cons rfl (fun K hK => ?_) (AllReady.cons rfl (fun K hK => ?_) AllReady.nil)
              · go_simp
                refine hK _ _ ?_
                clear hK K
                (refine wpAny_ready (rs := [5]) (by kernel_rfl) (by simp) ?_; refine AllReady.cons rfl (fun K hK => ?_) AllReady.nil; go_simp; refine hK _ _ ?_; clear hK K)
                clear k3 ul
                have hB5 := hB.own (fun w0 m => m.ext (Ext.new w4 (.cells #[.int .i64 f.op, .int .i64 f.n, .slice a3 f.inn.length c3, .slice a4 f.kids.length c4] 50)))
                have hS := Src.lit1 (E := FmR) (H := H4) (w := w4.alloc (.cells #[.int .i64 f.op, .int .i64 f.n, .slice a3 f.inn.length c3, .slice a4 f.kids.length c4] 50)) (b := w4.heap.size) (sz := 4) hF4 rfl (fun j => by rw [(Proofs.YtnpnjcaomakehaaGreat.Own.new w4 #[.int .i64 f.op, .int .i64 f.n, .slice a3 f.inn.length c3, .slice a4 f.kids.length c4] 50).facts.1 j]; simp [fmC])
                clear hB
                obtain ⟨w0, hw0, hMm⟩ := hB5.mem
                refine wpAny_ready (rs := [6]) (by kernel_rfl) (by simp) ?_; refine AllReady.cons rfl (fun K hK => ?_) AllReady.nil
                refine oper_append_M (hm := mono_FmR) (v := .slice ka ks.length kc) (xs := ks) (ys := [f]) 3 _ _ 45 rfl Tryz.underlying45 infoFm rfl rfl rfl hMm rfl hS one_FmR (by have := hkl.out; simp; omega) (by have := hkl.out; simp; omega) ?_
                intro v' w6 hM6 hgr6
                refine hK _ _ ?_
                clear hK K
                have hB := hB5.own1 hw0 hMm hM6
                try simp only [List.set_cons_succ, List.set_cons_zero] at hB
                clear hB5 hMm hM6 hS hgr6 hw0
                obtain ⟨na, nc, rfl, -⟩ : ∃ a c, v' = .slice a (ks ++ [f]).length c ∧ True := by
                  obtain ⟨w0, hw0, hMm⟩ := hB.mem
                  obtain ⟨a, c, e, -⟩ := hMm.form 3 rfl
                  exact ⟨a, c, e, trivial⟩
                have uf3 : w6.frozen? ⟨g5, 3, none⟩ = false := by
                  obtain ⟨w0, hw0, hMm⟩ := hB.mem
                  exact (hMm.box 1 rfl).facts.2 3
                have uc3 : w6.cell? ⟨g5, 3, none⟩ = some (Value.slice ka ks.length kc) := by
                  obtain ⟨w0, hw0, hMm⟩ := hB.mem
                  exact (hMm.box 1 rfl).facts.1 3
                have ul : g5 < w6.heap.size := by
                  obtain ⟨w0, hw0, hMm⟩ := hB.mem
                  exact (hMm.box 1 rfl).lt
                have hB7 := hB.own (fun w0 m => m.set 1 rfl 3 (.slice na (ks ++ [f]).length nc))
                try simp only [List.set_cons_succ, List.set_cons_zero, List.setIfInBounds_toArray] at hB7
                clear hB
                rw [show (ks ++ [f]).length = ks.length + 1 by simp] at hB7
                (refine wpAny_take (i := 7) (v := ?_) rfl (by kernel_rfl) (by kernel_rfl) (by kernel_rfl) (fun _ _ _ h => h) (Or.inl ⟨by rfl, ?_⟩) ?_; rotate_left; (focus ((intro w; go_simp); try (with_reducible rfl))); (try simp only [Act.put, List.setIfInBounds_toArray, List.set_cons_zero, List.set_cons_succ]))
                (refine wpAny_ready (rs := [8]) (by kernel_rfl) (by simp) ?_; refine AllReady.cons rfl (fun K hK => ?_) AllReady.nil; go_simp; refine hK _ _ ?_; clear hK K)
                refine wpAny_done (by kernel_rfl) ?_ _
                try simp only [List.getElem_toArray, List.getElem_cons_succ, List.getElem_cons_zero, Act.put, List.setIfInBounds_toArray, List.set_cons_zero, List.set_cons_succ]
                go_wp2_with fail
                go_roundw
                case rel =>
                  have h1 : sumN Fm.size (ks ++ [f]) = sumN Fm.size ks + f.size := size_snoc ks f
                  have h2 : sumN Fm.bulk (ks ++ [f]) = sumN Fm.bulk ks + f.bulk := bulk_snoc ks f
                  have h3 := hrd.1
                  have h4 := hrd.2.1
                  have h5 := hrd.2.2.1
                  have h6 := f.size_pos
                  exact ⟨j + 1, .slice na (ks.length + 1) nc, ks ++ [f], H4, s', L', by go_num, Lib.hid (by rw [List.length_append, hkl.out]; rfl), hB7, h3, by omega, by omega, by rw [h1]; omega, hkd.step (by have := hkl.out; omega) hrd, hs4⟩
                case measure => simp [intOf]; omega
              · go_simp
                refine hK _ _ ?_
                clear hK K
                (refine wpAny_ready (rs := [1]) (by kernel_rfl) (by simp) ?_; refine AllReady.cons rfl (fun K hK => ?_) AllReady.nil; go_simp; refine hK _ _ ?_; clear hK K)
                clear k3 ul
                have hB5 := hB.own (fun w0 m => m.ext (Ext.new w4 (.cells #[.int .i64 f.op, .int .i64 f.n, .slice a3 f.inn.length c3, .slice a4 f.kids.length c4] 50)))
                have hS := Src.lit1 (E := FmR) (H := H4) (w := w4.alloc (.cells #[.int .i64 f.op, .int .i64 f.n, .slice a3 f.inn.length c3, .slice a4 f.kids.length c4] 50)) (b := w4.heap.size) (sz := 4) hF4 rfl (fun j => by rw [(Proofs.YtnpnjcaomakehaaGreat.Own.new w4 #[.int .i64 f.op, .int .i64 f.n, .slice a3 f.inn.length c3, .slice a4 f.kids.length c4] 50).facts.1 j]; simp [fmC])
                clear hB
                obtain ⟨w0, hw0, hMm⟩ := hB5.mem
                refine wpAny_ready (rs := [6]) (by kernel_rfl) (by simp) ?_; refine AllReady.cons rfl (fun K hK => ?_) AllReady.nil
                refine oper_append_M (hm := mono_FmR) (v := .slice ka ks.length kc) (xs := ks) (ys := [f]) 3 _ _ 45 rfl Tryz.underlying45 infoFm rfl rfl rfl hMm rfl hS one_FmR (by have := hkl.out; simp; omega) (by have := hkl.out; simp; omega) ?_
                intro v' w6 hM6 hgr6
                refine hK _ _ ?_
                clear hK K
                have hB := hB5.own1 hw0 hMm hM6
                try simp only [List.set_cons_succ, List.set_cons_zero] at hB
                clear hB5 hMm hM6 hS hgr6 hw0
                obtain ⟨na, nc, rfl, -⟩ : ∃ a c, v' = .slice a (ks ++ [f]).length c ∧ True := by
                  obtain ⟨w0, hw0, hMm⟩ := hB.mem
                  obtain ⟨a, c, e, -⟩ := hMm.form 3 rfl
                  exact ⟨a, c, e, trivial⟩
                have uf3 : w6.frozen? ⟨g5, 3, none⟩ = false := by
                  obtain ⟨w0, hw0, hMm⟩ := hB.mem
                  exact (hMm.box 1 rfl).facts.2 3
                have uc3 : w6.cell? ⟨g5, 3, none⟩ = some (Value.slice ka ks.length kc) := by
                  obtain ⟨w0, hw0, hMm⟩ := hB.mem
                  exact (hMm.box 1 rfl).facts.1 3
                have ul : g5 < w6.heap.size := by
                  obtain ⟨w0, hw0, hMm⟩ := hB.mem
                  exact (hMm.box 1 rfl).lt
                have hB7 := hB.own (fun w0 m => m.set 1 rfl 3 (.slice na (ks ++ [f]).length nc))
                try simp only [List.set_cons_succ, List.set_cons_zero, List.setIfInBounds_toArray] at hB7
                clear hB
                rw [show (ks ++ [f]).length = ks.length + 1 by simp] at hB7
                (refine wpAny_take (i := 7) (v := ?_) rfl (by kernel_rfl) (by kernel_rfl) (by kernel_rfl) (fun _ _ _ h => h) (Or.inl ⟨by rfl, ?_⟩) ?_; rotate_left; (focus ((intro w; go_simp); try (with_reducible rfl))); (try simp only [Act.put, List.setIfInBounds_toArray, List.set_cons_zero, List.set_cons_succ]))
                (refine wpAny_ready (rs := [8]) (by kernel_rfl) (by simp) ?_; refine AllReady.cons rfl (fun K hK => ?_) AllReady.nil; go_simp; refine hK _ _ ?_; clear hK K)
                refine wpAny_done (by kernel_rfl) ?_ _
                try simp only [List.getElem_toArray, List.getElem_cons_succ, List.getElem_cons_zero, Act.put, List.setIfInBounds_toArray, List.set_cons_zero, List.set_cons_succ]
                go_wp2_with fail
                go_roundw
                case rel =>
                  have h1 : sumN Fm.size (ks ++ [f]) = sumN Fm.size ks + f.size := size_snoc ks f
                  have h2 : sumN Fm.bulk (ks ++ [f]) = sumN Fm.bulk ks + f.bulk := bulk_snoc ks f
                  have h3 := hrd.1
                  have h4 := hrd.2.1
                  have h5 := hrd.2.2.1
                  have h6 := f.size_pos
                  exact ⟨j + 1, .slice na (ks.length + 1) nc, ks ++ [f], H4, s', L', by go_num, Lib.hid (by rw [List.length_append, hkl.out]; rfl), hB7, h3, by omega, by omega, by rw [h1]; omega, hkd.step (by have := hkl.out; omega) hrd, hs4⟩
                case measure => simp [intOf]; omega
          · go_upto_region 16 with (fail)
            go_cut [110] (fun v wx => v = .bool false ∧ wx = wr)
            case first =>
              by_cases g1 : (j : Int) < kk
              · have b1 : decide ((j : Int) < kk) = true := by simpa using g1
                have b2 : decide (0 ≤ Lj) = false := by simp; omega
                go_wp2_with fail
                go_meet
                case rel => exact ⟨rfl, rfl⟩
              · have b1 : decide ((j : Int) < kk) = false := by simpa using g1
                go_wp2_with fail
                go_meet
                case rel => exact ⟨rfl, rfl⟩
            case rest =>
            obtain ⟨rfl, rfl⟩ := hcut
            have hdn := hkd.done (by have := hkl.out; omega)
            clear cb0 lb hkd hkl hgo
            obtain ⟨w0, hw0, hMm⟩ := hB.mem
            obtain ⟨uc, -⟩ := (hMm.box 1 rfl).facts
            have u0 : _ = some (Value.int .i64 op) := uc 0
            have u1 : _ = some (Value.int .i64 n) := uc 1
            have u2 : _ = some ((.slice iA out.length iC) : Value) := uc 2
            have u3 : _ = some ((.slice ka ks.length kc) : Value) := uc 3
            have ul := (hMm.box 1 rfl).lt
            have rz0 : _ = some (Value.int .i64 0) := (hMm.box 0 rfl).facts.1 0
            have rz1 : _ = some (Value.int .i64 0) := (hMm.box 0 rfl).facts.1 1
            have rz2 : _ = some (Value.slice none 0 0) := (hMm.box 0 rfl).facts.1 2
            have rz3 : _ = some (Value.slice none 0 0) := (hMm.box 0 rfl).facts.1 3
            obtain ⟨-, rzf⟩ := (hMm.box 0 rfl).facts
            have rzl := (hMm.box 0 rfl).lt
            have hB8 := hB.own (fun w0 m => m.set4 0 rfl (.int .i64 op) (.int .i64 n) (.slice iA out.length iC) (.slice ka ks.length kc))
            try simp only [List.set_cons_zero] at hB8
            clear hB uc hMm hw0
            go_wp2_with fail
            generalize World.setCell _ _ _ = w9 at *
            obtain ⟨w0', hw0', hMm'⟩ := hB8.mem
            obtain ⟨rq', -⟩ := (hMm'.box 0 rfl).facts
            have rq0 : _ = some (Value.int .i64 op) := rq' 0
            have rq1 : _ = some (Value.int .i64 n) := rq' 1
            have rq2 : _ = some ((.slice iA out.length iC) : Value) := rq' 2
            have rq3 : _ = some ((.slice ka ks.length kc) : Value) := rq' 3
            obtain ⟨H5, k5, hM5, hI5⟩ := hMm'.freezeS 2 rfl
            obtain ⟨H6, k6, hM6, hK6⟩ := hM5.freezeS 3 rfl
            have hub := hM6.ub
            rw [up_szN hw0'] at hub
            refine bodyPost_ret (v := .agg #[.int .i64 op, .int .i64 n, (.slice iA out.length iC), (.slice ka ks.length kc)]) (by simp [results, Tryz.results55, go_sem, rq0, rq1, rq2, rq3]) rfl ?_
            refine ⟨.mk op n out ks, _, _, _, _, _, _, rfl, mono_FmR _ _ _ _ hub (FmR.of (f := .mk op n out ks) i1 i2 (hI5.mono mono_ItvR k6) hK6), ?_, hB8.rd, hB8.left, hB8.ex, ?_⟩
            · refine ⟨hLj, ?_, ?_, hdn⟩
              · rw [Fm.size_eq]; simp only [Fm.kids]; omega
              · rw [Fm.size_eq, Fm.bulk_eq]; simp only [Fm.kids, Fm.inn]; omega
            · exact hsj
attribute [local go_sem] Oper.semAt_some run_store_fn
abbrev FmAR (R : List Value → Fm → Prop) := { p : List Value × Fm // R p.1 p.2 }
def FmAR.f {R : List Value → Fm → Prop} (x : FmAR R) : Fm := x.1.2
def fmsOr {R : List Value → Fm → Prop} (l : List (FmAR R)) : List Fm := l.map FmAR.f
theorem fmsOr_app {R : List Value → Fm → Prop} (l m : List (FmAR R)) : fmsOr (l ++ m) = fmsOr l ++ fmsOr m := List.map_append
theorem fmsOr_len {R : List Value → Fm → Prop} (l : List (FmAR R)) : (fmsOr l).length = l.length := List.length_map _
def ItPR {R : List Value → Fm → Prop} (tot : List Fm) (pre : List (FmAR R)) (l : List Fm) (J Jx : List (FmAR R) → World → Prop) (n₀ Bo : Nat) (W : World) (e : Ending) (W' : World) : Prop :=
  (e = .returned (.bool true) ∧ ∃ ys, fmsOr ys = l ∧ J (pre ++ ys) W' ∧ Kx n₀ Bo W W') ∨ (e = .returned (.bool false) ∧ ∃ p, fmsOr p <+: tot ∧ Jx p W')
def YieldOkR {R : List Value → Fm → Prop} (n l N n₀ Bo : Nat) (J Jx : List (FmAR R) → World → Prop) : Prop :=
  ∀ pre x W, J pre W → pre.length < N → YieldAt Fence.wide (n - 1) Tryz.prog l #[.agg x.1.1.toArray] W fun e W' =>
      (e = .returned (.bool true) ∧ J (pre ++ [x]) W' ∧ Kx n₀ Bo W W') ∨ (e = .returned (.bool false) ∧ Jx (pre ++ [x]) W')
section
variable {H : PH} {R : List Value → Fm → Prop} {n l N n₀ Bo B1 B2 : Nat} {J Jx : List (FmAR R) → World → Prop} {tot : List Fm}
theorem node1R_c (cs : List Value) (x : Fm) (W : World) (pre : List (FmAR R)) (hx : FmR H cs x) (hM : StepM H n₀ Bo l B1 B2 W) (hlow : ∀ k o, H k = some o → k < n₀) (hJ : J pre W) (hJa : ∀ pre W o, J pre W → J pre (W.alloc o))
    (ih : ∀ W, StepM H n₀ Bo l B1 B2 W → J pre W → Calls Tryz.prog 84 #[.agg cs.toArray, .pointer (some ⟨B1, 0, none⟩), .pointer (some ⟨B2, 0, none⟩)] W (ItPR tot pre x.pre J Jx n₀ Bo W)) :
    Calls Tryz.prog 86 #[.agg cs.toArray, .pointer (some ⟨B2, 0, none⟩)] W fun e W' => (e = .returned (.bool false) ∧ ∃ ys, fmsOr ys = x.pre ∧ J (pre ++ ys) W' ∧ Kx n₀ Bo W W') ∨ (e = .returned (.bool true) ∧ ∃ p, fmsOr p <+: tot ∧ Jx p W') := by
  obtain ⟨a3, c3, a4, c4, rfl, -⟩ := hx.form
  unfold fmC at *
  have hM1 := hM.ext hlow (Ext.new W (.cells #[.int .i64 x.op, .int .i64 x.n, .slice a3 x.inn.length c3, .slice a4 x.kids.length c4] 50))
  have hJ1 := hJa _ _ (.cells #[.int .i64 x.op, .int .i64 x.n, .slice a3 x.inn.length c3, .slice a4 x.kids.length c4] 50) hJ
  have hk1 : Kx n₀ Bo W (W.alloc (.cells #[.int .i64 x.op, .int .i64 x.n, .slice a3 x.inn.length c3, .slice a4 x.kids.length c4] 50)) := Kx.ext (Ext.new _ _) hM.good.1 hM.sz
  obtain ⟨f1, -⟩ := hM1.m.2.1.facts
  have f2 := f1 0
  simp only [List.getElem?_toArray, List.getElem?_cons_zero] at f2
  have HI := Lib.hid ih; clear ih f1
  go_enter Tryz.func86, Tryz.ntmps86
  go_wp2_with fail
  refine (HI.out _ hM1 hJ1).mono ?_
  rintro e w1 (⟨rfl, ys, h1, h2, h3⟩ | ⟨rfl, p, h1, h2⟩)
  · go_wp2_with fail
    go_ret
    exact .inl ⟨rfl, ys, h1, h2, hk1.then h3⟩
  · go_wp2_with fail
    go_ret
    exact .inr ⟨rfl, p, h1, h2⟩
theorem nodeR_c (hRF : ∀ cs f, R cs f → FmR H cs f) (hRK : ∀ cs f, R cs f → ∀ x ∈ f.kids, ∀ ds, FmR H ds x → R ds x) (hn : 2 ≤ n) (hlow : ∀ k o, H k = some o → k < n₀) (hJa : ∀ pre W o, J pre W → J pre (W.alloc o)) (hY : YieldOkR n l N n₀ Bo J Jx) (htot : tot.length ≤ N) (f : Fm) : ∀ (cs : List Value) (pre : List (FmAR R)) (W : World),
    R cs f → StepM H n₀ Bo l B1 B2 W → J pre W → fmsOr pre ++ f.pre <+: tot →
    Calls Tryz.prog 84 #[.agg cs.toArray, .pointer (some ⟨B1, 0, none⟩), .pointer (some ⟨B2, 0, none⟩)] W (ItPR tot pre f.pre J Jx n₀ Bo W) := by
  induction f using Fm.ind with
  | h f ih =>
    intro cs pre W hr hM hJ ht
    have hlen : pre.length < N := by
      have := ht.length_le
      rw [List.length_append, fmsOr_len, Fm.pre_len] at this
      have := f.size_pos
      omega
    have hr' := hr
    obtain ⟨a3, c3, a4, c4, rfl, -, -, -, hkl, -, hk⟩ := (hRF _ _ hr).form
    have hRk := hRK _ _ hr
    unfold fmC at *
    have hM1 := hM.ext hlow (Ext.new W (.cells #[.int .i64 f.op, .int .i64 f.n, .slice a3 f.inn.length c3, .slice a4 f.kids.length c4] 50))
    have hJ1 := hJa _ _ (.cells #[.int .i64 f.op, .int .i64 f.n, .slice a3 f.inn.length c3, .slice a4 f.kids.length c4] 50) hJ
    have hk1 : Kx n₀ Bo W (W.alloc (.cells #[.int .i64 f.op, .int .i64 f.n, .slice a3 f.inn.length c3, .slice a4 f.kids.length c4] 50)) := Kx.ext (Ext.new _ _) hM.good.1 hM.sz
    have hB3 := Held.new hM.good (Ext.new W (.cells #[.int .i64 f.op, .int .i64 f.n, .slice a3 f.inn.length c3, .slice a4 f.kids.length c4] 50)) (Nat.le_refl _) (Own.new W _ _)
    obtain ⟨f1, -⟩ := hM1.m.1.1.facts
    have f2 := f1 0
    simp only [List.getElem?_toArray, List.getElem?_cons_zero] at f2
    obtain ⟨fn, tmps, assign, body, hy, hYR⟩ := hY _ ⟨(_, f), hr'⟩ _ hJ1 hlen
    dsimp only at hy
    have HI := Lib.hid ih; clear ih f1
    have hn1 : 1 ≤ n := by omega
    refine (callsIn_wide (n := n)).1 ?_
    refine callsIn_of_wp Tryz.func84 rfl trivial ?_ rfl
    simp only [Tryz.ntmps84, List.size_toArray, List.length_cons, List.length_nil, Nat.reduceAdd, Nat.reduceSub, Array.replicate_succ, Array.replicate_zero, List.push_toArray, List.append_toArray, List.nil_append, List.cons_append]
    gi_wp2
    refine hYR.mono ?_
    rintro e W3 (⟨rfl, hJ3, hk3⟩ | ⟨rfl, hJx3⟩)
    · have hM3 := hM1.kx hlow hk3
      have hB4 := hB3.kx hk3
      obtain ⟨f3, -⟩ := hB4.1.facts
      have f4 := f3 3
      simp only [List.getElem?_toArray, List.getElem?_cons_zero, List.getElem?_cons_succ] at f4
      clear f3
      gi_wp2
      refine ⟨trivial, callsIn_wide.2 ((containsFunc_J 86 #[.pointer (some ⟨B2, 0, none⟩)] _ f.kids hk
        (fun k wr => ∃ ys, fmsOr ys = (f.kids.take k).flatMap Fm.pre ∧ J (pre ++ [⟨(_, f), hr'⟩] ++ ys) wr ∧ Kx n₀ Bo W wr ∧ StepM H n₀ Bo l B1 B2 wr) (fun wr => ∃ p, fmsOr p <+: tot ∧ Jx p wr) _
        (fun args w => enterFn Tryz.func86 rfl rfl args w) ?_ (fun k wr h => h.choose_spec.2.2.2.le) ⟨[], rfl, by rw [List.append_nil]; exact hJ3, hk1.then hk3, hM3⟩).mono ?_)⟩
      · rintro k hkk wr cs ⟨ys, g1, g2, g3, g4⟩ hE
        have e : (f.kids.take (k + 1)).flatMap Fm.pre = (f.kids.take k).flatMap Fm.pre ++ f.kids[k].pre := by
          rw [List.take_succ_eq_append_getElem hkk, List.flatMap_append]; simp
        have ht2 : fmsOr (pre ++ [⟨(_, f), hr'⟩] ++ ys) ++ f.kids[k].pre <+: tot := by
          refine List.IsPrefix.trans ?_ ht
          rw [fmsOr_app, fmsOr_app, g1, Fm.pre_eq f]
          have e2 : fmsOr [(⟨(_, f), hr'⟩ : FmAR R)] = [f] := rfl
          rw [e2, List.append_assoc, List.append_assoc, ← e]
          refine List.prefix_append_right_inj _ |>.2 ?_
          refine List.cons_prefix_cons.2 ⟨rfl, ?_⟩
          have e3 : f.kids.flatMap Fm.pre = (f.kids.take (k + 1)).flatMap Fm.pre ++ (f.kids.drop (k + 1)).flatMap Fm.pre := by rw [← List.flatMap_append, List.take_append_drop]
          rw [e3]
          exact List.prefix_append _ _
        refine (node1R_c cs f.kids[k] wr _ hE g4 hlow g2 hJa fun W' hM' hJ' => HI.out _ (List.getElem_mem hkk) cs _ W' (hRk _ (List.getElem_mem hkk) _ hE) hM' hJ' ht2).mono ?_
        rintro e' w' (⟨rfl, zs, q1, q2, q3⟩ | ⟨rfl, p, q1, q2⟩)
        · refine .inl ⟨rfl, ys ++ zs, by rw [fmsOr_app, g1, q1, e], by rw [← List.append_assoc]; exact q2, g3.then q3, g4.kx hlow q3⟩
        · exact .inr ⟨rfl, p, q1, q2⟩
      · rintro e w4 (⟨rfl, ys, g1, g2, g3, g4⟩ | ⟨rfl, p, g1, g2⟩)
        · gi_wp2
          go_ret
          refine .inl ⟨rfl, ⟨(_, f), hr'⟩ :: ys, ?_, ?_, g3⟩
          · rw [Fm.pre_eq]
            rw [List.take_length] at g1
            show f :: fmsOr ys = _
            rw [g1]
          · rw [List.append_assoc] at g2; exact g2
        · gi_wp2
          go_ret
          exact .inr ⟨rfl, p, g1, g2⟩
    · gi_wp2
      refine ⟨trivial, ?_⟩
      gi_wp2
      go_ret
      refine .inr ⟨rfl, _, ?_, hJx3⟩
      refine List.IsPrefix.trans ?_ ht
      rw [fmsOr_app, Fm.pre_eq]
      exact (List.prefix_append_right_inj _).2 (List.cons_prefix_cons.2 ⟨rfl, List.nil_prefix⟩)
end
set_option maxRecDepth 100000 in
theorem nodesR_seq {H : PH} {R : List Value → Fm → Prop} (hRF : ∀ cs f, R cs f → FmR H cs f) (hRK : ∀ cs f, R cs f → ∀ x ∈ f.kids, ∀ ds, FmR H ds x → R ds x) {n n₀ Bo Bf : Nat} {w0 : World} {cs : List Value} {f : Fm} (hn : 3 ≤ n) (hg : Good Bo w0) (hle : PLe H (ph w0)) (hlow : ∀ k o, H k = some o → k < n₀) (hn₀ : n₀ ≤ w0.heap.size) (hB : Own w0 Bf cs.toArray 50) (hr : R cs f) :
    SeqStopsK Fence.wide (n - 1) Tryz.prog 83 #[.pointer (some ⟨Bf, 0, none⟩)] (fun x : FmAR R => #[.agg x.1.1.toArray]) (Kx n₀ Bo) (fun ys => fmsOr ys = f.pre) (fun p => fmsOr p <+: f.pre) f.pre.length w0 := by
  intro l J Jx W hW hJ _ hY h0
  obtain ⟨a3, c3, a4, c4, rfl, -⟩ := (hRF _ _ hr).form
  have hBW : Own W Bf _ _ := hB.keep hW
  have hgW : Good Bo W := hg.ext hW
  have hle1 : PLe H (ph W) := hle.trans (Ext.ple hW)
  have hsz : n₀ ≤ W.heap.size := Nat.le_trans hn₀ hW.size
  obtain ⟨f1, -⟩ := hBW.facts
  have q0 := f1 0
  have q1 := f1 1
  have q2 := f1 2
  have q3 := f1 3
  simp only [fmC, List.getElem?_toArray, List.getElem?_cons_zero, List.getElem?_cons_succ] at q0 q1 q2 q3
  have hlB := hBW.lt
  have hJa : ∀ pre W1 o, J pre W1 → J pre (W1.alloc o) := fun pre W1 o h => hJ pre W1 _ none h (World.grownBy_alloc W1 o none) (fun r e => by cases e)
  have e1 : Ext W ((W.alloc (.cells #[.func (.yield l) #[] #[]] 99)).alloc (.cells #[.func (.func 84) #[] #[.pointer (some ⟨W.heap.size, 0, none⟩), .pointer (some ⟨W.heap.size + 1, 0, none⟩)]] 99)) := (Ext.new W _).alloc' _
  have o1 : Own ((W.alloc (.cells #[.func (.yield l) #[] #[]] 99)).alloc (.cells #[.func (.func 84) #[] #[.pointer (some ⟨W.heap.size, 0, none⟩), .pointer (some ⟨W.heap.size + 1, 0, none⟩)]] 99)) W.heap.size #[.func (.yield l) #[] #[]] 99 := (Own.new W _ _).alloc _
  have o2 : Own ((W.alloc (.cells #[.func (.yield l) #[] #[]] 99)).alloc (.cells #[.func (.func 84) #[] #[.pointer (some ⟨W.heap.size, 0, none⟩), .pointer (some ⟨W.heap.size + 1, 0, none⟩)]] 99)) (W.heap.size + 1) #[.func (.func 84) #[] #[.pointer (some ⟨W.heap.size, 0, none⟩), .pointer (some ⟨W.heap.size + 1, 0, none⟩)]] 99 := Own.new' _ _ _ (by simp)
  have hJ2 := hJa _ _ (.cells #[.func (.func 84) #[] #[.pointer (some ⟨W.heap.size, 0, none⟩), .pointer (some ⟨W.heap.size + 1, 0, none⟩)]] 99) (hJa _ _ (.cells #[.func (.yield l) #[] #[]] 99) h0)
  have hM : StepM H n₀ Bo l W.heap.size (W.heap.size + 1) _ := ⟨Nat.le_trans hsz e1.size, hgW.ext e1, hle1.trans e1.ple, Held.new hgW e1 (Nat.le_refl _) o1, Held.new hgW e1 (by omega) o2⟩
  have hk := Kx.ext (n₀ := n₀) e1 hgW.1 hsz
  have HC := Lib.hid (nodeR_c hRF hRK (B1 := W.heap.size) (B2 := W.heap.size + 1) (n := n - 1) (N := f.pre.length) (Jx := Jx) (by omega) hlow hJa hY (Nat.le_refl _) f _ [] _ hr hM hJ2 (List.prefix_refl _))
  clear hM hJ2 o1 o2 e1 f1 hB hBW hW hY hJ h0
  refine callsIn_of_wp Tryz.func83 rfl trivial ?_ rfl
  simp only [Tryz.ntmps83, List.size_toArray, List.length_cons, List.length_nil, Nat.reduceAdd, Nat.reduceSub, Array.replicate_succ, Array.replicate_zero, List.push_toArray, List.append_toArray, List.nil_append, List.cons_append]
  gi_wp2
  refine ⟨trivial, fun _ => by omega, callsIn_wide.2 (HC.out.mono ?_)⟩
  rintro e w4 (⟨rfl, ys, g1, g2, g3⟩ | ⟨rfl, p, g1, g2⟩)
  · gi_wp2
    go_end0
    exact ⟨⟨_, rfl⟩, .inl ⟨ys, g1, g2⟩⟩
  · gi_wp2
    go_end0
    exact ⟨⟨_, rfl⟩, .inr ⟨p, g1, g2⟩⟩
end Go.Proofs.YtnpnjcaomakehaaGreat
