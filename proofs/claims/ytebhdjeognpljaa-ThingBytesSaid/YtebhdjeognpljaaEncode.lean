/- thing.write and thing.Encode. -/
import Derived.Test.YtebhdjeognpljaaWriter
namespace Go.Proofs.Ytebhdjeognpljaa
open Go.RowKit
set_option linter.unusedSimpArgs false
set_option linter.unusedVariables false
def encV (v : Val) : List UInt8 := encL [v.attr, v.n.num, v.n.den]
def encVs (l : List Val) : List UInt8 := l.flatMap encV
mutual
def enc : Thing → List UInt8
  | .mk c v p => encInts c ++ encI v.length ++ encVs v ++ encI p.length ++ encTs p
def encTs : List Thing → List UInt8
  | [] => []
  | x :: xs => enc x ++ encTs xs
end
theorem encTs_eq : ∀ l : List Thing, encTs l = l.flatMap enc
  | [] => rfl
  | x :: xs => by simp [encTs, encTs_eq xs]
theorem enc_eq (t : Thing) : enc t = encInts t.cls ++ encI t.vals.length ++ encVs t.vals ++ encI t.parts.length ++ encTs t.parts := by
  cases t; rfl
theorem encVs_snoc (l : List Val) (k : Nat) (h : k < l.length) : encVs (l.take (k + 1)) = encVs (l.take k) ++ encV l[k] := by
  unfold encVs; rw [take_snoc l k h, List.flatMap_append]; simp
theorem encTs_snoc (l : List Thing) (k : Nat) (h : k < l.length) : encTs (l.take (k + 1)) = encTs (l.take k) ++ enc l[k] := by
  rw [encTs_eq, encTs_eq, take_snoc l k h, List.flatMap_append]; simp
theorem SliceRep.all {α : Type} {E : PH → List Value → α → Prop} {sz : Nat} {H : PH} {v : Value} {l : List α} (h : SliceRep E sz H v l) : ∀ x ∈ l, ∃ cs, E H cs x := by
  obtain ⟨a, c, rfl, h1, h⟩ := h.form
  intro x hx
  obtain ⟨k, hk, rfl⟩ := List.mem_iff_getElem.1 hx
  obtain ⟨b, o, cs, -, -, -, h2⟩ := h.get k hk
  exact ⟨cs, h2⟩
theorem encV_len {H : PH} {cs : List Value} {v : Val} (h : ValR H cs v) : (encV v).length ≤ 30 :=
  encL_len (l := [v.attr, v.n.num, v.n.den]) (by simp; exact h.2)
theorem encVs_len {l : List Val} (h : ∀ v ∈ l, (encV v).length ≤ 30) : (encVs l).length ≤ 30 * l.length := by
  induction l with
  | nil => simp [encVs]
  | cons x l ih =>
    have h1 := h x (by simp)
    have h2 := ih fun y hy => h y (by simp [hy])
    simp only [encVs, List.flatMap_cons, List.length_append, List.length_cons] at *
    omega
theorem encTs_len {l : List Thing} (h : ∀ v ∈ l, (enc v).length ≤ 30 * v.bulk) : (encTs l).length ≤ 30 * sumN Thing.bulk l := by
  rw [encTs_eq]
  induction l with
  | nil => simp [sumN]
  | cons x l ih =>
    have h1 := h x (by simp)
    have h2 := ih fun y hy => h y (by simp [hy])
    simp only [List.flatMap_cons, List.length_append, sumN] at *
    omega
theorem i64_nat {n : Nat} (h : n ≤ 9223372036854775807) : I64 (n : Int) := by unfold I64; omega
theorem encInts_len {l : List Int} (h : ∀ x ∈ l, I64 x) (hl : l.length ≤ 9223372036854775807) : (encInts l).length ≤ 10 + 10 * l.length := by
  have h1 := encL_len h
  have h2 := uvar_len10 (n := l.length) (by omega)
  simp only [encInts, List.length_append]; omega
theorem enc_len (t : Thing) : ∀ {H : PH} {cs : List Value}, ThingR H cs t → (enc t).length ≤ 30 * t.bulk := by
  induction t using Thing.ind with
  | h t ih =>
    intro H cs hr
    obtain ⟨a1, c1, a2, c2, a3, c3, rfl, l1, l2, l3, hc, hv, hp⟩ := hr.form
    have g1 := encInts_len (IntsR.all hc) l1
    have g2 := encI_len (i64_nat l2)
    have g3 := encI_len (i64_nat l3)
    have g4 := encVs_len (l := t.vals) fun v h => by obtain ⟨cs, h⟩ := hv.all v h; exact encV_len h
    have g5 := encTs_len (l := t.parts) fun v h => by obtain ⟨cs, h'⟩ := hp.all v h; exact ih v h h'
    rw [enc_eq, Thing.bulk_eq]
    simp only [List.length_append]
    omega
theorem run_index3 (x y z v : Value) (j : Nat) (hj : (#[x, y, z] : Array Value)[j]? = some v) (w : World) : (Instr.index 108 (.agg #[x, y, z]) (.int .i64 j)).run Try.prog w = .ok v w := by
  have h3 : j < 3 := by have := (Array.getElem?_eq_some_iff.1 hj).1; simpa using this
  unfold Instr.index
  simp [Instr.index, run_underlying (w := w) Try.underlying108, asIntOf, h3, go_sem]
  simpa [h3] using hj
theorem ThingsR.atH {H : PH} {w : World} {a : Option Addr} {n cap : Nat} {xs : List Thing} (hr : ThingsR H (.slice a n cap) xs) (hl : PLe H (ph w)) (k : Nat) (hk : k < xs.length) :
    ∃ b o a1 c1 a2 c2 a3 c3, a = some ⟨b, o, none⟩ ∧ w.cell? ⟨b, o + k * 3, none⟩ = some (.slice a1 xs[k].cls.length c1) ∧ w.cell? ⟨b, o + k * 3 + 1, none⟩ = some (.slice a2 xs[k].vals.length c2) ∧
      w.cell? ⟨b, o + k * 3 + 2, none⟩ = some (.slice a3 xs[k].parts.length c3) ∧ ThingR H [.slice a1 xs[k].cls.length c1, .slice a2 xs[k].vals.length c2, .slice a3 xs[k].parts.length c3] xs[k] ∧ b < w.heap.size := by
  obtain ⟨b, o, cs, h1, h2, h3, h5⟩ := hr.get k hk
  obtain ⟨a1, c1, a2, c2, a3, c3, rfl, -⟩ := h5.form
  have g0 := cellAt_mono hl (h3 0 (by omega))
  have g1 := cellAt_mono hl (h3 1 (by omega))
  have g2 := cellAt_mono hl (h3 2 (by omega))
  rw [← cell_ph] at g0 g1 g2
  exact ⟨b, o, a1, c1, a2, c2, a3, c3, h1, g0, g1, g2, h5, cell_lt g0⟩
/-- between two steps of write: the writer has got to ys, and the box stands -/
def St (base : Nat) (w : World) (g : Nat) (row : Option Nat) (bx : Nat) (c : Array Value) (T : TypeId) (ys : List UInt8) (wr : World) : Prop :=
  ∃ r, Wr base wr g r ys ∧ ExtW w wr g row ∧ (∀ k, r = some k → row = some k ∨ w.heap.size ≤ k) ∧ Own wr bx c T ∧ bx ≠ g ∧ r ≠ some bx
section
variable {base : Nat} {w : World} {g : Nat} {row : Option Nat} {bx : Nat} {c : Array Value} {T : TypeId} {ys zs : List UInt8} {w1 w2 : World}
theorem St.ext (h : St base w g row bx c T ys w1) (e : Ext w1 w2) : St base w g row bx c T ys w2 := by
  obtain ⟨r, h1, h2, h3, h4, h5⟩ := h
  exact ⟨r, h1.keep e, h2.then (e.toW g r) h3, h3, h4.keep e, h5⟩
theorem St.wto (h : St base w g row bx c T ys w1) : Wto base w g row ys w1 := by
  obtain ⟨r, h1, h2, h3, h4, h5⟩ := h
  exact ⟨r, h1, h2, h3⟩
theorem St.own (h : St base w g row bx c T ys w1) : Own w1 bx c T := by
  obtain ⟨r, h1, h2, h3, h4, h5⟩ := h
  exact h4
theorem St.call {f : FuncId} {args : Array Value} {P : Program} (h : St base w g row bx c T ys w1) (e : Ext w1 w2)
    (hc : ∀ row', Wr base w2 g row' ys → Calls P f args w2 (WrP base w2 g row' zs)) :
    Calls P f args w2 (fun e w3 => e = .returned (.tuple #[]) ∧ St base w g row bx c T zs w3) := by
  obtain ⟨r, h1, h2, h3, h4, h5, h6⟩ := h.ext e
  refine (hc r h1).mono ?_
  rintro e w3 ⟨rfl, r', hT1, hT2, hT3⟩
  refine ⟨rfl, r', hT1, h2.then hT2 h3, fun k hk => ?_, h4.keepW hT2 h5 h6, h5, fun e => ?_⟩
  · rcases hT3 k hk with h | h
    · exact h3 k h
    · right; exact Nat.le_trans h2.size h
  · rcases hT3 bx e with h | h
    · exact h6 h
    · have := h4.lt; omega
end
set_option maxRecDepth 100000 in
set_option maxHeartbeats 2000000 in
theorem write_c (H : PH) (base g : Nat) (hB : ∀ k, base ≤ k → H k = none) (t : Thing) : ∀ (cs : List Value) (row : Option Nat) (xs : List UInt8) (w : World), ThingR H cs t → PLe H (ph w) → Wr base w g row xs → xs.length + 30 * t.bulk ≤ 1000000000 →
    Calls Try.prog 45 #[.pointer (some ⟨g, 0, none⟩), .agg cs.toArray] w (WrP base w g row (xs ++ enc t)) := by
  have hB' := Lib.hid hB; clear hB
  induction t using Thing.ind with
  | h t ih =>
    intro cs row xs w hr hP hW hlen
    obtain ⟨a1, c1, a2, c2, a3, c3, rfl, l1, l2, l3, hc, hv, hp⟩ := hr.form
    have HI := Lib.hid ih; clear ih
    have hbk := Thing.bulk_eq t
    have hgl := hW.lt
    have hS : St base w g row w.heap.size #[.slice a1 t.cls.length c1, .slice a2 t.vals.length c2, .slice a3 t.parts.length c3] 29 xs (w.alloc (.cells #[.slice a1 t.cls.length c1, .slice a2 t.vals.length c2, .slice a3 t.parts.length c3] 29)) :=
      ⟨row, hW.keep (Ext.new _ _), (Ext.new _ _).toW _ _, fun _ h => .inl h, Own.new _ _ _, by omega, fun e => by have := hW.row _ e; omega⟩
    have el1 := encInts_len (IntsR.all hc) l1
    have el2 := encI_len (i64_nat l2)
    have el3 := encI_len (i64_nat l3)
    go_enter Try.func45, Try.ntmps45
    go_wp2_with fail
    refine (hS.call (Ext.rfl' _) fun row' hWr => ints_c H base g row' _ t.cls _ _ (hP.trans (Ext.ple (by repeat (first | (with_reducible assumption) | (with_reducible exact Ext.rfl' _) | (with_reducible exact Ext.new _ _) | (with_reducible refine Ext.alloc' ?_ _) | (with_reducible refine Ext.drew' ?_) | (with_reducible refine Ext.drewN' ?_ _) | (with_reducible refine Ext.set' ?_ ?_ _; rotate_left; (focus (first | omega | (simp; done) | (simp; omega)))) | (with_reducible refine Ext.then (b := ?_) ?_ ?_; rotate_left; rotate_left; (with_reducible assumption)))))) hB'.out hc hWr (by omega)).mono ?_
    rintro e w1 ⟨rfl, hS1⟩
    obtain ⟨hoc, hof⟩ := hS1.own.facts
    clear hS
    go_wp2_with fail
    refine (hS1.call (by repeat (first | (with_reducible assumption) | (with_reducible exact Ext.rfl' _) | (with_reducible exact Ext.new _ _) | (with_reducible refine Ext.alloc' ?_ _) | (with_reducible refine Ext.drew' ?_) | (with_reducible refine Ext.drewN' ?_ _) | (with_reducible refine Ext.set' ?_ ?_ _; rotate_left; (focus (first | omega | (simp; done) | (simp; omega)))) | (with_reducible refine Ext.then (b := ?_) ?_ ?_; rotate_left; rotate_left; (with_reducible assumption)))) fun row' hWr => int_c base g row' _ _ _ (i64_nat l2) hWr (by simp only [List.length_append]; omega)).mono ?_
    rintro e w2 ⟨rfl, hS2⟩
    clear hS1 hoc hof
    obtain ⟨hoc, hof⟩ := hS2.own.facts
    have hbl := hS2.own.lt
    generalize hx : xs ++ encInts t.cls ++ encI t.vals.length = ys at *
    have hyl : ys.length ≤ xs.length + 20 + 10 * t.cls.length := by rw [← hx]; simp only [List.length_append]; omega
    replace hx := Lib.hid hx
    go_wp2_with fail
    go_loopw [22] (fun i wr => ∃ k : Nat, k ≤ t.vals.length ∧ i = .int .i64 k ∧ St base w g row w.heap.size #[.slice a1 t.cls.length c1, .slice a2 t.vals.length c2, .slice a3 t.parts.length c3] 29 (ys ++ encVs (t.vals.take k)) wr) (fun i _ => t.vals.length - (intOf i).toNat)
    case atStart => exact ⟨0, Nat.zero_le _, rfl, by simpa [encVs] using hS2⟩
    case round =>
      clear hoc hof hS2
      obtain ⟨k, hk, rfl, hSr⟩ := hrel
      have hPr := Wto.ple hP hB'.out hW hSr.wto
      by_cases hlt : k < t.vals.length
      · obtain ⟨b, o, rfl, h0, h1, h2, i0, i1, i2, hbl2⟩ := ValsR.at (hv.mono mono_ValR hPr) k hlt
        have hs := Lib.hid (encVs_snoc t.vals k hlt)
        have hel : (encVs (t.vals.take k)).length ≤ 30 * k := by
          have := encVs_len (l := t.vals.take k) fun v h => by obtain ⟨cs, h⟩ := hv.all v (List.mem_of_mem_take h); exact encV_len h
          rw [List.length_take] at this; omega
        have hel2 := encV_len (H := H) (v := t.vals[k]) ⟨rfl, i0, i1, i2⟩
        generalize t.vals[k] = v at *
        generalize hys : ys ++ encVs (t.vals.take k) = ys' at *
        have hyl' : ys'.length ≤ ys.length + 30 * k := by rw [← hys]; simp only [List.length_append]; omega
        replace hys := Lib.hid hys
        clear hv
        go_wp2_with fail
        refine (keyOf_c v _ i0 i1 i2).mono ?_
        rintro e w3 ⟨rfl, hb3⟩
        replace hSr := hSr.ext (w2 := w3) (by repeat (first | (with_reducible assumption) | (with_reducible exact Ext.rfl' _) | (with_reducible exact Ext.new _ _) | (with_reducible refine Ext.alloc' ?_ _) | (with_reducible refine Ext.drew' ?_) | (with_reducible refine Ext.drewN' ?_ _) | (with_reducible refine Ext.set' ?_ ?_ _; rotate_left; (focus (first | omega | (simp; done) | (simp; omega)))) | (with_reducible refine Ext.then (b := ?_) ?_ ?_; rotate_left; rotate_left; (with_reducible assumption))))
        go_wp2_with fail
        go_loopw [28] (fun i wq => ∃ j : Nat, j ≤ 3 ∧ i = .int .i64 j ∧ St base w g row w.heap.size #[.slice a1 t.cls.length c1, .slice (some ⟨b, o, none⟩) t.vals.length c2, .slice a3 t.parts.length c3] 29 (ys' ++ encL ([v.attr, v.n.num, v.n.den].take j)) wq) (fun i _ => 3 - (intOf i).toNat)
        case atStart => exact ⟨0, by omega, rfl, by simpa [encL] using hSr⟩
        case round =>
          clear hSr
          obtain ⟨j, hj, rfl, hSq⟩ := hrel
          by_cases hj3 : j < 3
          · have hel3 := encL_len (l := [v.attr, v.n.num, v.n.den].take j) (fun x hx => by
              have := List.mem_of_mem_take hx
              simp at this
              rcases this with rfl | rfl | rfl <;> assumption)
            have hel4 : ([v.attr, v.n.num, v.n.den].take j).length ≤ 3 := by simp; omega
            have hs4 := encL_snoc [v.attr, v.n.num, v.n.den] j hj3
            obtain ⟨x, hx4, hx5⟩ : ∃ x, I64 x ∧ (#[Value.int .i64 v.attr, .int .i64 v.n.num, .int .i64 v.n.den] : Array Value)[j]? = some (.int .i64 x) ∧ [v.attr, v.n.num, v.n.den][j] = x := by
              match j, hj3 with
              | 0, _ => exact ⟨_, i0, rfl, rfl⟩
              | 1, _ => exact ⟨_, i1, rfl, rfl⟩
              | 2, _ => exact ⟨_, i2, rfl, rfl⟩
            obtain ⟨hx5, hx6⟩ := hx5
            rw [hx6] at hs4
            replace hs4 := Lib.hid hs4
            have hix := run_index3 _ _ _ _ j hx5
            clear hx5 hx6 h0 h1 h2
            go_wp2_with fail
            refine (hSq.call (by repeat (first | (with_reducible assumption) | (with_reducible exact Ext.rfl' _) | (with_reducible exact Ext.new _ _) | (with_reducible refine Ext.alloc' ?_ _) | (with_reducible refine Ext.drew' ?_) | (with_reducible refine Ext.drewN' ?_ _) | (with_reducible refine Ext.set' ?_ ?_ _; rotate_left; (focus (first | omega | (simp; done) | (simp; omega)))) | (with_reducible refine Ext.then (b := ?_) ?_ ?_; rotate_left; rotate_left; (with_reducible assumption)))) fun row' hWr => int_c base g row' _ x _ hx4 hWr (by simp only [List.length_append]; omega)).mono ?_
            rintro e w4 ⟨rfl, hS4⟩
            rw [List.append_assoc, ← hs4.out] at hS4
            clear hSq
            go_wp2_with fail
            go_roundw
            case rel => exact ⟨j + 1, by omega, by go_num, hS4⟩
            case measure => simp [intOf]; omega
          · have hj4 : ([v.attr, v.n.num, v.n.den].take j) = [v.attr, v.n.num, v.n.den] := List.take_of_length_le (by simp; omega)
            rw [hj4, ← hys.out, List.append_assoc] at hSq
            replace hSq := Lib.hid hSq
            go_wp2_with fail
            go_roundw
            case rel => exact ⟨k + 1, by omega, by go_num, by rw [hs.out]; exact hSq.out⟩
            case measure => simp [intOf]; omega
      · rw [List.take_of_length_le (by omega)] at hSr
        obtain ⟨hoc, hof⟩ := hSr.own.facts
        have hbl := hSr.own.lt
        have elv : (encVs t.vals).length ≤ 30 * t.vals.length := encVs_len fun v h => by obtain ⟨cs, h⟩ := hv.all v h; exact encV_len h
        clear hPr hv hr
        go_wp2_with fail
        refine (hSr.call (by repeat (first | (with_reducible assumption) | (with_reducible exact Ext.rfl' _) | (with_reducible exact Ext.new _ _) | (with_reducible refine Ext.alloc' ?_ _) | (with_reducible refine Ext.drew' ?_) | (with_reducible refine Ext.drewN' ?_ _) | (with_reducible refine Ext.set' ?_ ?_ _; rotate_left; (focus (first | omega | (simp; done) | (simp; omega)))) | (with_reducible refine Ext.then (b := ?_) ?_ ?_; rotate_left; rotate_left; (with_reducible assumption)))) fun row' hWr => int_c base g row' _ _ _ (i64_nat l3) hWr (by simp only [List.length_append]; omega)).mono ?_
        rintro e w3 ⟨rfl, hS3⟩
        clear hSr hoc hof hbl
        obtain ⟨hoc, hof⟩ := hS3.own.facts
        have hbl := hS3.own.lt
        generalize hzs : ys ++ encVs t.vals ++ encI t.parts.length = zs at *
        have hzl : zs.length ≤ ys.length + 30 * t.vals.length + 10 := by rw [← hzs]; simp only [List.length_append]; omega
        replace hzs := Lib.hid hzs
        go_wp2_with fail
        go_loopw [44] (fun i wr => ∃ k : Nat, k ≤ t.parts.length ∧ i = .int .i64 k ∧ St base w g row w.heap.size #[.slice a1 t.cls.length c1, .slice a2 t.vals.length c2, .slice a3 t.parts.length c3] 29 (zs ++ encTs (t.parts.take k)) wr) (fun i _ => t.parts.length - (intOf i).toNat)
        case atStart => exact ⟨0, Nat.zero_le _, rfl, by simpa [encTs] using hS3⟩
        case round =>
          clear hoc hof hS3
          obtain ⟨k, hk, rfl, hSr⟩ := hrel
          have hPr := Wto.ple hP hB'.out hW hSr.wto
          by_cases hlt : k < t.parts.length
          · obtain ⟨b, o, b1, d1, b2, d2, b3, d3, rfl, h0, h1, h2, hE, hbl2⟩ := ThingsR.atH hp hPr k hlt
            have hs := Lib.hid (encTs_snoc t.parts k hlt)
            have hel : (encTs (t.parts.take k)).length ≤ 30 * sumN Thing.bulk (t.parts.take k) := encTs_len fun v h => by obtain ⟨cs, h⟩ := hp.all v (List.mem_of_mem_take h); exact enc_len v h
            have hst := sumN_take Thing.bulk t.parts k hlt
            have hst2 := sumN_take_le Thing.bulk t.parts (k + 1)
            rw [hst] at hst2
            have hmem := Lib.hid (List.getElem_mem hlt)
            clear hp hst
            generalize t.parts[k] = x at *
            go_wp2_with fail
            refine (hSr.call (w2 := wr.alloc _) (by repeat (first | (with_reducible assumption) | (with_reducible exact Ext.rfl' _) | (with_reducible exact Ext.new _ _) | (with_reducible refine Ext.alloc' ?_ _) | (with_reducible refine Ext.drew' ?_) | (with_reducible refine Ext.drewN' ?_ _) | (with_reducible refine Ext.set' ?_ ?_ _; rotate_left; (focus (first | omega | (simp; done) | (simp; omega)))) | (with_reducible refine Ext.then (b := ?_) ?_ ?_; rotate_left; rotate_left; (with_reducible assumption)))) fun row' hWr => HI.out x hmem.out _ row' _ _ hE (hPr.trans (Ext.ple (by repeat (first | (with_reducible assumption) | (with_reducible exact Ext.rfl' _) | (with_reducible exact Ext.new _ _) | (with_reducible refine Ext.alloc' ?_ _) | (with_reducible refine Ext.drew' ?_) | (with_reducible refine Ext.drewN' ?_ _) | (with_reducible refine Ext.set' ?_ ?_ _; rotate_left; (focus (first | omega | (simp; done) | (simp; omega)))) | (with_reducible refine Ext.then (b := ?_) ?_ ?_; rotate_left; rotate_left; (with_reducible assumption)))))) hWr (by simp only [List.length_append]; omega)).mono ?_
            rintro e w4 ⟨rfl, hS4⟩
            rw [List.append_assoc, ← hs.out] at hS4
            clear hSr hPr h0 h1 h2 hE
            go_wp2_with fail
            go_roundw
            case rel => exact ⟨k + 1, by omega, by go_num, hS4⟩
            case measure => simp [intOf]; omega
          · rw [List.take_of_length_le (by omega), ← hzs.out, ← hx.out] at hSr
            clear hPr hp
            go_wp2_with fail
            refine bodyPost_ret (v := .tuple #[]) (by simp [results, Try.results45, go_sem]) rfl ⟨rfl, ?_⟩
            have := hSr.wto
            rw [enc_eq]
            simpa only [List.append_assoc] using this
theorem ph_none {w : World} {k : Nat} (h : w.heap.size ≤ k) : ph w k = none := by
  cases hx : ph w k with
  | none => rfl
  | some o => exact absurd (ph_lt hx) (by omega)
theorem Wr.fresh (w : World) : Wr w.heap.size (w.alloc (.cells #[.slice none 0 0] 56)) w.heap.size none [] :=
  ⟨_, Own.new _ _ _, rfl, OwnS.nil _ _ _ _ _ _, by simp, Nat.le_refl _, by simp⟩
/-- what Encode returns -/
noncomputable def encOf (t : Thing) : List UInt8 := if validV t = 0 then enc t else []
def EncP (w : World) (t : Thing) (e : Ending) (w' : World) : Prop :=
  ∃ v, e = .returned (.tuple #[v, .int .i64 (validV t)]) ∧ OwnS w.heap.size noH w' ByteR 1 5 v (encOf t) ∧ Ext w w'
theorem OwnS.base {α : Type} {b0 base : Nat} {H : PH} {w : World} {E : PH → List Value → α → Prop} {sz : Nat} {T : TypeId} {v : Value} {xs : List α} (h : OwnS base H w E sz T v xs) (hb : b0 ≤ base) : OwnS b0 H w E sz T v xs := by
  rcases h with h | ⟨g, cap, cur, h1, h2, h3⟩
  · exact .inl h
  · exact .inr ⟨g, cap, cur, h1, Nat.le_trans hb h2, h3⟩
theorem encode_c (t : Thing) (cs : List Value) (w : World) (hr : ThingR (ph w) cs t) (hs : t.bulk ≤ 1000000) :
    Calls Try.prog 22 #[.agg cs.toArray] w (EncP w t) := by
  obtain ⟨a1, c1, a2, c2, a3, c3, rfl, l1, l2, l3, -, -, -⟩ := hr.form
  have hel := enc_len t hr
  go_enter Try.func22, Try.ntmps22
  go_wp2_with fail
  refine (valid_c t _ _ (mono_ThingR _ _ _ _ (Ext.ple (by repeat (first | (with_reducible assumption) | (with_reducible exact Ext.rfl' _) | (with_reducible exact Ext.new _ _) | (with_reducible refine Ext.alloc' ?_ _) | (with_reducible refine Ext.drew' ?_) | (with_reducible refine Ext.drewN' ?_ _) | (with_reducible refine Ext.set' ?_ ?_ _; rotate_left; (focus (first | omega | (simp; done) | (simp; omega)))) | (with_reducible refine Ext.then (b := ?_) ?_ ?_; rotate_left; rotate_left; (with_reducible assumption))))) hr) hs).mono ?_
  rintro e w1 ⟨rfl, hb1⟩
  have ho : Own w1 _ _ _ := Own.keep (Own.new _ _ _) hb1
  obtain ⟨hoc, hof⟩ := ho.facts
  have hbl := ho.lt
  have hb : Ext w w1 := (by repeat (first | (with_reducible assumption) | (with_reducible exact Ext.rfl' _) | (with_reducible exact Ext.new _ _) | (with_reducible refine Ext.alloc' ?_ _) | (with_reducible refine Ext.drew' ?_) | (with_reducible refine Ext.drewN' ?_ _) | (with_reducible refine Ext.set' ?_ ?_ _; rotate_left; (focus (first | omega | (simp; done) | (simp; omega)))) | (with_reducible refine Ext.then (b := ?_) ?_ ?_; rotate_left; rotate_left; (with_reducible assumption))))
  clear hb1
  by_cases hv : validV t = 0
  · have hE : Hid (EncP w t = fun e w' => ∃ v, e = .returned (.tuple #[v, .int .i64 0]) ∧ OwnS w.heap.size noH w' ByteR 1 5 v (enc t) ∧ Ext w w') := by
      show _ = _
      funext e w'
      unfold EncP encOf; rw [if_pos hv, hv]
    rw [hv]
    go_wp2_with fail
    refine (write_c (ph w1) w1.heap.size w1.heap.size (fun k hk => ph_none hk) t _ none [] _ (mono_ThingR _ _ _ _ (Ext.ple (by repeat (first | (with_reducible assumption) | (with_reducible exact Ext.rfl' _) | (with_reducible exact Ext.new _ _) | (with_reducible refine Ext.alloc' ?_ _) | (with_reducible refine Ext.drew' ?_) | (with_reducible refine Ext.drewN' ?_ _) | (with_reducible refine Ext.set' ?_ ?_ _; rotate_left; (focus (first | omega | (simp; done) | (simp; omega)))) | (with_reducible refine Ext.then (b := ?_) ?_ ?_; rotate_left; rotate_left; (with_reducible assumption))))) hr) (Ext.ple (by repeat (first | (with_reducible assumption) | (with_reducible exact Ext.rfl' _) | (with_reducible exact Ext.new _ _) | (with_reducible refine Ext.alloc' ?_ _) | (with_reducible refine Ext.drew' ?_) | (with_reducible refine Ext.drewN' ?_ _) | (with_reducible refine Ext.set' ?_ ?_ _; rotate_left; (focus (first | omega | (simp; done) | (simp; omega)))) | (with_reducible refine Ext.then (b := ?_) ?_ ?_; rotate_left; rotate_left; (with_reducible assumption))))) (Wr.fresh w1) (by simp; omega)).mono ?_
    rintro e w2 ⟨rfl, row, hW, hx, -⟩
    have hb2 : Ext w w2 := hx.toExt (by repeat (first | (with_reducible assumption) | (with_reducible exact Ext.rfl' _) | (with_reducible exact Ext.new _ _) | (with_reducible refine Ext.alloc' ?_ _) | (with_reducible refine Ext.drew' ?_) | (with_reducible refine Ext.drewN' ?_ _) | (with_reducible refine Ext.set' ?_ ?_ _; rotate_left; (focus (first | omega | (simp; done) | (simp; omega)))) | (with_reducible refine Ext.then (b := ?_) ?_ ?_; rotate_left; rotate_left; (with_reducible assumption)))) hb.size (fun i hi => by cases hi)
    clear hoc hof hbl hx
    go_wp2_with fail
    refine (done_c w1.heap.size w1.heap.size row _ _ hW (by simp; omega)).mono ?_
    rintro e w3 ⟨v, rfl, hF, hb3⟩
    have hs2 := hb2.size
    obtain ⟨a, c, rfl, -⟩ := hF.form
    go_wp2_with fail
    rw [hE.out]
    rw [List.nil_append] at hF
    exact bodyPost_ret (v := .tuple #[.slice a (enc t).length c, .int .i64 0]) (by simp [results, Try.results22, go_sem]) rfl ⟨_, rfl, hF.base (by omega), (by repeat (first | (with_reducible assumption) | (with_reducible exact Ext.rfl' _) | (with_reducible exact Ext.new _ _) | (with_reducible refine Ext.alloc' ?_ _) | (with_reducible refine Ext.drew' ?_) | (with_reducible refine Ext.drewN' ?_ _) | (with_reducible refine Ext.set' ?_ ?_ _; rotate_left; (focus (first | omega | (simp; done) | (simp; omega)))) | (with_reducible refine Ext.then (b := ?_) ?_ ?_; rotate_left; rotate_left; (with_reducible assumption))))⟩
  · have hE : Hid (EncP w t = fun e w' => ∃ v, e = .returned (.tuple #[v, .int .i64 (validV t)]) ∧ OwnS w.heap.size noH w' ByteR 1 5 v [] ∧ Ext w w') := by
      show _ = _
      funext e w'
      unfold EncP encOf; rw [if_neg hv]
    have hvb : (validV t == 0) = false := by simpa using hv
    replace hv := Lib.hid hv
    generalize validV t = z at *
    clear hel
    go_wp2_with fail
    rw [hE.out]
    exact bodyPost_ret (v := .tuple #[.slice none 0 0, .int .i64 z]) (by simp [results, Try.results22, go_sem]) rfl ⟨_, rfl, OwnS.nil _ _ _ _ _ _, (by repeat (first | (with_reducible assumption) | (with_reducible exact Ext.rfl' _) | (with_reducible exact Ext.new _ _) | (with_reducible refine Ext.alloc' ?_ _) | (with_reducible refine Ext.drew' ?_) | (with_reducible refine Ext.drewN' ?_ _) | (with_reducible refine Ext.set' ?_ ?_ _; rotate_left; (focus (first | omega | (simp; done) | (simp; omega)))) | (with_reducible refine Ext.then (b := ?_) ?_ ?_; rotate_left; rotate_left; (with_reducible assumption))))⟩
end Go.Proofs.Ytebhdjeognpljaa
