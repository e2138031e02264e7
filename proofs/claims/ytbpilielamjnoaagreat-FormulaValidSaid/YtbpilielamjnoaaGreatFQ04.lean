/- package span: Valid, few, valid, Equal; the library's searches at intervals.; the reference of package ratio: common, Valid, Less, Of.; generators: Around, Bound, Of.; sums and maxima over lists.; Formulas as plain data, and how they lie in memory.; the generator Range of priorartref07.; plain laws of formulas: what is formed, and the order of package priorartref07.; plain laws of lists of claims: what is valid, meanings, alternatives.; both limits of a good interval are small.; formed, of package formula and of the reference. -/
import Derived.Deep.CutBlock
import Derived.Test.YtbpilielamjnoaaGreatFQ00
import Derived.Test.YtbpilielamjnoaaGreatFQ02
import Derived.Test.YtbpilielamjnoaaGreatFQ03
namespace Go.Proofs.YtbpilielamjnoaaGreat
open Go.RowKit Go.Shelf
set_option linter.unusedSimpArgs false
set_option linter.unusedVariables false
theorem infoItv : (Tryz.prog.info? 96).map (fun i => (i.zero, i.size, i.bytes)) = some (some (.agg #[.int .i64 0, .int .i64 0, .int .i64 0, .int .i64 0, .bool false, .bool false, .bool false, .bool false]), 8, 40) := by kernel_rfl
theorem one_ItvR {h : PH} : ∀ cs x, ItvR h cs x → ∀ u ∈ cs, u.oneCell' = true := by
  rintro cs x ⟨rfl, -⟩ u hu
  simp only [itC, List.mem_cons, List.not_mem_nil, or_false] at hu
  rcases hu with rfl | rfl | rfl | rfl | rfl | rfl | rfl | rfl <;> rfl
theorem ItvsR.at {w : World} {a : Option Addr} {n cap : Nat} {xs : List Itv} (hr : ItvsR (ph w) (.slice a n cap) xs) (k : Nat) (hk : k < xs.length) :
    ∃ b o, a = some ⟨b, o, none⟩ ∧ w.cell? ⟨b, o + k * 8, none⟩ = some (.int .i64 xs[k].lo.num) ∧ w.cell? ⟨b, o + k * 8 + 1, none⟩ = some (.int .i64 xs[k].lo.den) ∧ w.cell? ⟨b, o + k * 8 + 2, none⟩ = some (.int .i64 xs[k].hi.num) ∧ w.cell? ⟨b, o + k * 8 + 3, none⟩ = some (.int .i64 xs[k].hi.den) ∧ w.cell? ⟨b, o + k * 8 + 4, none⟩ = some (.bool xs[k].loO) ∧ w.cell? ⟨b, o + k * 8 + 5, none⟩ = some (.bool xs[k].hiO) ∧ w.cell? ⟨b, o + k * 8 + 6, none⟩ = some (.bool xs[k].loI) ∧ w.cell? ⟨b, o + k * 8 + 7, none⟩ = some (.bool xs[k].hiI) ∧ b < w.heap.size ∧ xs[k].I := by
  obtain ⟨b, o, cs, h1, h2, h3, rfl, h5⟩ := hr.get k hk
  have h : ∀ j, j < 8 → w.cell? ⟨b, o + k * 8 + j, none⟩ = some ((itC xs[k]).getD j undef) := fun j hj => by rw [cell_ph]; exact h3 j hj
  exact ⟨b, o, h1, h 0 (by omega), h 1 (by omega), h 2 (by omega), h 3 (by omega), h 4 (by omega), h 5 (by omega), h 6 (by omega), h 7 (by omega), cell_lt (h 0 (by omega)), h5⟩
theorem ItvsR.row {w : World} {a : Option Addr} {n cap : Nat} {xs : List Itv} (hr : ItvsR (ph w) (.slice a n cap) xs) (k : Nat) (hk : k < xs.length) :
    ∃ b o, a = some ⟨b, o, none⟩ ∧ (∀ j u, (itC xs[k])[j]? = some u → w.cell? ⟨b, o + k * 8 + j, none⟩ = some u) ∧ b < w.heap.size ∧ xs[k].I := by
  obtain ⟨b, o, cs, h1, h2, h3, rfl, h5⟩ := hr.get k hk
  have h : ∀ j u, (itC xs[k])[j]? = some u → w.cell? ⟨b, o + k * 8 + j, none⟩ = some u := fun j u hu => by
    obtain ⟨hj, he⟩ := List.getElem?_eq_some_iff.1 hu
    rw [cell_ph, h3 j hj, ← he]
    simp [List.getD_eq_getElem?_getD, hj]
  exact ⟨b, o, h1, h, cell_lt (h 0 _ rfl), h5⟩
set_option maxHeartbeats 400000 in
theorem indexFunc_itv (p : Itv → Bool) (fid : Nat) (cap : Array Value) (vs : Value) (xs : List Itv) (w : World) (hr : ItvsR (ph w) vs xs)
    (hfn : ∀ args w, (callFunc fid args).run Tryz.prog w = .ok (.enter fid args) w)
    (hf : ∀ w', Ext w w' → ∀ x ∈ xs, ∀ cs, ItvR (ph w') cs x → Calls Tryz.prog fid (#[.agg cs.toArray] ++ cap) w' (RetV w' (.bool (p x)))) :
    Calls Tryz.prog 162 #[vs, .func (.func fid) #[] cap] w (RetV w (.int .i64 (idxOf p xs))) := by
  obtain ⟨a, c, rfl, hlen, hr⟩ := hr.form
  have HF := Lib.hid hf; clear hf
  go_enter Tryz.func162, Tryz.ntmps162
  go_wp2
  go_loopw [8] (fun i wr => ∃ k : Nat, k ≤ xs.length ∧ i = .int .i64 k ∧ Hid (∀ x ∈ xs.take k, p x = false) ∧ Ext w wr) (fun i _ => xs.length - (intOf i).toNat)
  case atStart => exact ⟨0, Nat.zero_le _, rfl, Lib.hid (by simp), (by with_reducible repeat (first | assumption | exact Ext.rfl' _ | exact Ext.new _ _ | refine Ext.alloc' ?_ _ | refine Ext.drew' ?_ | refine Ext.drewN' ?_ _ | (refine Ext.set' ?_ ?_ _; rotate_left; focus (first | omega | (simp; done) | (simp; omega))) | (refine Ext.then (b := ?_) ?_ ?_; rotate_left; rotate_left; assumption)))⟩
  case round =>
    obtain ⟨k, hk, rfl, HNO, hb⟩ := hrel
    by_cases hlt : k < xs.length
    · have hp' := hr.mono mono_ItvR hb.ple
      obtain ⟨b, o, rfl, h0, h1, h2, h3, h4, h5, h6, h7, hbl, hI⟩ := ItvsR.at hp' k hlt; have hE : ItvR (ph wr) (itC xs[k]) xs[k] := ⟨rfl, hI⟩; unfold itC at hE
      clear hp'
      go_wp2_with fail
      refine (HF.out _ (by with_reducible repeat (first | assumption | exact Ext.rfl' _ | exact Ext.new _ _ | refine Ext.alloc' ?_ _ | refine Ext.drew' ?_ | refine Ext.drewN' ?_ _ | (refine Ext.set' ?_ ?_ _; rotate_left; focus (first | omega | (simp; done) | (simp; omega))) | (refine Ext.then (b := ?_) ?_ ?_; rotate_left; rotate_left; assumption))) _ (List.getElem_mem hlt) _ hE).mono ?_
      rintro e w1 ⟨rfl, hb1⟩
      cases hpk : p xs[k] with
      | true =>
        go_wp2_with fail
        go_ret
        exact ⟨ret_int (idxOf_found p xs k hlt hpk HNO.out).symm, (by with_reducible repeat (first | assumption | exact Ext.rfl' _ | exact Ext.new _ _ | refine Ext.alloc' ?_ _ | refine Ext.drew' ?_ | refine Ext.drewN' ?_ _ | (refine Ext.set' ?_ ?_ _; rotate_left; focus (first | omega | (simp; done) | (simp; omega))) | (refine Ext.then (b := ?_) ?_ ?_; rotate_left; rotate_left; assumption)))⟩
      | false =>
        go_wp2_with fail
        go_roundw
        case rel => exact ⟨k + 1, by omega, by go_num, take_all hlt hpk HNO.out, (by with_reducible repeat (first | assumption | exact Ext.rfl' _ | exact Ext.new _ _ | refine Ext.alloc' ?_ _ | refine Ext.drew' ?_ | refine Ext.drewN' ?_ _ | (refine Ext.set' ?_ ?_ _; rotate_left; focus (first | omega | (simp; done) | (simp; omega))) | (refine Ext.then (b := ?_) ?_ ?_; rotate_left; rotate_left; assumption)))⟩
        case measure => simp [intOf]; omega
    · clear hr HF
      go_wp2_with fail
      go_ret
      exact ⟨ret_int (idxOf_none p xs (take_done (by omega) HNO.out)).symm, (by with_reducible repeat (first | assumption | exact Ext.rfl' _ | exact Ext.new _ _ | refine Ext.alloc' ?_ _ | refine Ext.drew' ?_ | refine Ext.drewN' ?_ _ | (refine Ext.set' ?_ ?_ _; rotate_left; focus (first | omega | (simp; done) | (simp; omega))) | (refine Ext.then (b := ?_) ?_ ?_; rotate_left; rotate_left; assumption)))⟩
theorem containsFunc_itv (p : Itv → Bool) (fid : Nat) (cap : Array Value) (vs : Value) (xs : List Itv) (w : World) (hr : ItvsR (ph w) vs xs)
    (hfn : ∀ args w, (callFunc fid args).run Tryz.prog w = .ok (.enter fid args) w)
    (hf : ∀ w', Ext w w' → ∀ x ∈ xs, ∀ cs, ItvR (ph w') cs x → Calls Tryz.prog fid (#[.agg cs.toArray] ++ cap) w' (RetV w' (.bool (p x)))) :
    Calls Tryz.prog 143 #[vs, .func (.func fid) #[] cap] w (RetV w (.bool (xs.any p))) := by
  have HF := Lib.hid hf; clear hf
  have HFN := Lib.hid hfn; clear hfn
  go_enter Tryz.func143, Tryz.ntmps143
  go_wp2_with fail
  refine (indexFunc_itv p fid cap vs xs _ hr HFN.out HF.out).mono ?_
  rintro e w1 ⟨rfl, hb1⟩
  have hx := Lib.hid (idxOf_ge p xs)
  generalize idxOf p xs = i at *
  go_wp2_with fail
  go_ret
  exact ⟨ret_bool hx.out, (by with_reducible repeat (first | assumption | exact Ext.rfl' _ | exact Ext.new _ _ | refine Ext.alloc' ?_ _ | refine Ext.drew' ?_ | refine Ext.drewN' ?_ _ | (refine Ext.set' ?_ ?_ _; rotate_left; focus (first | omega | (simp; done) | (simp; omega))) | (refine Ext.then (b := ?_) ?_ ?_; rotate_left; rotate_left; assumption)))⟩
theorem few_c (v : Value) (l : List Itv) (w : World) (hr : ItvsR (ph w) v l) : Calls Tryz.prog 129 #[v] w (RetV w (.int .i64 (fewE l).2)) := by
  obtain ⟨a, c, rfl, hlen, hr⟩ := hr.form
  by_cases h : 32 < l.length
  · have hs : Hid ((fewE l).2 = 4) := by show _ = _; unfold fewE; rw [if_pos h]
    go_enter Tryz.func129, Tryz.ntmps129
    go_wp2
    go_ret
    exact ⟨ret_int hs.out.symm, (by with_reducible repeat (first | assumption | exact Ext.rfl' _ | exact Ext.new _ _ | refine Ext.alloc' ?_ _ | refine Ext.drew' ?_ | refine Ext.drewN' ?_ _ | (refine Ext.set' ?_ ?_ _; rotate_left; focus (first | omega | (simp; done) | (simp; omega))) | (refine Ext.then (b := ?_) ?_ ?_; rotate_left; rotate_left; assumption)))⟩
  · have hs : Hid ((fewE l).2 = 0) := by show _ = _; unfold fewE; rw [if_neg h]
    go_enter Tryz.func129, Tryz.ntmps129
    go_wp2
    go_ret
    exact ⟨ret_int hs.out.symm, (by with_reducible repeat (first | assumption | exact Ext.rfl' _ | exact Ext.new _ _ | refine Ext.alloc' ?_ _ | refine Ext.drew' ?_ | refine Ext.drewN' ?_ _ | (refine Ext.set' ?_ ?_ _; rotate_left; focus (first | omega | (simp; done) | (simp; omega))) | (refine Ext.then (b := ?_) ?_ ?_; rotate_left; rotate_left; assumption)))⟩
/-- the interval ahead -/
def prv (l : List Itv) : Nat → Option Itv
  | 0 => none
  | k + 1 => l[k]?
theorem setF_cons (p : Option Itv) (x : Itv) (r : List Itv) : setF p (x :: r) = (goodB x && (match p with | none => true | some y => lessE (hiE y) (loE x)) && setF (some x) r) := by cases p <;> rfl
theorem setF_drop {l : List Itv} {k : Nat} (h : k < l.length) (h0 : 0 < k) : setF (prv l k) (l.drop k) = (goodB l[k] && lessE (hiE (l[k - 1]'(by omega))) (loE l[k]) && setF (prv l (k + 1)) (l.drop (k + 1))) := by
  obtain ⟨j, rfl⟩ : ∃ j, k = j + 1 := ⟨k - 1, by omega⟩
  rw [List.drop_eq_getElem_cons h, setF_cons]
  simp only [prv, List.getElem?_eq_getElem h, List.getElem?_eq_getElem (show j < l.length by omega), Nat.add_sub_cancel]
theorem setF_zero {l : List Itv} (h : 0 < l.length) : setF (prv l 0) (l.drop 0) = (goodB l[0] && setF (prv l 1) (l.drop 1)) := by
  rw [List.drop_eq_getElem_cons h, setF_cons]
  simp only [prv, List.getElem?_eq_getElem h, Bool.and_true, Nat.zero_add]
/-- all intervals ahead are good -/
theorem setF_good {l : List Itv} {k : Nat} (h : k < l.length) (hg : goodB l[k] = false) : setF (prv l k) (l.drop k) = false := by
  rw [List.drop_eq_getElem_cons h, setF_cons, hg]; rfl
set_option maxRecDepth 100000 in
set_option maxHeartbeats 4000000 in
theorem valid_c (v : Value) (l : List Itv) (w : World) (hr : ItvsR (ph w) v l) : Calls Tryz.prog 87 #[v] w (RetV w (.int .i64 (setE l))) := by
  have hfew := fun w hr => few_c v l w hr
  obtain ⟨a, c, rfl, hlen, hr⟩ := hr.form
  have hE : Hid (setE l = if setF none l = false then 1 else (fewE l).2) := by
    show _ = _
    unfold setE fewE
    split
    · rfl
    · split <;> rfl
  replace hfew := Lib.hid hfew
  go_enter Tryz.func87, Tryz.ntmps87
  go_wp2_with fail
  go_loopw [11] (fun i wr => ∃ k : Nat, k ≤ l.length ∧ i = .int .i64 k ∧ Hid (setF none l = setF (prv l k) (l.drop k) ∧ ∀ x ∈ l.take k, goodB x = true) ∧ Ext w wr) (fun i _ => l.length - (intOf i).toNat)
  case atStart => exact ⟨0, Nat.zero_le _, rfl, Lib.hid ⟨rfl, by simp⟩, Ext.rfl' _⟩
  case round =>
    obtain ⟨k, hk, rfl, ho, hx⟩ := hrel
    by_cases hlt : k < l.length
    · obtain ⟨b, o, rfl, h0, h1, h2, h3, h4, h5, h6, h7, hbl, hI⟩ := ItvsR.at (hr.mono mono_ItvR hx.ple) k hlt
      have hja : decide (k < l.length) = true := decide_eq_true hlt
      have hgood := fun w => good_c l[k] w hI
      have hends := fun w => ends_c l[k] w
      have hg0 := fun (hg : goodB l[k] = false) => setF_good hlt hg
      have hg1 := fun (hg : goodB l[k] = true) => take_all hlt hg ho.out.2
      have hk0 := fun (h : k = 0) (hg : goodB l[k] = true) => show setF (prv l k) (l.drop k) = setF (prv l (k + 1)) (l.drop (k + 1)) by
        subst h; rw [setF_zero hlt, hg, Bool.true_and]
      have hk1 := fun (h : 0 < k) => setF_drop hlt h
      have hless := fun (h : 0 < k) (hg : goodB l[k] = true) w => less_c (hiE (l[k - 1]'(by omega))) (loE l[k]) w (goodB.hi (ho.out.2 _ (by rw [List.mem_take_iff_getElem]; exact ⟨k - 1, by omega, rfl⟩))).bd (goodB.lo hg).bd
      obtain ⟨y, hy⟩ : ∃ y, ∀ h : 0 < k, y = l[k - 1]'(by omega) := by
        by_cases h : 0 < k
        · exact ⟨l[k - 1]'(by omega), fun _ => rfl⟩
        · exact ⟨l[k], fun h' => absurd h' h⟩
      have hrow := fun (h : 0 < k) => ItvsR.at (hr.mono mono_ItvR hx.ple) (k - 1) (by omega)
      have hst : ∀ h : 0 < k, lessE (hiE y) (loE l[k]) = lessE (hiE (l[k - 1]'(by omega))) (loE l[k]) := fun h => by rw [hy h]
      have hendy := fun w => ends_c y w
      unfold endsV at hends hendy
      have hless' : ∀ (h : 0 < k) (hg : goodB l[k] = true) w, Calls Tryz.prog 128 #[enA (hiE y), enA (loE l[k])] w (RetV w (.bool (lessE (hiE y) (loE l[k])))) := fun h hg w => by
        rw [hy h]; exact hless h hg w
      have hk1' : ∀ h : 0 < k, setF (prv l k) (l.drop k) = (goodB l[k] && lessE (hiE y) (loE l[k]) && setF (prv l (k + 1)) (l.drop (k + 1))) := fun h => by
        rw [hst h]; exact hk1 h
      have hrow' : ∀ h : 0 < k, wr.cell? ⟨b, o + (k - 1) * 8, none⟩ = some (.int .i64 y.lo.num) ∧ wr.cell? ⟨b, o + (k - 1) * 8 + 1, none⟩ = some (.int .i64 y.lo.den) ∧ wr.cell? ⟨b, o + (k - 1) * 8 + 2, none⟩ = some (.int .i64 y.hi.num) ∧ wr.cell? ⟨b, o + (k - 1) * 8 + 3, none⟩ = some (.int .i64 y.hi.den) ∧ wr.cell? ⟨b, o + (k - 1) * 8 + 4, none⟩ = some (.bool y.loO) ∧ wr.cell? ⟨b, o + (k - 1) * 8 + 5, none⟩ = some (.bool y.hiO) ∧ wr.cell? ⟨b, o + (k - 1) * 8 + 6, none⟩ = some (.bool y.loI) ∧ wr.cell? ⟨b, o + (k - 1) * 8 + 7, none⟩ = some (.bool y.hiI) := fun h => by
        obtain ⟨b', o', e, q0, q1, q2, q3, q4, q5, q6, q7, -⟩ := hrow h
        cases e
        rw [hy h]
        exact ⟨q0, q1, q2, q3, q4, q5, q6, q7⟩
      clear hless hk1 hst hrow hy
      generalize lessE (hiE y) (loE l[k]) = lt at *
      generalize hiE y = hy at *
      generalize loE y = ly at *
      generalize loE l[k] = lx at *
      generalize hiE l[k] = ux at *
      unfold itA at hgood hends hendy
      generalize goodB l[k] = gd at *
      generalize l[k] = x at *
      clear hI
      obtain ⟨⟨p, q⟩, ⟨r, s⟩, lO, rO, lI, rI⟩ := x
      obtain ⟨⟨p', q'⟩, ⟨r', s'⟩, lO', hO', lI', hI'⟩ := y
      obtain ⟨f1, ⟨n1, d1⟩, t1⟩ := lx
      obtain ⟨f2, ⟨n2, d2⟩, t2⟩ := ux
      obtain ⟨f3, ⟨n3, d3⟩, t3⟩ := ly
      obtain ⟨f4, ⟨n4, d4⟩, t4⟩ := hy
      unfold enA at *
      dsimp only at *
      replace hgood := Lib.hid hgood
      replace hends := Lib.hid hends
      replace hendy := Lib.hid hendy
      replace hless' := Lib.hid hless'
      replace hk0 := Lib.hid hk0
      replace hk1' := Lib.hid hk1'
      replace hg0 := Lib.hid hg0
      replace hg1 := Lib.hid hg1
      replace hrow' := Lib.hid hrow'
      go_upto_region 4 with (fail)
      have hO := Proofs.YtbpilielamjnoaaGreat.Own.new wr #[.int .i64 p, .int .i64 q, .int .i64 r, .int .i64 s, .bool lO, .bool rO, .bool lI, .bool rI] 96
      have hx1 := Ext.new wr (.cells #[.int .i64 p, .int .i64 q, .int .i64 r, .int .i64 s, .bool lO, .bool rO, .bool lI, .bool rI] 96)
      generalize wr.heap.size = b4 at *
      generalize wr.alloc _ = W at *
      have hE1 : Hid (setF none l = false → setE l = 1) := Lib.hid fun h => by rw [hE.out, if_pos h]
      replace hx := hx.then hx1
      obtain ⟨c0, f0⟩ := hO.facts
      have z0 := hO.lt
      go_wp2_with fail
      refine RetV_at (hgood.out _) ?_
      intro w2 hx2
      replace hO := hO.keep hx2
      replace hx := hx.then hx2
      have hx12 := hx1.then hx2
      clear c0 f0 z0 hx1 hx2 h0 h1 h2 h3 h4 h5 h6 h7
      obtain ⟨c0, f0⟩ := hO.facts
      have z0 := hO.lt
      cases gd with
      | false =>
        have h9 : Hid (setE l = 1) := Lib.hid (hE1.out (by rw [ho.out.1]; exact hg0.out rfl))
        go_wp2_with fail
        go_ret
        exact ⟨ret_int h9.out.symm, (by with_reducible repeat (first | assumption | exact Ext.rfl' _ | exact Ext.new _ _ | refine Ext.alloc' ?_ _ | refine Ext.drew' ?_ | refine Ext.drewN' ?_ _ | (refine Ext.set' ?_ ?_ _; rotate_left; focus (first | omega | (simp; done) | (simp; omega))) | (refine Ext.then (b := ?_) ?_ ?_; rotate_left; rotate_left; assumption)))⟩
      | true =>
        by_cases hk00 : k = 0
        · have h8 : Hid (setF none l = setF (prv l (k + 1)) (l.drop (k + 1)) ∧ ∀ x ∈ l.take (k + 1), goodB x = true) := Lib.hid ⟨by rw [ho.out.1]; exact hk0.out hk00 rfl, hg1.out rfl⟩
          have hkb : decide (0 < k) = false := by simpa using hk00
          clear hk0 hk1' hrow' hless'
          go_wp2_with fail
          go_roundw
          case rel => exact ⟨k + 1, by omega, by go_num, h8.out, hx⟩
          case measure => simp [intOf]; omega
        · have hkb : decide (0 < k) = true := by simp; omega
          have hkp : 0 < k := by omega
          have hkm : IntKind.i64.wrap ((k : Int) - 1) = ((k - 1 : Nat) : Int) := by rw [IntKind.wrap_i64]; omega
          obtain ⟨q0, q1, q2, q3, q4, q5, q6, q7⟩ := hrow'.out hkp
          replace q0 := hx12.cell1 q0
          replace q1 := hx12.cell1 q1
          replace q2 := hx12.cell1 q2
          replace q3 := hx12.cell1 q3
          replace q4 := hx12.cell1 q4
          replace q5 := hx12.cell1 q5
          replace q6 := hx12.cell1 q6
          replace q7 := hx12.cell1 q7
          clear hrow' hk0
          go_wp2_with fail
          refine RetV_at (hends.out _) ?_
          intro w3 hx3
          replace hx := hx.then hx3
          replace q0 := hx3.cell1 q0
          replace q1 := hx3.cell1 q1
          replace q2 := hx3.cell1 q2
          replace q3 := hx3.cell1 q3
          replace q4 := hx3.cell1 q4
          replace q5 := hx3.cell1 q5
          replace q6 := hx3.cell1 q6
          replace q7 := hx3.cell1 q7
          have z9 := cell_lt q0
          clear c0 f0 z0 hO hx3 hx12
          go_upto_region 8 with (fail)
          have k1 := (Proofs.YtbpilielamjnoaaGreat.Own.new w3 #[.int .i64 f1, .int .i64 n1, .int .i64 d1, .bool t1] 139).alloc (.cells #[.int .i64 f2, .int .i64 n2, .int .i64 d2, .bool t2] 139)
          have hy3 := (Ext.new w3 (.cells #[.int .i64 f1, .int .i64 n1, .int .i64 d1, .bool t1] 139)).alloc' (.cells #[.int .i64 f2, .int .i64 n2, .int .i64 d2, .bool t2] 139)
          have z1 := k1.lt
          generalize hb5 : w3.heap.size = b5 at *
          generalize (w3.alloc _).alloc _ = W3 at *
          replace hx := hx.then hy3
          replace q0 := hy3.cell1 q0
          replace q1 := hy3.cell1 q1
          replace q2 := hy3.cell1 q2
          replace q3 := hy3.cell1 q3
          replace q4 := hy3.cell1 q4
          replace q5 := hy3.cell1 q5
          replace q6 := hy3.cell1 q6
          replace q7 := hy3.cell1 q7
          have z9' := cell_lt q0
          have hk1m : k - 1 < l.length := by omega
          clear z9 hy3 hb5
          go_wp2_with fail
          refine RetV_at (hendy.out _) ?_
          intro w4 hx4
          replace hx := hx.then hx4
          replace k1 := k1.keep hx4
          clear q0 q1 q2 q3 q4 q5 q6 q7 z9' z1 hx4
          go_upto_region 9 with (fail)
          have k2 := Proofs.YtbpilielamjnoaaGreat.Own.new' (w4.alloc (.cells #[.int .i64 f3, .int .i64 n3, .int .i64 d3, .bool t3] 139)) #[.int .i64 f4, .int .i64 n4, .int .i64 d4, .bool t4] 139 (n := w4.heap.size + 1) (by simp)
          have k3 := (k1.alloc (.cells #[.int .i64 f3, .int .i64 n3, .int .i64 d3, .bool t3] 139)).alloc (.cells #[.int .i64 f4, .int .i64 n4, .int .i64 d4, .bool t4] 139)
          have hy4 := (Ext.new w4 (.cells #[.int .i64 f3, .int .i64 n3, .int .i64 d3, .bool t3] 139)).alloc' (.cells #[.int .i64 f4, .int .i64 n4, .int .i64 d4, .bool t4] 139)
          replace hx := hx.then hy4
          generalize w4.heap.size = b8 at *
          generalize (w4.alloc _).alloc _ = W4 at *
          obtain ⟨c2, f2'⟩ := k2.facts
          obtain ⟨c3, f3'⟩ := k3.facts
          have z2 := k2.lt
          have z3 := k3.lt
          clear hy4 k1 k2 k3
          go_wp2_with fail
          refine RetV_at (hless'.out hkp (by first | trivial | rfl) _) ?_
          intro w5 hx5
          have hs := hk1'.out hkp
          replace hx := hx.then hx5
          clear c2 f2' c3 f3' z2 z3 hx5
          cases lt with
          | false =>
            have h9 : Hid (setE l = 1) := Lib.hid (hE1.out (by rw [ho.out.1, hs]; rfl))
            clear hs
            go_wp2_with fail
            go_ret
            exact ⟨ret_int h9.out.symm, (by with_reducible repeat (first | assumption | exact Ext.rfl' _ | exact Ext.new _ _ | refine Ext.alloc' ?_ _ | refine Ext.drew' ?_ | refine Ext.drewN' ?_ _ | (refine Ext.set' ?_ ?_ _; rotate_left; focus (first | omega | (simp; done) | (simp; omega))) | (refine Ext.then (b := ?_) ?_ ?_; rotate_left; rotate_left; assumption)))⟩
          | true =>
            have h8 : Hid (setF none l = setF (prv l (k + 1)) (l.drop (k + 1)) ∧ ∀ x ∈ l.take (k + 1), goodB x = true) := Lib.hid ⟨by rw [ho.out.1, hs]; simp, hg1.out (by first | trivial | rfl)⟩
            clear hs
            go_wp2_with fail
            go_roundw
            case rel => exact ⟨k + 1, by omega, by go_num, h8.out, hx⟩
            case measure => simp [intOf]; omega
    · have hja : decide (k < l.length) = false := by simpa using hlt
      have hk2 : k = l.length := by omega
      have h9 : Hid (setE l = (fewE l).2) := Lib.hid (by
        have h1 := ho.out.1
        rw [hk2, List.drop_length] at h1
        rw [hE.out, if_neg (by rw [h1]; simp [setF])])
      go_wp2_with fail
      refine RetV_at (hfew.out _ (hr.mono mono_ItvR hx.ple)) ?_
      intro w2 hx2
      go_wp2_with fail
      go_ret
      exact ⟨ret_int h9.out.symm, (by with_reducible repeat (first | assumption | exact Ext.rfl' _ | exact Ext.new _ _ | refine Ext.alloc' ?_ _ | refine Ext.drew' ?_ | refine Ext.drewN' ?_ _ | (refine Ext.set' ?_ ?_ _; rotate_left; focus (first | omega | (simp; done) | (simp; omega))) | (refine Ext.then (b := ?_) ?_ ?_; rotate_left; rotate_left; assumption)))⟩
end Go.Proofs.YtbpilielamjnoaaGreat
namespace Go.Proofs.YtbpilielamjnoaaGreat
open Go.RowKit Go.Shelf
set_option linter.unusedSimpArgs false
set_option linter.unusedVariables false
theorem ratOk_iff {r : Rat2} : RatOk r ↔ 1 ≤ r.den ∧ r.den ≤ 1048576 ∧ -1099511627776 ≤ r.num ∧ r.num ≤ 1099511627776 ∧ Int.gcd r.num r.den = 1 := by
  unfold RatOk Int.gcd
  omega
/-- numbers of a ratio whose products fit -/
def Rat2.bd (r : Rat2) : Prop := -1099511627776 ≤ r.num ∧ r.num ≤ 1099511627776 ∧ 0 ≤ r.den ∧ r.den ≤ 1048576
theorem RatOk.bd {r : Rat2} (h : RatOk r) : r.bd := by have := ratOk_iff.1 h; unfold Rat2.bd; omega
theorem RatOk.I {r : Rat2} (h : RatOk r) : r.I := by have := ratOk_iff.1 h; unfold Rat2.I I64; omega
theorem mul_bd2 {x y : Int} (h1 : -1099511627776 ≤ x) (h2 : x ≤ 1099511627776) (h3 : 0 ≤ y) (h4 : y ≤ 1048576) : -1152921504606846976 ≤ x * y ∧ x * y ≤ 1152921504606846976 := by
  have e1 : x * y ≤ 1099511627776 * 1048576 := Int.le_trans (Int.mul_le_mul_of_nonneg_right h2 h3) (Int.mul_le_mul_of_nonneg_left h4 (by omega))
  have e2 : -1099511627776 * 1048576 ≤ x * y := by
    have : -1099511627776 * y ≤ x * y := Int.mul_le_mul_of_nonneg_right h1 h3
    omega
  omega
end Go.Proofs.YtbpilielamjnoaaGreat
namespace Go.Proofs.YtbpilielamjnoaaGreat
open Go.RowKit Go.Shelf
set_option linter.unusedSimpArgs false
set_option linter.unusedVariables false
/-- what Around returns -/
def aroundV (n m : Int) : Int := if n < 0 then (-(n + 1)).tmod m else n.tmod m
theorem aroundV_range {n m : Int} (hn : I64 n) (hm : 0 < m) : 0 ≤ aroundV n m ∧ aroundV n m < m := by
  unfold I64 at hn
  unfold aroundV
  split
  · exact ⟨Int.tmod_nonneg _ (by omega), Int.tmod_lt_of_pos _ hm⟩
  · exact ⟨Int.tmod_nonneg _ (by omega), Int.tmod_lt_of_pos _ hm⟩
theorem around_c (n m : Int) (w : World) (hn : I64 n) (hm : 0 < m) (hm' : m ≤ 9223372036854775807) :
    Calls Tryz.prog 37 #[.int .i64 n, .int .i64 m] w (RetV w (.int .i64 (aroundV n m))) := by
  have hr := aroundV_range hn hm
  have hn' := hn
  unfold I64 at hn'
  have hm0 : (m == 0) = false := by simp; omega
  by_cases h : n < 0
  · have hv : Hid (aroundV n m = (-(n + 1)).tmod m) := by show _ = _; unfold aroundV; rw [if_pos h]
    rw [hv.out] at hr ⊢
    have hq : IntKind.i64.wrap ((-(n + 1)).tmod m) = (-(n + 1)).tmod m := by rw [IntKind.wrap_i64]; omega
    go_enter Tryz.func37, Tryz.ntmps37
    go_wp2_with fail
    go_ret
    exact ⟨ret_int (Int.neg_tmod ..).symm, (by with_reducible repeat (first | assumption | exact Ext.rfl' _ | exact Ext.new _ _ | refine Ext.alloc' ?_ _ | refine Ext.drew' ?_ | refine Ext.drewN' ?_ _ | (refine Ext.set' ?_ ?_ _; rotate_left; focus (first | omega | (simp; done) | (simp; omega))) | (refine Ext.then (b := ?_) ?_ ?_; rotate_left; rotate_left; assumption)))⟩
  · have hv : Hid (aroundV n m = n.tmod m) := by show _ = _; unfold aroundV; rw [if_neg h]
    rw [hv.out] at hr ⊢
    have hq : IntKind.i64.wrap (n.tmod m) = n.tmod m := by rw [IntKind.wrap_i64]; omega
    go_enter Tryz.func37, Tryz.ntmps37
    go_wp2_with fail
    go_ret
    exact ⟨ret_int (Int.tmod_eq_emod_of_nonneg (by omega)).symm, (by with_reducible repeat (first | assumption | exact Ext.rfl' _ | exact Ext.new _ _ | refine Ext.alloc' ?_ _ | refine Ext.drew' ?_ | refine Ext.drewN' ?_ _ | (refine Ext.set' ?_ ?_ _; rotate_left; focus (first | omega | (simp; done) | (simp; omega))) | (refine Ext.then (b := ?_) ?_ ?_; rotate_left; rotate_left; assumption)))⟩
end Go.Proofs.YtbpilielamjnoaaGreat
namespace Go.Proofs.YtbpilielamjnoaaGreat
set_option linter.unusedSimpArgs false
set_option linter.unusedVariables false
/-- sums over lists -/
def sumN {α : Type} (f : α → Nat) : List α → Nat
  | [] => 0
  | x :: xs => f x + sumN f xs
theorem sumN_take {α : Type} (f : α → Nat) (l : List α) (k : Nat) (h : k < l.length) : sumN f (l.take (k+1)) = sumN f (l.take k) + f l[k] := by
  induction l generalizing k with
  | nil => simp at h
  | cons x xs ih =>
    cases k with
    | zero => simp [sumN]
    | succ k => simp [sumN, ih k (by simpa using h)]; omega
theorem sumN_take_le {α : Type} (f : α → Nat) (l : List α) (k : Nat) : sumN f (l.take k) ≤ sumN f l := by
  induction l generalizing k with
  | nil => simp
  | cons x xs ih => cases k with
    | zero => simp [sumN]
    | succ k => simp [sumN]; exact ih k
theorem sumN_mem {α : Type} (f : α → Nat) {l : List α} {x : α} (h : x ∈ l) : f x ≤ sumN f l := by
  induction l with
  | nil => cases h
  | cons y ys ih =>
    rcases List.mem_cons.1 h with rfl | h
    · simp [sumN]
    · have := ih h; simp only [sumN]; omega
def maxN {α : Type} (f : α → Nat) : List α → Nat
  | [] => 0
  | x :: xs => max (f x) (maxN f xs)
theorem maxN_take {α : Type} (f : α → Nat) (l : List α) (k : Nat) (h : k < l.length) : maxN f (l.take (k+1)) = max (maxN f (l.take k)) (f l[k]) := by
  induction l generalizing k with
  | nil => simp at h
  | cons x xs ih =>
    cases k with
    | zero => simp [maxN]
    | succ k => have := ih k (by simpa using h); simp only [List.take_succ_cons, maxN, List.getElem_cons_succ, this]; omega
theorem maxN_take_le {α : Type} (f : α → Nat) (l : List α) (k : Nat) : maxN f (l.take k) ≤ maxN f l := by
  induction l generalizing k with
  | nil => simp
  | cons x xs ih => cases k with
    | zero => simp [maxN]
    | succ k => have := ih k; simp [maxN]; omega
theorem maxN_mem {α : Type} (f : α → Nat) {l : List α} {x : α} (h : x ∈ l) : f x ≤ maxN f l := by
  induction l with
  | nil => cases h
  | cons y ys ih =>
    rcases List.mem_cons.1 h with rfl | h
    · simp only [maxN]; omega
    · have := ih h; simp only [maxN]; omega
theorem maxN_le {α : Type} {f : α → Nat} {l : List α} {n : Nat} (h : ∀ x ∈ l, f x ≤ n) : maxN f l ≤ n := by
  induction l with
  | nil => simp [maxN]
  | cons x xs ih =>
    have := ih fun y hy => h y (by simp [hy])
    have := h x (by simp)
    simp only [maxN]; omega
theorem maxN_le_sumN {α : Type} (f g : α → Nat) (l : List α) (h : ∀ x ∈ l, f x ≤ g x) : maxN f l ≤ sumN g l := by
  induction l with
  | nil => simp [maxN]
  | cons x xs ih =>
    have := ih fun y hy => h y (by simp [hy])
    have := h x (by simp)
    simp only [maxN, sumN]; omega
theorem sumN_le {α : Type} (f g : α → Nat) (l : List α) (h : ∀ x ∈ l, f x ≤ g x) : sumN f l ≤ sumN g l := by
  induction l with
  | nil => simp [sumN]
  | cons x xs ih =>
    have := ih fun y hy => h y (by simp [hy])
    have := h x (by simp)
    simp only [sumN]; omega
theorem length_le_sumN {α : Type} (f : α → Nat) (l : List α) (h : ∀ x ∈ l, 1 ≤ f x) : l.length ≤ sumN f l := by
  induction l with
  | nil => simp
  | cons x xs ih =>
    have := ih fun y hy => h y (by simp [hy])
    have := h x (by simp)
    simp only [sumN, List.length_cons]; omega
end Go.Proofs.YtbpilielamjnoaaGreat
namespace Go.Proofs.YtbpilielamjnoaaGreat
open Go.RowKit
set_option linter.unusedSimpArgs false
set_option linter.unusedVariables false
inductive Fm where
  | mk (op n : Int) (inn : List Itv) (kids : List Fm)
def Fm.op : Fm → Int | .mk o _ _ _ => o
def Fm.n : Fm → Int | .mk _ n _ _ => n
def Fm.inn : Fm → List Itv | .mk _ _ i _ => i
def Fm.kids : Fm → List Fm | .mk _ _ _ k => k
theorem Fm.eta (f : Fm) : f = .mk f.op f.n f.inn f.kids := by cases f; rfl
theorem Fm.ind {P : Fm → Prop} (h : ∀ f, (∀ g ∈ f.kids, P g) → P f) (f : Fm) : P f := by
  induction f using Fm.rec (motive_2 := fun xs => ∀ x ∈ xs, P x) with
  | mk o n i kids ih => exact h _ ih
  | nil => intros; contradiction
  | cons x xs h1 h2 =>
    rename_i y hy
    rcases List.mem_cons.1 hy with rfl | hy
    · exact h1
    · exact h2 y hy
mutual
def FmR (h : PH) : List Value → Fm → Prop
  | cs, .mk op n inn kids => ∃ v3 a4 c4, cs = [.int .i64 op, .int .i64 n, v3, .slice a4 kids.length c4] ∧ I64 op ∧ I64 n ∧ ItvsR h v3 inn ∧
      kids.length ≤ c4 ∧ c4 ≤ maxLen ∧ (kids = [] ∨ ∃ b o, a4 = some ⟨b, o, none⟩ ∧ FmsAt h b o kids)
def FmsAt (h : PH) (b : Nat) : Nat → List Fm → Prop
  | _, [] => True
  | o, x :: xs => (∃ cs, cs.length = 4 ∧ (∀ j, j < 4 → cellAt h b (o + j) = some (cs.getD j undef)) ∧ FmR h cs x) ∧ FmsAt h b (o + 4) xs
end
abbrev FmsR : PH → Value → List Fm → Prop := SliceRep FmR 4
theorem fmsAt_eq {h : PH} {b : Nat} : ∀ {xs : List Fm} {o : Nat}, FmsAt h b o xs ↔ RowRep h FmR 4 b o xs
  | [], o => by simp [FmsAt, RowRep]
  | x :: xs, o => by simp [FmsAt, RowRep, fmsAt_eq]
theorem fmR_iff {h : PH} {cs : List Value} {f : Fm} : FmR h cs f ↔ ∃ v3 v4, cs = [.int .i64 f.op, .int .i64 f.n, v3, v4] ∧ I64 f.op ∧ I64 f.n ∧ ItvsR h v3 f.inn ∧ FmsR h v4 f.kids := by
  cases f with
  | mk op n inn kids =>
    simp only [FmR, fmsAt_eq, Fm.op, Fm.n, Fm.inn, Fm.kids]
    constructor
    · rintro ⟨v3, a4, c4, rfl, h1, h2, h3, h4, h5, h6⟩
      exact ⟨v3, _, rfl, h1, h2, h3, a4, c4, rfl, h4, h5, h6⟩
    · rintro ⟨v3, v4, rfl, h1, h2, h3, a4, c4, rfl, h4, h5, h6⟩
      exact ⟨v3, a4, c4, rfl, h1, h2, h3, h4, h5, h6⟩
theorem mono_FmR : Mono FmR := by
  intro h h' cs x hl
  induction x using Fm.ind generalizing cs with
  | h f ih =>
    rw [fmR_iff, fmR_iff]
    rintro ⟨v3, v4, h1, h2, h3, h4, h5⟩
    exact ⟨v3, v4, h1, h2, h3, h4.mono mono_ItvR hl, h5.mono' hl fun cs x hx => ih x hx cs⟩
/-- a formula's value: its four cells -/
def fmC (f : Fm) (a3 : Option Addr) (c3 : Nat) (a4 : Option Addr) (c4 : Nat) : List Value := [.int .i64 f.op, .int .i64 f.n, .slice a3 f.inn.length c3, .slice a4 f.kids.length c4]
theorem FmR.form {h : PH} {cs : List Value} {f : Fm} (hr : FmR h cs f) : ∃ a3 c3 a4 c4, cs = fmC f a3 c3 a4 c4 ∧ I64 f.op ∧ I64 f.n ∧
    f.inn.length ≤ 9223372036854775807 ∧ f.kids.length ≤ 9223372036854775807 ∧
    ItvsR h (.slice a3 f.inn.length c3) f.inn ∧ FmsR h (.slice a4 f.kids.length c4) f.kids := by
  rw [fmR_iff] at hr
  obtain ⟨v3, v4, rfl, h1, h2, h3, h4⟩ := hr
  obtain ⟨a3, c3, rfl, b3, h3⟩ := h3.form
  obtain ⟨a4, c4, rfl, b4, h4⟩ := h4.form
  exact ⟨a3, c3, a4, c4, rfl, h1, h2, b3, b4, h3, h4⟩
theorem FmR.of {h : PH} {f : Fm} {a3 : Option Addr} {c3 : Nat} {a4 : Option Addr} {c4 : Nat} (h1 : I64 f.op) (h2 : I64 f.n) (h3 : ItvsR h (.slice a3 f.inn.length c3) f.inn) (h4 : FmsR h (.slice a4 f.kids.length c4) f.kids) : FmR h (fmC f a3 c3 a4 c4) f :=
  fmR_iff.2 ⟨_, _, rfl, h1, h2, h3, h4⟩
theorem FmsR.at {w : World} {a : Option Addr} {n cap : Nat} {xs : List Fm} (hr : FmsR (ph w) (.slice a n cap) xs) (k : Nat) (hk : k < xs.length) :
    ∃ b o a3 c3 a4 c4, a = some ⟨b, o, none⟩ ∧ w.cell? ⟨b, o + k * 4, none⟩ = some (.int .i64 xs[k].op) ∧ w.cell? ⟨b, o + k * 4 + 1, none⟩ = some (.int .i64 xs[k].n) ∧
      w.cell? ⟨b, o + k * 4 + 2, none⟩ = some (.slice a3 xs[k].inn.length c3) ∧ w.cell? ⟨b, o + k * 4 + 3, none⟩ = some (.slice a4 xs[k].kids.length c4) ∧
      FmR (ph w) (fmC xs[k] a3 c3 a4 c4) xs[k] ∧ b < w.heap.size := by
  obtain ⟨b, o, cs, h1, h2, h3, h4⟩ := hr.get k hk
  obtain ⟨a3, c3, a4, c4, rfl, -⟩ := h4.form
  have h : ∀ j, j < 4 → w.cell? ⟨b, o + k * 4 + j, none⟩ = some ((fmC xs[k] a3 c3 a4 c4).getD j undef) := fun j hj => by rw [cell_ph]; exact h3 j hj
  exact ⟨b, o, a3, c3, a4, c4, h1, h 0 (by omega), h 1 (by omega), h 2 (by omega), h 3 (by omega), h4, cell_lt (h 0 (by omega))⟩
mutual
def Fm.size : Fm → Nat
  | .mk _ _ _ kids => 1 + fsizes kids
def fsizes : List Fm → Nat
  | [] => 0
  | x :: xs => x.size + fsizes xs
end
theorem fsizes_eq : ∀ l : List Fm, fsizes l = sumN Fm.size l
  | [] => rfl
  | x :: xs => by simp [fsizes, sumN, fsizes_eq xs]
theorem Fm.size_eq (f : Fm) : f.size = 1 + sumN Fm.size f.kids := by
  cases f; simp [Fm.size, Fm.kids, fsizes_eq]
mutual
def Fm.deep : Fm → Nat
  | .mk _ _ _ kids => 1 + fdeeps kids
def fdeeps : List Fm → Nat
  | [] => 0
  | x :: xs => max x.deep (fdeeps xs)
end
theorem fdeeps_eq : ∀ l : List Fm, fdeeps l = maxN Fm.deep l
  | [] => rfl
  | x :: xs => by simp [fdeeps, maxN, fdeeps_eq xs]
theorem Fm.deep_eq (f : Fm) : f.deep = 1 + maxN Fm.deep f.kids := by
  cases f; simp [Fm.deep, Fm.kids, fdeeps_eq]
theorem Fm.deep_le_size (f : Fm) : f.deep ≤ f.size := by
  induction f using Fm.ind with
  | h f ih => rw [Fm.deep_eq, Fm.size_eq]; have := maxN_le_sumN Fm.deep Fm.size f.kids ih; omega
mutual
def Fm.bulk : Fm → Nat
  | .mk _ _ inn kids => 1 + inn.length + fbulks kids
def fbulks : List Fm → Nat
  | [] => 0
  | x :: xs => x.bulk + fbulks xs
end
theorem fbulks_eq : ∀ l : List Fm, fbulks l = sumN Fm.bulk l
  | [] => rfl
  | x :: xs => by simp [fbulks, sumN, fbulks_eq xs]
theorem Fm.bulk_eq (f : Fm) : f.bulk = 1 + f.inn.length + sumN Fm.bulk f.kids := by
  cases f; simp [Fm.bulk, Fm.kids, Fm.inn, fbulks_eq]
theorem Fm.bulk_pos (f : Fm) : 1 ≤ f.bulk := by rw [Fm.bulk_eq]; omega
theorem Fm.size_pos (f : Fm) : 1 ≤ f.size := by rw [Fm.size_eq]; omega
theorem Fm.size_le_bulk (f : Fm) : f.size ≤ f.bulk := by
  induction f using Fm.ind with
  | h f ih => rw [Fm.bulk_eq, Fm.size_eq]; have := sumN_le Fm.size Fm.bulk f.kids ih; omega
theorem Fm.kids_le (f : Fm) : f.kids.length ≤ f.bulk := by
  have := length_le_sumN Fm.bulk f.kids fun x _ => x.bulk_pos
  rw [Fm.bulk_eq]; omega
theorem Fm.kid_le {f g : Fm} (h : g ∈ f.kids) : g.bulk ≤ f.bulk := by
  have := sumN_mem Fm.bulk h
  rw [Fm.bulk_eq f]; omega
-- the nodes, each before its kids
mutual
def Fm.pre : Fm → List Fm
  | .mk o n i kids => .mk o n i kids :: fpres kids
def fpres : List Fm → List Fm
  | [] => []
  | x :: xs => x.pre ++ fpres xs
end
theorem fpres_eq : ∀ l : List Fm, fpres l = l.flatMap Fm.pre
  | [] => rfl
  | x :: xs => by simp [fpres, fpres_eq xs]
theorem Fm.pre_eq (f : Fm) : f.pre = f :: f.kids.flatMap Fm.pre := by
  cases f; simp [Fm.pre, Fm.kids, fpres_eq]
theorem flat_len : ∀ l : List Fm, (∀ x ∈ l, x.pre.length = x.size) → (l.flatMap Fm.pre).length = sumN Fm.size l
  | [], _ => rfl
  | x :: xs, h => by rw [List.flatMap_cons, List.length_append, h x (by simp), flat_len xs (fun y hy => h y (by simp [hy])), sumN]
theorem Fm.pre_len (f : Fm) : f.pre.length = f.size := by
  induction f using Fm.ind with
  | h f ih => rw [Fm.pre_eq, Fm.size_eq, List.length_cons, flat_len _ ih]; omega
end Go.Proofs.YtbpilielamjnoaaGreat
namespace Go.Proofs.YtbpilielamjnoaaGreat
open Go.RowKit Go.Shelf
set_option linter.unusedSimpArgs false
set_option linter.unusedVariables false
/-- a small set comes back -/
def RngP (w : World) (e : Ending) (w' : World) : Prop := ∃ v l, e = .returned v ∧ Ext w w' ∧ ItvsR (up noH w w') v l ∧ setE l = 0 ∧ l.length ≤ 2
def loOk (p q : Int) : Prop := (q = 1 ∧ 0 ≤ p ∧ p ≤ 4) ∨ (q = 2 ∧ (p = -1 ∨ p = 1 ∨ p = 3 ∨ p = 5))
def hiR (p q d : Int) : Rat2 := ⟨p + q * d, q⟩
theorem loOk_cases {p q : Int} (h : loOk p q) : (p, q) ∈ [((0 : Int), (1 : Int)), (1, 1), (2, 1), (3, 1), (4, 1), (-1, 2), (1, 2), (3, 2), (5, 2)] := by
  rcases h with ⟨rfl, h1, h2⟩ | ⟨rfl, rfl | rfl | rfl | rfl⟩
  · have : p = 0 ∨ p = 1 ∨ p = 2 ∨ p = 3 ∨ p = 4 := by omega
    rcases this with rfl | rfl | rfl | rfl | rfl <;> simp
  · simp
  · simp
  · simp
  · simp
theorem rng_all : ∀ x ∈ [((0 : Int), (1 : Int)), (1, 1), (2, 1), (3, 1), (4, 1), (-1, 2), (1, 2), (3, 2), (5, 2)], ∀ d ∈ [(1 : Int), 2, 3], ∀ a ∈ [true, false], ∀ b ∈ [true, false],
    setE [⟨⟨0, 0⟩, hiR x.1 x.2 d, false, a, true, false⟩] = 0 ∧ setE [⟨⟨x.1, x.2⟩, ⟨0, 0⟩, a, false, false, true⟩] = 0 ∧ setE [⟨⟨x.1, x.2⟩, ⟨x.1, x.2⟩, false, false, false, false⟩] = 0 ∧
    setE [⟨⟨x.1, x.2⟩, hiR x.1 x.2 d, a, b, false, false⟩] = 0 ∧ setE [⟨⟨0, 0⟩, ⟨x.1, x.2⟩, false, true, true, false⟩, ⟨hiR x.1 x.2 d, ⟨0, 0⟩, a, false, false, true⟩] = 0 ∧
    setE [⟨⟨x.1, x.2⟩, ⟨x.1, x.2⟩, false, false, false, false⟩, ⟨hiR x.1 x.2 d, hiR x.1 x.2 d, false, false, false, false⟩] = 0 := by
  decide +kernel
theorem bmem (b : Bool) : b ∈ [true, false] := by cases b <;> simp
set_option maxRecDepth 100000 in
set_option maxHeartbeats 8000000 in
theorem range_c (n : Int) (w : World) (hn : I64 n) : Calls Tryz.prog 134 #[.int .i64 n] w (RngP w) := by
  obtain ⟨k0, k1⟩ := aroundV_range (n := n) (m := 1048576) hn (by omega)
  go_enter Tryz.func134, Tryz.ntmps134
  go_wp2_with fail
  refine RetV_at (around_c n 1048576 _ hn (by omega) (by omega)) ?_
  intro w1 hx1
  generalize aroundV n 1048576 = k at *
  have hdm : 1 + k / 40 % 3 ∈ [(1 : Int), 2, 3] := by
    have : k / 40 % 3 = 0 ∨ k / 40 % 3 = 1 ∨ k / 40 % 3 = 2 := by omega
    rcases this with h | h | h <;> rw [h] <;> simp
  have hkd : 0 ≤ k / 40 % 3 ∧ k / 40 % 3 ≤ 2 := by omega
  by_cases h16 : k % 16 = 3
  · have b0 : (k % 16 == 3) = true := by simpa using h16
    have hlm := loOk_cases (p := 2 * (k / 8 % 4) - 1) (q := 2) (by unfold loOk; omega)
    have hall := rng_all _ hlm _ hdm
    have hpb : -1 ≤ 2 * (k / 8 % 4) - 1 ∧ 2 * (k / 8 % 4) - 1 ≤ 5 := by omega
    have h8 : k % 8 = 0 ∨ k % 8 = 1 ∨ k % 8 = 2 ∨ k % 8 = 3 ∨ k % 8 = 4 ∨ k % 8 = 5 ∨ k % 8 = 6 ∨ k % 8 = 7 := by omega
    have h83 : k % 8 = 3 := by omega
    rcases h8 with h8 | h8 | h8 | h8 | h8 | h8 | h8 | h8
    · omega
    · omega
    · omega
    · have e0 : (k % 8 == 0) = false := by rw [h8]; rfl
      have e1 : (k % 8 == 1) = false := by rw [h8]; rfl
      have e2 : (k % 8 == 2) = false := by rw [h8]; rfl
      have e3 : (k % 8 == 3) = true := by rw [h8]; rfl
      have e4 : (k % 8 == 4) = false := by rw [h8]; rfl
      have e5 : (k % 8 == 5) = false := by rw [h8]; rfl
      have e6 : (k % 8 == 6) = false := by rw [h8]; rfl
      go_wp2_with fail
      have hI1 : Itv.I ⟨⟨2 * (k / 8 % 4) - 1, 2⟩, ⟨2 * (k / 8 % 4) - 1 + 2 * (1 + k / 40 % 3), 2⟩, (k / 64 % 2 == 0), (k / 128 % 2 == 0), false, false⟩ := by unfold Itv.I Rat2.I I64; dsimp only; omega
      have hM := (((Mem.start w noH (noH_le _)).ext (w' := (w1.alloc (.cells #[.int .i64 (2 * (k / 8 % 4) - 1), .int .i64 2] 81)).alloc (.cells #[.int .i64 (2 * (k / 8 % 4) - 1 + 2 * (1 + k / 40 % 3)), .int .i64 2] 81)) (by with_reducible repeat (first | assumption | exact Ext.rfl' _ | exact Ext.new _ _ | refine Ext.alloc' ?_ _ | refine Ext.drew' ?_ | refine Ext.drewN' ?_ _ | (refine Ext.set' ?_ ?_ _; rotate_left; focus (first | omega | (simp; done) | (simp; omega))) | (refine Ext.then (b := ?_) ?_ ?_; rotate_left; rotate_left; assumption)))).new' #[.int .i64 (2 * (k / 8 % 4) - 1), .int .i64 (2), .int .i64 (2 * (k / 8 % 4) - 1 + 2 * (1 + k / 40 % 3)), .int .i64 (2), .bool (k / 64 % 2 == 0), .bool (k / 128 % 2 == 0), .bool false, .bool false] 96 (n := w1.heap.size + 1 + 1) (by simp)).asOwn 0 rfl mono_ItvR (sz := 8) (xs := [⟨⟨2 * (k / 8 % 4) - 1, 2⟩, ⟨2 * (k / 8 % 4) - 1 + 2 * (1 + k / 40 % 3), 2⟩, (k / 64 % 2 == 0), (k / 128 % 2 == 0), false, false⟩]) (n := 1) (by simp) (by simp [maxLen]) rfl ⟨_, [], rfl, rfl, ⟨rfl, hI1⟩, rfl⟩
      go_ret
      exact ⟨_, _, rfl, (by with_reducible repeat (first | assumption | exact Ext.rfl' _ | exact Ext.new _ _ | refine Ext.alloc' ?_ _ | refine Ext.drew' ?_ | refine Ext.drewN' ?_ _ | (refine Ext.set' ?_ ?_ _; rotate_left; focus (first | omega | (simp; done) | (simp; omega))) | (refine Ext.then (b := ?_) ?_ ?_; rotate_left; rotate_left; assumption))), hM.repUp 0 rfl, (hall _ (bmem (k / 64 % 2 == 0)) _ (bmem (k / 128 % 2 == 0))).2.2.2.1, by simp⟩
    · omega
    · omega
    · omega
    · omega
  · have b0 : (k % 16 == 3) = false := by simpa using h16
    have hlm := loOk_cases (p := k / 8 % 5) (q := 1) (by unfold loOk; omega)
    have hall := rng_all _ hlm _ hdm
    have hpb : -1 ≤ k / 8 % 5 ∧ k / 8 % 5 ≤ 5 := by omega
    have h8 : k % 8 = 0 ∨ k % 8 = 1 ∨ k % 8 = 2 ∨ k % 8 = 3 ∨ k % 8 = 4 ∨ k % 8 = 5 ∨ k % 8 = 6 ∨ k % 8 = 7 := by omega
    rcases h8 with h8 | h8 | h8 | h8 | h8 | h8 | h8 | h8
    · have e0 : (k % 8 == 0) = true := by rw [h8]; rfl
      have e1 : (k % 8 == 1) = false := by rw [h8]; rfl
      have e2 : (k % 8 == 2) = false := by rw [h8]; rfl
      have e3 : (k % 8 == 3) = false := by rw [h8]; rfl
      have e4 : (k % 8 == 4) = false := by rw [h8]; rfl
      have e5 : (k % 8 == 5) = false := by rw [h8]; rfl
      have e6 : (k % 8 == 6) = false := by rw [h8]; rfl
      go_wp2_with fail
      have hI1 : Itv.I ⟨⟨0, 0⟩, ⟨k / 8 % 5 + (1 + k / 40 % 3), 1⟩, false, (k / 64 % 2 == 0), true, false⟩ := by unfold Itv.I Rat2.I I64; dsimp only; omega
      have hM := (((Mem.start w noH (noH_le _)).ext (w' := (w1.alloc (.cells #[.int .i64 (k / 8 % 5), .int .i64 1] 81)).alloc (.cells #[.int .i64 (k / 8 % 5 + (1 + k / 40 % 3)), .int .i64 1] 81)) (by with_reducible repeat (first | assumption | exact Ext.rfl' _ | exact Ext.new _ _ | refine Ext.alloc' ?_ _ | refine Ext.drew' ?_ | refine Ext.drewN' ?_ _ | (refine Ext.set' ?_ ?_ _; rotate_left; focus (first | omega | (simp; done) | (simp; omega))) | (refine Ext.then (b := ?_) ?_ ?_; rotate_left; rotate_left; assumption)))).new' #[.int .i64 (0), .int .i64 (0), .int .i64 (k / 8 % 5 + (1 + k / 40 % 3)), .int .i64 (1), .bool false, .bool (k / 64 % 2 == 0), .bool true, .bool false] 96 (n := w1.heap.size + 1 + 1) (by simp)).asOwn 0 rfl mono_ItvR (sz := 8) (xs := [⟨⟨0, 0⟩, ⟨k / 8 % 5 + (1 + k / 40 % 3), 1⟩, false, (k / 64 % 2 == 0), true, false⟩]) (n := 1) (by simp) (by simp [maxLen]) rfl ⟨_, [], rfl, rfl, ⟨rfl, hI1⟩, rfl⟩
      go_ret
      exact ⟨_, _, rfl, (by with_reducible repeat (first | assumption | exact Ext.rfl' _ | exact Ext.new _ _ | refine Ext.alloc' ?_ _ | refine Ext.drew' ?_ | refine Ext.drewN' ?_ _ | (refine Ext.set' ?_ ?_ _; rotate_left; focus (first | omega | (simp; done) | (simp; omega))) | (refine Ext.then (b := ?_) ?_ ?_; rotate_left; rotate_left; assumption))), hM.repUp 0 rfl, (by have h := (hall _ (bmem (k / 64 % 2 == 0)) _ (bmem true)).1; simpa [hiR] using h), by simp⟩
    · have e0 : (k % 8 == 0) = false := by rw [h8]; rfl
      have e1 : (k % 8 == 1) = true := by rw [h8]; rfl
      have e2 : (k % 8 == 2) = false := by rw [h8]; rfl
      have e3 : (k % 8 == 3) = false := by rw [h8]; rfl
      have e4 : (k % 8 == 4) = false := by rw [h8]; rfl
      have e5 : (k % 8 == 5) = false := by rw [h8]; rfl
      have e6 : (k % 8 == 6) = false := by rw [h8]; rfl
      go_wp2_with fail
      have hI1 : Itv.I ⟨⟨k / 8 % 5, 1⟩, ⟨0, 0⟩, (k / 64 % 2 == 0), false, false, true⟩ := by unfold Itv.I Rat2.I I64; dsimp only; omega
      have hM := (((Mem.start w noH (noH_le _)).ext (w' := (w1.alloc (.cells #[.int .i64 (k / 8 % 5), .int .i64 1] 81)).alloc (.cells #[.int .i64 (k / 8 % 5 + (1 + k / 40 % 3)), .int .i64 1] 81)) (by with_reducible repeat (first | assumption | exact Ext.rfl' _ | exact Ext.new _ _ | refine Ext.alloc' ?_ _ | refine Ext.drew' ?_ | refine Ext.drewN' ?_ _ | (refine Ext.set' ?_ ?_ _; rotate_left; focus (first | omega | (simp; done) | (simp; omega))) | (refine Ext.then (b := ?_) ?_ ?_; rotate_left; rotate_left; assumption)))).new' #[.int .i64 (k / 8 % 5), .int .i64 (1), .int .i64 (0), .int .i64 (0), .bool (k / 64 % 2 == 0), .bool false, .bool false, .bool true] 96 (n := w1.heap.size + 1 + 1) (by simp)).asOwn 0 rfl mono_ItvR (sz := 8) (xs := [⟨⟨k / 8 % 5, 1⟩, ⟨0, 0⟩, (k / 64 % 2 == 0), false, false, true⟩]) (n := 1) (by simp) (by simp [maxLen]) rfl ⟨_, [], rfl, rfl, ⟨rfl, hI1⟩, rfl⟩
      go_ret
      exact ⟨_, _, rfl, (by with_reducible repeat (first | assumption | exact Ext.rfl' _ | exact Ext.new _ _ | refine Ext.alloc' ?_ _ | refine Ext.drew' ?_ | refine Ext.drewN' ?_ _ | (refine Ext.set' ?_ ?_ _; rotate_left; focus (first | omega | (simp; done) | (simp; omega))) | (refine Ext.then (b := ?_) ?_ ?_; rotate_left; rotate_left; assumption))), hM.repUp 0 rfl, (by have h := (hall _ (bmem (k / 64 % 2 == 0)) _ (bmem true)).2.1; simpa [hiR] using h), by simp⟩
    · have e0 : (k % 8 == 0) = false := by rw [h8]; rfl
      have e1 : (k % 8 == 1) = false := by rw [h8]; rfl
      have e2 : (k % 8 == 2) = true := by rw [h8]; rfl
      have e3 : (k % 8 == 3) = false := by rw [h8]; rfl
      have e4 : (k % 8 == 4) = false := by rw [h8]; rfl
      have e5 : (k % 8 == 5) = false := by rw [h8]; rfl
      have e6 : (k % 8 == 6) = false := by rw [h8]; rfl
      go_wp2_with fail
      have hI1 : Itv.I ⟨⟨k / 8 % 5, 1⟩, ⟨k / 8 % 5, 1⟩, false, false, false, false⟩ := by unfold Itv.I Rat2.I I64; dsimp only; omega
      have hM := (((Mem.start w noH (noH_le _)).ext (w' := (w1.alloc (.cells #[.int .i64 (k / 8 % 5), .int .i64 1] 81)).alloc (.cells #[.int .i64 (k / 8 % 5 + (1 + k / 40 % 3)), .int .i64 1] 81)) (by with_reducible repeat (first | assumption | exact Ext.rfl' _ | exact Ext.new _ _ | refine Ext.alloc' ?_ _ | refine Ext.drew' ?_ | refine Ext.drewN' ?_ _ | (refine Ext.set' ?_ ?_ _; rotate_left; focus (first | omega | (simp; done) | (simp; omega))) | (refine Ext.then (b := ?_) ?_ ?_; rotate_left; rotate_left; assumption)))).new' #[.int .i64 (k / 8 % 5), .int .i64 (1), .int .i64 (k / 8 % 5), .int .i64 (1), .bool false, .bool false, .bool false, .bool false] 96 (n := w1.heap.size + 1 + 1) (by simp)).asOwn 0 rfl mono_ItvR (sz := 8) (xs := [⟨⟨k / 8 % 5, 1⟩, ⟨k / 8 % 5, 1⟩, false, false, false, false⟩]) (n := 1) (by simp) (by simp [maxLen]) rfl ⟨_, [], rfl, rfl, ⟨rfl, hI1⟩, rfl⟩
      go_ret
      exact ⟨_, _, rfl, (by with_reducible repeat (first | assumption | exact Ext.rfl' _ | exact Ext.new _ _ | refine Ext.alloc' ?_ _ | refine Ext.drew' ?_ | refine Ext.drewN' ?_ _ | (refine Ext.set' ?_ ?_ _; rotate_left; focus (first | omega | (simp; done) | (simp; omega))) | (refine Ext.then (b := ?_) ?_ ?_; rotate_left; rotate_left; assumption))), hM.repUp 0 rfl, (by have h := (hall _ (bmem true) _ (bmem true)).2.2.1; simpa [hiR] using h), by simp⟩
    · have e0 : (k % 8 == 0) = false := by rw [h8]; rfl
      have e1 : (k % 8 == 1) = false := by rw [h8]; rfl
      have e2 : (k % 8 == 2) = false := by rw [h8]; rfl
      have e3 : (k % 8 == 3) = true := by rw [h8]; rfl
      have e4 : (k % 8 == 4) = false := by rw [h8]; rfl
      have e5 : (k % 8 == 5) = false := by rw [h8]; rfl
      have e6 : (k % 8 == 6) = false := by rw [h8]; rfl
      go_wp2_with fail
      have hI1 : Itv.I ⟨⟨k / 8 % 5, 1⟩, ⟨k / 8 % 5 + (1 + k / 40 % 3), 1⟩, (k / 64 % 2 == 0), (k / 128 % 2 == 0), false, false⟩ := by unfold Itv.I Rat2.I I64; dsimp only; omega
      have hM := (((Mem.start w noH (noH_le _)).ext (w' := (w1.alloc (.cells #[.int .i64 (k / 8 % 5), .int .i64 1] 81)).alloc (.cells #[.int .i64 (k / 8 % 5 + (1 + k / 40 % 3)), .int .i64 1] 81)) (by with_reducible repeat (first | assumption | exact Ext.rfl' _ | exact Ext.new _ _ | refine Ext.alloc' ?_ _ | refine Ext.drew' ?_ | refine Ext.drewN' ?_ _ | (refine Ext.set' ?_ ?_ _; rotate_left; focus (first | omega | (simp; done) | (simp; omega))) | (refine Ext.then (b := ?_) ?_ ?_; rotate_left; rotate_left; assumption)))).new' #[.int .i64 (k / 8 % 5), .int .i64 (1), .int .i64 (k / 8 % 5 + (1 + k / 40 % 3)), .int .i64 (1), .bool (k / 64 % 2 == 0), .bool (k / 128 % 2 == 0), .bool false, .bool false] 96 (n := w1.heap.size + 1 + 1) (by simp)).asOwn 0 rfl mono_ItvR (sz := 8) (xs := [⟨⟨k / 8 % 5, 1⟩, ⟨k / 8 % 5 + (1 + k / 40 % 3), 1⟩, (k / 64 % 2 == 0), (k / 128 % 2 == 0), false, false⟩]) (n := 1) (by simp) (by simp [maxLen]) rfl ⟨_, [], rfl, rfl, ⟨rfl, hI1⟩, rfl⟩
      go_ret
      exact ⟨_, _, rfl, (by with_reducible repeat (first | assumption | exact Ext.rfl' _ | exact Ext.new _ _ | refine Ext.alloc' ?_ _ | refine Ext.drew' ?_ | refine Ext.drewN' ?_ _ | (refine Ext.set' ?_ ?_ _; rotate_left; focus (first | omega | (simp; done) | (simp; omega))) | (refine Ext.then (b := ?_) ?_ ?_; rotate_left; rotate_left; assumption))), hM.repUp 0 rfl, (by have h := (hall _ (bmem (k / 64 % 2 == 0)) _ (bmem (k / 128 % 2 == 0))).2.2.2.1; simpa [hiR] using h), by simp⟩
    · have e0 : (k % 8 == 0) = false := by rw [h8]; rfl
      have e1 : (k % 8 == 1) = false := by rw [h8]; rfl
      have e2 : (k % 8 == 2) = false := by rw [h8]; rfl
      have e3 : (k % 8 == 3) = false := by rw [h8]; rfl
      have e4 : (k % 8 == 4) = true := by rw [h8]; rfl
      have e5 : (k % 8 == 5) = false := by rw [h8]; rfl
      have e6 : (k % 8 == 6) = false := by rw [h8]; rfl
      go_wp2_with fail
      have hI1 : Itv.I ⟨⟨k / 8 % 5, 1⟩, ⟨k / 8 % 5 + (1 + k / 40 % 3), 1⟩, (k / 64 % 2 == 0), (k / 128 % 2 == 0), false, false⟩ := by unfold Itv.I Rat2.I I64; dsimp only; omega
      have hM := (((Mem.start w noH (noH_le _)).ext (w' := (w1.alloc (.cells #[.int .i64 (k / 8 % 5), .int .i64 1] 81)).alloc (.cells #[.int .i64 (k / 8 % 5 + (1 + k / 40 % 3)), .int .i64 1] 81)) (by with_reducible repeat (first | assumption | exact Ext.rfl' _ | exact Ext.new _ _ | refine Ext.alloc' ?_ _ | refine Ext.drew' ?_ | refine Ext.drewN' ?_ _ | (refine Ext.set' ?_ ?_ _; rotate_left; focus (first | omega | (simp; done) | (simp; omega))) | (refine Ext.then (b := ?_) ?_ ?_; rotate_left; rotate_left; assumption)))).new' #[.int .i64 (k / 8 % 5), .int .i64 (1), .int .i64 (k / 8 % 5 + (1 + k / 40 % 3)), .int .i64 (1), .bool (k / 64 % 2 == 0), .bool (k / 128 % 2 == 0), .bool false, .bool false] 96 (n := w1.heap.size + 1 + 1) (by simp)).asOwn 0 rfl mono_ItvR (sz := 8) (xs := [⟨⟨k / 8 % 5, 1⟩, ⟨k / 8 % 5 + (1 + k / 40 % 3), 1⟩, (k / 64 % 2 == 0), (k / 128 % 2 == 0), false, false⟩]) (n := 1) (by simp) (by simp [maxLen]) rfl ⟨_, [], rfl, rfl, ⟨rfl, hI1⟩, rfl⟩
      go_ret
      exact ⟨_, _, rfl, (by with_reducible repeat (first | assumption | exact Ext.rfl' _ | exact Ext.new _ _ | refine Ext.alloc' ?_ _ | refine Ext.drew' ?_ | refine Ext.drewN' ?_ _ | (refine Ext.set' ?_ ?_ _; rotate_left; focus (first | omega | (simp; done) | (simp; omega))) | (refine Ext.then (b := ?_) ?_ ?_; rotate_left; rotate_left; assumption))), hM.repUp 0 rfl, (by have h := (hall _ (bmem (k / 64 % 2 == 0)) _ (bmem (k / 128 % 2 == 0))).2.2.2.1; simpa [hiR] using h), by simp⟩
    · have e0 : (k % 8 == 0) = false := by rw [h8]; rfl
      have e1 : (k % 8 == 1) = false := by rw [h8]; rfl
      have e2 : (k % 8 == 2) = false := by rw [h8]; rfl
      have e3 : (k % 8 == 3) = false := by rw [h8]; rfl
      have e4 : (k % 8 == 4) = false := by rw [h8]; rfl
      have e5 : (k % 8 == 5) = true := by rw [h8]; rfl
      have e6 : (k % 8 == 6) = false := by rw [h8]; rfl
      go_wp2_with fail
      have hI1 : Itv.I ⟨⟨0, 0⟩, ⟨0, 0⟩, false, false, true, true⟩ := by unfold Itv.I Rat2.I I64; dsimp only; omega
      have hM := (((Mem.start w noH (noH_le _)).ext (w' := (w1.alloc (.cells #[.int .i64 (k / 8 % 5), .int .i64 1] 81)).alloc (.cells #[.int .i64 (k / 8 % 5 + (1 + k / 40 % 3)), .int .i64 1] 81)) (by with_reducible repeat (first | assumption | exact Ext.rfl' _ | exact Ext.new _ _ | refine Ext.alloc' ?_ _ | refine Ext.drew' ?_ | refine Ext.drewN' ?_ _ | (refine Ext.set' ?_ ?_ _; rotate_left; focus (first | omega | (simp; done) | (simp; omega))) | (refine Ext.then (b := ?_) ?_ ?_; rotate_left; rotate_left; assumption)))).new' #[.int .i64 (0), .int .i64 (0), .int .i64 (0), .int .i64 (0), .bool false, .bool false, .bool true, .bool true] 96 (n := w1.heap.size + 1 + 1) (by simp)).asOwn 0 rfl mono_ItvR (sz := 8) (xs := [⟨⟨0, 0⟩, ⟨0, 0⟩, false, false, true, true⟩]) (n := 1) (by simp) (by simp [maxLen]) rfl ⟨_, [], rfl, rfl, ⟨rfl, hI1⟩, rfl⟩
      go_ret
      exact ⟨_, _, rfl, (by with_reducible repeat (first | assumption | exact Ext.rfl' _ | exact Ext.new _ _ | refine Ext.alloc' ?_ _ | refine Ext.drew' ?_ | refine Ext.drewN' ?_ _ | (refine Ext.set' ?_ ?_ _; rotate_left; focus (first | omega | (simp; done) | (simp; omega))) | (refine Ext.then (b := ?_) ?_ ?_; rotate_left; rotate_left; assumption))), hM.repUp 0 rfl, (by decide +kernel), by simp⟩
    · have e0 : (k % 8 == 0) = false := by rw [h8]; rfl
      have e1 : (k % 8 == 1) = false := by rw [h8]; rfl
      have e2 : (k % 8 == 2) = false := by rw [h8]; rfl
      have e3 : (k % 8 == 3) = false := by rw [h8]; rfl
      have e4 : (k % 8 == 4) = false := by rw [h8]; rfl
      have e5 : (k % 8 == 5) = false := by rw [h8]; rfl
      have e6 : (k % 8 == 6) = true := by rw [h8]; rfl
      go_wp2_with fail
      have hI1 : Itv.I ⟨⟨0, 0⟩, ⟨k / 8 % 5, 1⟩, false, true, true, false⟩ := by unfold Itv.I Rat2.I I64; dsimp only; omega
      have hI2 : Itv.I ⟨⟨k / 8 % 5 + (1 + k / 40 % 3), 1⟩, ⟨0, 0⟩, (k / 64 % 2 == 0), false, false, true⟩ := by unfold Itv.I Rat2.I I64; dsimp only; omega
      have hM := (((Mem.start w noH (noH_le _)).ext (w' := (w1.alloc (.cells #[.int .i64 (k / 8 % 5), .int .i64 1] 81)).alloc (.cells #[.int .i64 (k / 8 % 5 + (1 + k / 40 % 3)), .int .i64 1] 81)) (by with_reducible repeat (first | assumption | exact Ext.rfl' _ | exact Ext.new _ _ | refine Ext.alloc' ?_ _ | refine Ext.drew' ?_ | refine Ext.drewN' ?_ _ | (refine Ext.set' ?_ ?_ _; rotate_left; focus (first | omega | (simp; done) | (simp; omega))) | (refine Ext.then (b := ?_) ?_ ?_; rotate_left; rotate_left; assumption)))).new' #[.int .i64 (0), .int .i64 (0), .int .i64 (k / 8 % 5), .int .i64 (1), .bool false, .bool true, .bool true, .bool false, .int .i64 (k / 8 % 5 + (1 + k / 40 % 3)), .int .i64 (1), .int .i64 (0), .int .i64 (0), .bool (k / 64 % 2 == 0), .bool false, .bool false, .bool true] 96 (n := w1.heap.size + 1 + 1) (by simp)).asOwn 0 rfl mono_ItvR (sz := 8) (xs := [⟨⟨0, 0⟩, ⟨k / 8 % 5, 1⟩, false, true, true, false⟩, ⟨⟨k / 8 % 5 + (1 + k / 40 % 3), 1⟩, ⟨0, 0⟩, (k / 64 % 2 == 0), false, false, true⟩]) (n := 2) (by simp) (by simp [maxLen]) rfl ⟨_, _, rfl, rfl, ⟨rfl, hI1⟩, _, [], rfl, rfl, ⟨rfl, hI2⟩, rfl⟩
      go_ret
      exact ⟨_, _, rfl, (by with_reducible repeat (first | assumption | exact Ext.rfl' _ | exact Ext.new _ _ | refine Ext.alloc' ?_ _ | refine Ext.drew' ?_ | refine Ext.drewN' ?_ _ | (refine Ext.set' ?_ ?_ _; rotate_left; focus (first | omega | (simp; done) | (simp; omega))) | (refine Ext.then (b := ?_) ?_ ?_; rotate_left; rotate_left; assumption))), hM.repUp 0 rfl, (by have h := (hall _ (bmem (k / 64 % 2 == 0)) _ (bmem true)).2.2.2.2.1; simpa [hiR] using h), by simp⟩
    · have e0 : (k % 8 == 0) = false := by rw [h8]; rfl
      have e1 : (k % 8 == 1) = false := by rw [h8]; rfl
      have e2 : (k % 8 == 2) = false := by rw [h8]; rfl
      have e3 : (k % 8 == 3) = false := by rw [h8]; rfl
      have e4 : (k % 8 == 4) = false := by rw [h8]; rfl
      have e5 : (k % 8 == 5) = false := by rw [h8]; rfl
      have e6 : (k % 8 == 6) = false := by rw [h8]; rfl
      by_cases h64 : k / 64 % 4 = 0
      · have b1 : (k / 64 % 4 == 0) = true := by simpa using h64
        go_wp2_with fail
        go_ret
        exact ⟨_, [], rfl, (by with_reducible repeat (first | assumption | exact Ext.rfl' _ | exact Ext.new _ _ | refine Ext.alloc' ?_ _ | refine Ext.drew' ?_ | refine Ext.drewN' ?_ _ | (refine Ext.set' ?_ ?_ _; rotate_left; focus (first | omega | (simp; done) | (simp; omega))) | (refine Ext.then (b := ?_) ?_ ?_; rotate_left; rotate_left; assumption))), SliceRep.nil _ _ _, by rfl, by simp⟩
      · have b1 : (k / 64 % 4 == 0) = false := by simpa using h64
        go_wp2_with fail
        have hI1 : Itv.I ⟨⟨k / 8 % 5, 1⟩, ⟨k / 8 % 5, 1⟩, false, false, false, false⟩ := by unfold Itv.I Rat2.I I64; dsimp only; omega
        have hI2 : Itv.I ⟨⟨k / 8 % 5 + (1 + k / 40 % 3), 1⟩, ⟨k / 8 % 5 + (1 + k / 40 % 3), 1⟩, false, false, false, false⟩ := by unfold Itv.I Rat2.I I64; dsimp only; omega
        have hM := (((Mem.start w noH (noH_le _)).ext (w' := (w1.alloc (.cells #[.int .i64 (k / 8 % 5), .int .i64 1] 81)).alloc (.cells #[.int .i64 (k / 8 % 5 + (1 + k / 40 % 3)), .int .i64 1] 81)) (by with_reducible repeat (first | assumption | exact Ext.rfl' _ | exact Ext.new _ _ | refine Ext.alloc' ?_ _ | refine Ext.drew' ?_ | refine Ext.drewN' ?_ _ | (refine Ext.set' ?_ ?_ _; rotate_left; focus (first | omega | (simp; done) | (simp; omega))) | (refine Ext.then (b := ?_) ?_ ?_; rotate_left; rotate_left; assumption)))).new' #[.int .i64 (k / 8 % 5), .int .i64 (1), .int .i64 (k / 8 % 5), .int .i64 (1), .bool false, .bool false, .bool false, .bool false, .int .i64 (k / 8 % 5 + (1 + k / 40 % 3)), .int .i64 (1), .int .i64 (k / 8 % 5 + (1 + k / 40 % 3)), .int .i64 (1), .bool false, .bool false, .bool false, .bool false] 96 (n := w1.heap.size + 1 + 1) (by simp)).asOwn 0 rfl mono_ItvR (sz := 8) (xs := [⟨⟨k / 8 % 5, 1⟩, ⟨k / 8 % 5, 1⟩, false, false, false, false⟩, ⟨⟨k / 8 % 5 + (1 + k / 40 % 3), 1⟩, ⟨k / 8 % 5 + (1 + k / 40 % 3), 1⟩, false, false, false, false⟩]) (n := 2) (by simp) (by simp [maxLen]) rfl ⟨_, _, rfl, rfl, ⟨rfl, hI1⟩, _, [], rfl, rfl, ⟨rfl, hI2⟩, rfl⟩
        go_ret
        exact ⟨_, _, rfl, (by with_reducible repeat (first | assumption | exact Ext.rfl' _ | exact Ext.new _ _ | refine Ext.alloc' ?_ _ | refine Ext.drew' ?_ | refine Ext.drewN' ?_ _ | (refine Ext.set' ?_ ?_ _; rotate_left; focus (first | omega | (simp; done) | (simp; omega))) | (refine Ext.then (b := ?_) ?_ ?_; rotate_left; rotate_left; assumption))), hM.repUp 0 rfl, (by have h := (hall _ (bmem true) _ (bmem true)).2.2.2.2.2; simpa [hiR] using h), by simp⟩
end Go.Proofs.YtbpilielamjnoaaGreat
namespace Go.Proofs.YtbpilielamjnoaaGreat
open Go.RowKit
set_option linter.unusedSimpArgs false
set_option linter.unusedVariables false
/-- a node is as it should be -/
def formed1 (f : Fm) : Bool :=
  if (f.op ≠ 2 ∧ f.inn ≠ []) ∨ (f.op ≠ 2 ∧ f.op ≠ 1 ∧ f.n ≠ 0) then false
  else if f.op = 0 then f.kids.isEmpty
  else if f.op = 1 then f.kids.isEmpty && decide (0 ≤ f.n) && decide (f.n < 64)
  else if f.op = 2 then f.kids.isEmpty && decide (0 ≤ f.n) && decide (f.n < 32) && decide (setE f.inn = 0)
  else if f.op = 3 ∨ f.op = 6 then decide (f.kids.length = 1)
  else decide (f.op = 4) || decide (f.op = 5)
def wholeB (f : Fm) : Bool := f.pre.all formed1
theorem wholeB_eq (f : Fm) : wholeB f = (formed1 f && f.kids.all wholeB) := by
  unfold wholeB
  rw [Fm.pre_eq, List.all_cons]
  congr 1
  induction f.kids with
  | nil => rfl
  | cons x xs ih => rw [List.flatMap_cons, List.all_append, List.all_cons, ih]
def validF (f : Fm) : Int := if 96 < f.size ∨ 8 < f.deep then 4 else if wholeB f then 0 else 1
theorem validF_0 {f : Fm} (h : validF f = 0) : f.size ≤ 96 ∧ f.deep ≤ 8 ∧ wholeB f = true := by
  unfold validF at h
  split at h
  · cases h
  · split at h
    · rename_i h1 h2; exact ⟨by omega, by omega, h2⟩
    · cases h
def oneI (b : Bool) : Int := if b then 1 else 0
def ordI (x : Itv) : List Int := [oneI x.loI, oneI x.loO, x.lo.num, x.lo.den, oneI x.hiI, oneI x.hiO, x.hi.num, x.hi.den]
def ordF (f : Fm) : List Int := [f.op, f.n, (f.inn.length : Int)] ++ f.inn.flatMap ordI ++ [(f.kids.length : Int)]
def cmpZ : List Int → List Int → Int
  | x :: xs, y :: ys => if x < y then -1 else if y < x then 1 else cmpZ xs ys
  | _, _ => 0
mutual
def cmpF : Fm → Fm → Int
  | .mk o n i k, .mk o' n' i' k' => if cmpZ (ordF (.mk o n i k)) (ordF (.mk o' n' i' k')) ≠ 0 then cmpZ (ordF (.mk o n i k)) (ordF (.mk o' n' i' k')) else cmpFs k k'
def cmpFs : List Fm → List Fm → Int
  | x :: xs, y :: ys => if cmpF x y ≠ 0 then cmpF x y else cmpFs xs ys
  | _, _ => 0
end
theorem cmpF_eq (a b : Fm) : cmpF a b = if cmpZ (ordF a) (ordF b) ≠ 0 then cmpZ (ordF a) (ordF b) else cmpFs a.kids b.kids := by
  cases a; cases b; rfl
theorem cmpZ_self : ∀ l : List Int, cmpZ l l = 0
  | [] => rfl
  | x :: xs => by simp [cmpZ, cmpZ_self xs]
theorem cmpZ_0 : ∀ {a b : List Int}, cmpZ a b = 0 → a.length = b.length → a = b
  | [], [], _, _ => rfl
  | [], _ :: _, _, h => by simp at h
  | _ :: _, [], _, h => by simp at h
  | x :: xs, y :: ys, h, hl => by
    rw [cmpZ] at h
    split at h
    · cases h
    · split at h
      · cases h
      · rename_i h1 h2
        have : x = y := by omega
        rw [this, cmpZ_0 h (by simpa using hl)]
theorem cmpZ_pre : ∀ {a b c d : List Int}, cmpZ (a ++ c) (b ++ d) = 0 → a.length = b.length → a = b
  | [], [], _, _, _, _ => rfl
  | [], _ :: _, _, _, _, h => by simp at h
  | _ :: _, [], _, _, _, h => by simp at h
  | x :: xs, y :: ys, c, d, h, hl => by
    rw [List.cons_append, List.cons_append, cmpZ] at h
    split at h
    · cases h
    · split at h
      · cases h
      · rename_i h1 h2
        have : x = y := by omega
        rw [this, cmpZ_pre h (by simpa using hl)]
theorem oneI_inj {a b : Bool} (h : oneI a = oneI b) : a = b := by cases a <;> cases b <;> first | rfl | cases h
theorem ordI_inj {x y : Itv} (h : ordI x = ordI y) : x = y := by
  obtain ⟨⟨a, b⟩, ⟨c, d⟩, p, q, r, s⟩ := x
  obtain ⟨⟨a', b'⟩, ⟨c', d'⟩, p', q', r', s'⟩ := y
  simp only [ordI, List.cons.injEq, and_true] at h
  obtain ⟨h1, h2, h3, h4, h5, h6, h7, h8⟩ := h
  have := oneI_inj h1; have := oneI_inj h2; have := oneI_inj h5; have := oneI_inj h6
  subst_vars; rfl
theorem ordIs_len : ∀ l : List Itv, (l.flatMap ordI).length = 8 * l.length
  | [] => rfl
  | x :: xs => by rw [List.flatMap_cons, List.length_append, ordIs_len xs]; simp [ordI]; omega
theorem ordIs_inj : ∀ {l m : List Itv}, l.length = m.length → l.flatMap ordI = m.flatMap ordI → l = m
  | [], [], _, _ => rfl
  | [], _ :: _, h, _ => by simp at h
  | _ :: _, [], h, _ => by simp at h
  | x :: xs, y :: ys, hl, h => by
    rw [List.flatMap_cons, List.flatMap_cons] at h
    obtain ⟨h1, h2⟩ := List.append_inj h (by simp [ordI])
    rw [ordI_inj h1, ordIs_inj (by simpa using hl) h2]
theorem ordF_len (f : Fm) : (ordF f).length = 4 + 8 * f.inn.length := by
  unfold ordF
  rw [List.length_append, List.length_append, ordIs_len]
  simp; omega
theorem ordF_0 {a b : Fm} (h : cmpZ (ordF a) (ordF b) = 0) : a.op = b.op ∧ a.n = b.n ∧ a.inn = b.inn ∧ a.kids.length = b.kids.length := by
  have h1 : [a.op, a.n, (a.inn.length : Int)] = [b.op, b.n, (b.inn.length : Int)] := by
    unfold ordF at h
    rw [List.append_assoc, List.append_assoc] at h
    exact cmpZ_pre h rfl
  simp only [List.cons.injEq, and_true] at h1
  obtain ⟨h2, h3, h4⟩ := h1
  have h5 : a.inn.length = b.inn.length := by omega
  have h6 := cmpZ_0 h (by rw [ordF_len, ordF_len, h5])
  unfold ordF at h6
  obtain ⟨h7, h8⟩ := List.append_inj h6 (by rw [List.length_append, List.length_append, ordIs_len, ordIs_len, h5]; rfl)
  obtain ⟨-, h9⟩ := List.append_inj h7 rfl
  refine ⟨h2, h3, ordIs_inj h5 h9, ?_⟩
  simp at h8; omega
theorem cmpFs_0 : ∀ {l m : List Fm}, (∀ x ∈ l, ∀ y, cmpF x y = 0 ↔ x = y) → l.length = m.length → (cmpFs l m = 0 ↔ l = m)
  | [], [], _, _ => by simp [cmpFs]
  | [], _ :: _, _, h => by simp at h
  | _ :: _, [], _, h => by simp at h
  | x :: xs, y :: ys, hx, hl => by
    have ih := cmpFs_0 (l := xs) (m := ys) (fun z hz => hx z (by simp [hz])) (by simpa using hl)
    have h1 := hx x (by simp) y
    rw [cmpFs]
    split
    · rename_i h
      constructor
      · intro h2; exact absurd h2 h
      · intro h2; cases h2; exact absurd (h1.2 rfl) h
    · rename_i h
      rw [ih]
      have : x = y := h1.1 (by omega)
      subst this
      simp
theorem cmpF_0 (a : Fm) : ∀ b, cmpF a b = 0 ↔ a = b := by
  induction a using Fm.ind with
  | h a ih =>
    intro b
    rw [cmpF_eq]
    by_cases h : cmpZ (ordF a) (ordF b) = 0
    · obtain ⟨h1, h2, h3, h4⟩ := ordF_0 h
      rw [if_neg (by simpa using h), cmpFs_0 ih h4]
      constructor
      · intro h5
        rw [a.eta, b.eta, h1, h2, h3, h5]
      · intro h5; rw [h5]
    · rw [if_pos h]
      constructor
      · intro h5; exact absurd h5 h
      · intro h5; rw [h5] at h; exact absurd (cmpZ_self _) h
end Go.Proofs.YtbpilielamjnoaaGreat
namespace Go.Proofs.YtbpilielamjnoaaGreat
open Go.RowKit
set_option linter.unusedSimpArgs false
set_option linter.unusedVariables false
structure Cl where
  refs : List Int
  body : Fm
def noF : Fm := .mk 0 0 [] []
def at? {α : Type} (acc : List (Option α)) (r : Int) : Option α := (acc[r.toNat]?).join
section
variable {α : Type} {f : List (Option α) → Cl → Option α}
end
/-! alternatives -/
theorem validF_of {f : Fm} (h1 : f.size ≤ 96) (h2 : f.deep ≤ 8) (h3 : wholeB f = true) : validF f = 0 := by
  unfold validF
  rw [if_neg (by omega), if_pos h3]
end Go.Proofs.YtbpilielamjnoaaGreat
namespace Go.Proofs.YtbpilielamjnoaaGreat
set_option linter.unusedSimpArgs false
set_option linter.unusedVariables false
theorem goodB.smlo {x : Itv} (h : goodB x = true) (hi : x.loI = false) : smallB x.lo = true := by
  have := (goodB_iff.1 h).1
  unfold limB at this
  rwa [if_neg (by rw [hi]; simp)] at this
theorem goodB.smhi {x : Itv} (h : goodB x = true) (hi : x.hiI = false) : smallB x.hi = true := by
  have := (goodB_iff.1 h).2.1
  unfold limB at this
  rwa [if_neg (by rw [hi]; simp)] at this
end Go.Proofs.YtbpilielamjnoaaGreat
namespace Go.Proofs.YtbpilielamjnoaaGreat
open Go.RowKit
set_option linter.unusedSimpArgs false
set_option linter.unusedVariables false
theorem formed1_mk (op n : Int) (inn : List Itv) (kids : List Fm) : formed1 (.mk op n inn kids) = if (op ≠ 2 ∧ inn ≠ []) ∨ (op ≠ 2 ∧ op ≠ 1 ∧ n ≠ 0) then false
  else if op = 0 then kids.isEmpty
  else if op = 1 then kids.isEmpty && decide (0 ≤ n) && decide (n < 64)
  else if op = 2 then kids.isEmpty && decide (0 ≤ n) && decide (n < 32) && decide (setE inn = 0)
  else if op = 3 ∨ op = 6 then decide (kids.length = 1)
  else decide (op = 4) || decide (op = 5) := rfl
theorem emp_len {α : Type} (l : List α) : l.isEmpty = ((l.length : Int) == 0) := by
  rw [Bool.eq_iff_iff, List.isEmpty_iff, ← List.length_eq_zero_iff]; simp; 
theorem len1 {α : Type} (l : List α) : decide (l.length = 1) = ((l.length : Int) == 1) := by
  rw [Bool.eq_iff_iff]; simp; omega
set_option maxHeartbeats 1000000 in
theorem formed_c (f : Fm) (cs : List Value) (w : World) (hr : FmR (ph w) cs f) : Calls Tryz.prog 44 #[.agg cs.toArray] w (RetV w (.bool (formed1 f))) := by
  obtain ⟨a3, c3, a4, c4, rfl, -, -, hil, hkl, hi, hk⟩ := hr.form
  unfold fmC
  obtain ⟨op, n, inn, kids⟩ := f
  simp only [Fm.op, Fm.n, Fm.inn, Fm.kids] at *
  clear hr
  by_cases h2 : op = 2
  · subst h2
    by_cases hk0 : kids.length = 0
    · by_cases hn0 : 0 ≤ n
      · by_cases hn1 : n < 32
        · have hv : Hid (formed1 (.mk 2 n inn kids) = (setE inn == 0)) := by
            show _ = _
            rw [formed1_mk]
            have : kids.isEmpty = true := by rw [List.isEmpty_iff]; exact List.eq_nil_of_length_eq_zero hk0
            simp [this, hn0, hn1]
            rfl
          have hc := Lib.hid hi
          clear hi hk
          have b1 : decide (0 ≤ n) = true := by simpa using hn0
          have b2 : decide (n < 32) = true := by simpa using hn1
          have b3 : ((kids.length : Int) == 0) = true := by simpa using hk0
          go_enter Tryz.func44, Tryz.ntmps44
          go_wp2_with fail
          refine RetV_at (valid_c _ inn _ (hc.out.mono mono_ItvR (Ext.ple (by with_reducible repeat (first | assumption | exact Ext.rfl' _ | exact Ext.new _ _ | refine Ext.alloc' ?_ _ | refine Ext.drew' ?_ | refine Ext.drewN' ?_ _ | (refine Ext.set' ?_ ?_ _; rotate_left; focus (first | omega | (simp; done) | (simp; omega))) | (refine Ext.then (b := ?_) ?_ ?_; rotate_left; rotate_left; assumption)))))) ?_
          intro w1 hx1
          generalize setE inn = e at *
          go_wp2_with fail
          go_ret
          exact ⟨ret_bool hv.out.symm, (by with_reducible repeat (first | assumption | exact Ext.rfl' _ | exact Ext.new _ _ | refine Ext.alloc' ?_ _ | refine Ext.drew' ?_ | refine Ext.drewN' ?_ _ | (refine Ext.set' ?_ ?_ _; rotate_left; focus (first | omega | (simp; done) | (simp; omega))) | (refine Ext.then (b := ?_) ?_ ?_; rotate_left; rotate_left; assumption)))⟩
        · have hv : Hid (formed1 (.mk 2 n inn kids) = false) := by
            show _ = _
            rw [formed1_mk]
            simp [hn1]
          have b1 : decide (0 ≤ n) = true := by simpa using hn0
          have b2 : decide (n < 32) = false := by simpa using hn1
          have b3 : ((kids.length : Int) == 0) = true := by simpa using hk0
          clear hi hk
          go_enter Tryz.func44, Tryz.ntmps44
          go_wp2_with fail
          go_ret
          exact ⟨ret_bool hv.out.symm, (by with_reducible repeat (first | assumption | exact Ext.rfl' _ | exact Ext.new _ _ | refine Ext.alloc' ?_ _ | refine Ext.drew' ?_ | refine Ext.drewN' ?_ _ | (refine Ext.set' ?_ ?_ _; rotate_left; focus (first | omega | (simp; done) | (simp; omega))) | (refine Ext.then (b := ?_) ?_ ?_; rotate_left; rotate_left; assumption)))⟩
      · have hv : Hid (formed1 (.mk 2 n inn kids) = false) := by
          show _ = _
          rw [formed1_mk]
          simp [hn0]
        have b1 : decide (0 ≤ n) = false := by simpa using hn0
        have b3 : ((kids.length : Int) == 0) = true := by simpa using hk0
        clear hi hk
        go_enter Tryz.func44, Tryz.ntmps44
        go_wp2_with fail
        go_ret
        exact ⟨ret_bool hv.out.symm, (by with_reducible repeat (first | assumption | exact Ext.rfl' _ | exact Ext.new _ _ | refine Ext.alloc' ?_ _ | refine Ext.drew' ?_ | refine Ext.drewN' ?_ _ | (refine Ext.set' ?_ ?_ _; rotate_left; focus (first | omega | (simp; done) | (simp; omega))) | (refine Ext.then (b := ?_) ?_ ?_; rotate_left; rotate_left; assumption)))⟩
    · have hv : Hid (formed1 (.mk 2 n inn kids) = false) := by
        show _ = _
        rw [formed1_mk]
        have : kids.isEmpty = false := by cases kids <;> simp_all
        simp [this]
      have b3 : ((kids.length : Int) == 0) = false := by simpa using hk0
      clear hi hk
      go_enter Tryz.func44, Tryz.ntmps44
      go_wp2_with fail
      go_ret
      exact ⟨ret_bool hv.out.symm, (by with_reducible repeat (first | assumption | exact Ext.rfl' _ | exact Ext.new _ _ | refine Ext.alloc' ?_ _ | refine Ext.drew' ?_ | refine Ext.drewN' ?_ _ | (refine Ext.set' ?_ ?_ _; rotate_left; focus (first | omega | (simp; done) | (simp; omega))) | (refine Ext.then (b := ?_) ?_ ?_; rotate_left; rotate_left; assumption)))⟩
  have a2 : (op == 2) = false := by simpa using h2
  have c2' : (op != 2) = true := by simpa using h2
  by_cases hin : 0 < inn.length
  · have hv : Hid (formed1 (.mk op n inn kids) = false) := by
      show _ = _
      rw [formed1_mk]
      have : inn ≠ [] := by intro e; subst e; simp at hin
      simp [h2, this]
    have b1 : decide (0 < (inn.length : Int)) = true := by simpa using hin
    clear hi hk
    go_enter Tryz.func44, Tryz.ntmps44
    go_wp2_with fail
    go_ret
    exact ⟨ret_bool hv.out.symm, (by with_reducible repeat (first | assumption | exact Ext.rfl' _ | exact Ext.new _ _ | refine Ext.alloc' ?_ _ | refine Ext.drew' ?_ | refine Ext.drewN' ?_ _ | (refine Ext.set' ?_ ?_ _; rotate_left; focus (first | omega | (simp; done) | (simp; omega))) | (refine Ext.then (b := ?_) ?_ ?_; rotate_left; rotate_left; assumption)))⟩
  have hin' : inn = [] := List.eq_nil_of_length_eq_zero (by omega)
  subst hin'
  have b1 : decide (0 < (([] : List Itv).length : Int)) = false := by simp
  by_cases h1 : op = 1
  · subst h1
    by_cases hk0 : kids.length = 0
    · have b3 : ((kids.length : Int) == 0) = true := by simpa using hk0
      by_cases hn0 : 0 ≤ n
      · have hv : Hid (formed1 (.mk 1 n [] kids) = decide (n < 64)) := by
          show _ = _
          rw [formed1_mk]
          have : kids.isEmpty = true := by rw [List.isEmpty_iff]; exact List.eq_nil_of_length_eq_zero hk0
          simp [this, hn0]
        have b2 : decide (0 ≤ n) = true := by simpa using hn0
        clear hi hk
        go_enter Tryz.func44, Tryz.ntmps44
        go_wp2_with fail
        go_ret
        exact ⟨ret_bool hv.out.symm, (by with_reducible repeat (first | assumption | exact Ext.rfl' _ | exact Ext.new _ _ | refine Ext.alloc' ?_ _ | refine Ext.drew' ?_ | refine Ext.drewN' ?_ _ | (refine Ext.set' ?_ ?_ _; rotate_left; focus (first | omega | (simp; done) | (simp; omega))) | (refine Ext.then (b := ?_) ?_ ?_; rotate_left; rotate_left; assumption)))⟩
      · have hv : Hid (formed1 (.mk 1 n [] kids) = false) := by
          show _ = _
          rw [formed1_mk]
          simp [hn0]
        have b2 : decide (0 ≤ n) = false := by simpa using hn0
        clear hi hk
        go_enter Tryz.func44, Tryz.ntmps44
        go_wp2_with fail
        go_ret
        exact ⟨ret_bool hv.out.symm, (by with_reducible repeat (first | assumption | exact Ext.rfl' _ | exact Ext.new _ _ | refine Ext.alloc' ?_ _ | refine Ext.drew' ?_ | refine Ext.drewN' ?_ _ | (refine Ext.set' ?_ ?_ _; rotate_left; focus (first | omega | (simp; done) | (simp; omega))) | (refine Ext.then (b := ?_) ?_ ?_; rotate_left; rotate_left; assumption)))⟩
    · have hv : Hid (formed1 (.mk 1 n [] kids) = false) := by
        show _ = _
        rw [formed1_mk]
        have : kids.isEmpty = false := by cases kids <;> simp_all
        simp [this]
      have b3 : ((kids.length : Int) == 0) = false := by simpa using hk0
      clear hi hk
      go_enter Tryz.func44, Tryz.ntmps44
      go_wp2_with fail
      go_ret
      exact ⟨ret_bool hv.out.symm, (by with_reducible repeat (first | assumption | exact Ext.rfl' _ | exact Ext.new _ _ | refine Ext.alloc' ?_ _ | refine Ext.drew' ?_ | refine Ext.drewN' ?_ _ | (refine Ext.set' ?_ ?_ _; rotate_left; focus (first | omega | (simp; done) | (simp; omega))) | (refine Ext.then (b := ?_) ?_ ?_; rotate_left; rotate_left; assumption)))⟩
  have a1 : (op == 1) = false := by simpa using h1
  have c1' : (op != 1) = true := by simpa using h1
  by_cases hn : n = 0
  · subst hn
    clear hi hk
    by_cases h0 : op = 0
    · subst h0
      have hv : Hid (formed1 (.mk 0 0 [] kids) = ((kids.length : Int) == 0)) := by show _ = _; rw [formed1_mk, ← emp_len]; simp
      go_enter Tryz.func44, Tryz.ntmps44
      go_wp2_with fail
      go_ret
      exact ⟨ret_bool hv.out.symm, (by with_reducible repeat (first | assumption | exact Ext.rfl' _ | exact Ext.new _ _ | refine Ext.alloc' ?_ _ | refine Ext.drew' ?_ | refine Ext.drewN' ?_ _ | (refine Ext.set' ?_ ?_ _; rotate_left; focus (first | omega | (simp; done) | (simp; omega))) | (refine Ext.then (b := ?_) ?_ ?_; rotate_left; rotate_left; assumption)))⟩
    have a0 : (op == 0) = false := by simpa using h0
    by_cases h3 : op = 3
    · subst h3
      have hv : Hid (formed1 (.mk 3 0 [] kids) = ((kids.length : Int) == 1)) := by show _ = _; rw [formed1_mk, ← len1]; simp
      go_enter Tryz.func44, Tryz.ntmps44
      go_wp2_with fail
      go_ret
      exact ⟨ret_bool hv.out.symm, (by with_reducible repeat (first | assumption | exact Ext.rfl' _ | exact Ext.new _ _ | refine Ext.alloc' ?_ _ | refine Ext.drew' ?_ | refine Ext.drewN' ?_ _ | (refine Ext.set' ?_ ?_ _; rotate_left; focus (first | omega | (simp; done) | (simp; omega))) | (refine Ext.then (b := ?_) ?_ ?_; rotate_left; rotate_left; assumption)))⟩
    have a3' : (op == 3) = false := by simpa using h3
    by_cases h6 : op = 6
    · subst h6
      have hv : Hid (formed1 (.mk 6 0 [] kids) = ((kids.length : Int) == 1)) := by show _ = _; rw [formed1_mk, ← len1]; simp
      go_enter Tryz.func44, Tryz.ntmps44
      go_wp2_with fail
      go_ret
      exact ⟨ret_bool hv.out.symm, (by with_reducible repeat (first | assumption | exact Ext.rfl' _ | exact Ext.new _ _ | refine Ext.alloc' ?_ _ | refine Ext.drew' ?_ | refine Ext.drewN' ?_ _ | (refine Ext.set' ?_ ?_ _; rotate_left; focus (first | omega | (simp; done) | (simp; omega))) | (refine Ext.then (b := ?_) ?_ ?_; rotate_left; rotate_left; assumption)))⟩
    have a6 : (op == 6) = false := by simpa using h6
    by_cases h4 : op = 4
    · subst h4
      have hv : Hid (formed1 (.mk 4 0 [] kids) = true) := by show _ = _; rw [formed1_mk]; simp
      go_enter Tryz.func44, Tryz.ntmps44
      go_wp2_with fail
      go_ret
      exact ⟨ret_bool hv.out.symm, (by with_reducible repeat (first | assumption | exact Ext.rfl' _ | exact Ext.new _ _ | refine Ext.alloc' ?_ _ | refine Ext.drew' ?_ | refine Ext.drewN' ?_ _ | (refine Ext.set' ?_ ?_ _; rotate_left; focus (first | omega | (simp; done) | (simp; omega))) | (refine Ext.then (b := ?_) ?_ ?_; rotate_left; rotate_left; assumption)))⟩
    have a4' : (op == 4) = false := by simpa using h4
    have hv : Hid (formed1 (.mk op 0 [] kids) = (op == 5)) := by show _ = _; rw [formed1_mk, if_neg (by simp), if_neg h0, if_neg h1, if_neg h2, if_neg (by omega), decide_eq_false h4, Bool.false_or, Bool.eq_iff_iff]; simp
    go_enter Tryz.func44, Tryz.ntmps44
    go_wp2_with fail
    go_ret
    exact ⟨ret_bool hv.out.symm, (by with_reducible repeat (first | assumption | exact Ext.rfl' _ | exact Ext.new _ _ | refine Ext.alloc' ?_ _ | refine Ext.drew' ?_ | refine Ext.drewN' ?_ _ | (refine Ext.set' ?_ ?_ _; rotate_left; focus (first | omega | (simp; done) | (simp; omega))) | (refine Ext.then (b := ?_) ?_ ?_; rotate_left; rotate_left; assumption)))⟩
  · have hv : Hid (formed1 (.mk op n [] kids) = false) := by
      show _ = _
      rw [formed1_mk]
      simp [h2, h1, hn]
    have b2 : (n == 0) = false := by simpa using hn
    have b4 : (n != 0) = true := by simpa using hn
    clear hi hk
    go_enter Tryz.func44, Tryz.ntmps44
    go_wp2_with fail
    go_ret
    exact ⟨ret_bool hv.out.symm, (by with_reducible repeat (first | assumption | exact Ext.rfl' _ | exact Ext.new _ _ | refine Ext.alloc' ?_ _ | refine Ext.drew' ?_ | refine Ext.drewN' ?_ _ | (refine Ext.set' ?_ ?_ _; rotate_left; focus (first | omega | (simp; done) | (simp; omega))) | (refine Ext.then (b := ?_) ?_ ?_; rotate_left; rotate_left; assumption)))⟩
end Go.Proofs.YtbpilielamjnoaaGreat
