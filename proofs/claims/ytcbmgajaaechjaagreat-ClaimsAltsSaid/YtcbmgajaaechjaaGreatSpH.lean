/- package span: Valid, few, valid, Equal; the library's searches at intervals. -/
import Derived.Test.YtcbmgajaaechjaaGreatSpG
namespace Go.Proofs.YtcbmgajaaechjaaGreat
open Go.RowKit Go.Shelf
set_option linter.unusedSimpArgs false
set_option linter.unusedVariables false
theorem infoItv : (Tryz.prog.info? 117).map (fun i => (i.zero, i.size, i.bytes)) = some (some (.agg #[.int .i64 0, .int .i64 0, .int .i64 0, .int .i64 0, .bool false, .bool false, .bool false, .bool false]), 8, 40) := by kernel_rfl
theorem infoEn : (Tryz.prog.info? 137).map (fun i => (i.zero, i.size, i.bytes)) = some (some (.agg #[.int .i64 0, .int .i64 0, .int .i64 0, .bool false]), 4, 32) := by kernel_rfl
theorem one_ItvR {h : PH} : ∀ cs x, ItvR h cs x → ∀ u ∈ cs, u.oneCell' = true := by
  rintro cs x ⟨rfl, -⟩ u hu
  simp only [itC, List.mem_cons, List.not_mem_nil, or_false] at hu
  rcases hu with rfl | rfl | rfl | rfl | rfl | rfl | rfl | rfl <;> rfl
theorem one_EnR {h : PH} : ∀ cs x, EnR h cs x → ∀ u ∈ cs, u.oneCell' = true := by
  rintro cs x ⟨rfl, -⟩ u hu
  simp only [enC, List.mem_cons, List.not_mem_nil, or_false] at hu
  rcases hu with rfl | rfl | rfl | rfl <;> rfl
theorem ItvsR.at {w : World} {a : Option Addr} {n cap : Nat} {xs : List Itv} (hr : ItvsR (ph w) (.slice a n cap) xs) (k : Nat) (hk : k < xs.length) :
    ∃ b o, a = some ⟨b, o, none⟩ ∧ w.cell? ⟨b, o + k * 8, none⟩ = some (.int .i64 xs[k].lo.num) ∧ w.cell? ⟨b, o + k * 8 + 1, none⟩ = some (.int .i64 xs[k].lo.den) ∧ w.cell? ⟨b, o + k * 8 + 2, none⟩ = some (.int .i64 xs[k].hi.num) ∧ w.cell? ⟨b, o + k * 8 + 3, none⟩ = some (.int .i64 xs[k].hi.den) ∧ w.cell? ⟨b, o + k * 8 + 4, none⟩ = some (.bool xs[k].loO) ∧ w.cell? ⟨b, o + k * 8 + 5, none⟩ = some (.bool xs[k].hiO) ∧ w.cell? ⟨b, o + k * 8 + 6, none⟩ = some (.bool xs[k].loI) ∧ w.cell? ⟨b, o + k * 8 + 7, none⟩ = some (.bool xs[k].hiI) ∧ b < w.heap.size ∧ xs[k].I := by
  obtain ⟨b, o, cs, h1, h2, h3, rfl, h5⟩ := hr.get k hk
  have h : ∀ j, j < 8 → w.cell? ⟨b, o + k * 8 + j, none⟩ = some ((itC xs[k]).getD j undef) := fun j hj => by rw [cell_ph]; exact h3 j hj
  exact ⟨b, o, h1, h 0 (by omega), h 1 (by omega), h 2 (by omega), h 3 (by omega), h 4 (by omega), h 5 (by omega), h 6 (by omega), h 7 (by omega), cell_lt (h 0 (by omega)), h5⟩
theorem ItvsR.row {w : World} {a : Option Addr} {n cap : Nat} {xs : List Itv} (hr : ItvsR (ph w) (.slice a n cap) xs) (k : Nat) (hk : k < xs.length) :
    ∃ b o, a = some ⟨b, o, none⟩ ∧ (∀ j u, (itC xs[k])[j]? = some u → w.cell? ⟨b, o + k * 8 + j, none⟩ = some u) ∧ b < w.heap.size ∧ xs[k].I := by
  obtain ⟨b, o, cs, h1, h2, h3, rfl, h5⟩ := hr.get k hk
  have h : ∀ j u, (itC xs[k])[j]? = some u → w.cell? ⟨b, o + k * 8 + j, none⟩ = some u := fun j u hu => by
    obtain ⟨hj, he⟩ := List.getElem?_eq_some_iff.1 hu
    rw [cell_ph, h3 j hj, ← he]
    simp [List.getD_eq_getElem?_getD, hj]
  exact ⟨b, o, h1, h, cell_lt (h 0 _ rfl), h5⟩
set_option maxHeartbeats 400000 in
theorem indexFunc_itv (p : Itv → Bool) (fid : Nat) (cap : Array Value) (vs : Value) (xs : List Itv) (w : World) (hr : ItvsR (ph w) vs xs)
    (hfn : ∀ args w, (callFunc fid args).run Tryz.prog w = .ok (.enter fid args) w)
    (hf : ∀ w', Ext w w' → ∀ x ∈ xs, ∀ cs, ItvR (ph w') cs x → Calls Tryz.prog fid (#[.agg cs.toArray] ++ cap) w' (RetV w' (.bool (p x)))) :
    Calls Tryz.prog 121 #[vs, .func (.func fid) #[] cap] w (RetV w (.int .i64 (idxOf p xs))) := by
  obtain ⟨a, c, rfl, hlen, hr⟩ := hr.form
  have HF := Lib.hid hf; clear hf
  go_enter Tryz.func121, Tryz.ntmps121
  go_wp2
  go_loopw [8] (fun i wr => ∃ k : Nat, k ≤ xs.length ∧ i = .int .i64 k ∧ Hid (∀ x ∈ xs.take k, p x = false) ∧ Ext w wr) (fun i _ => xs.length - (intOf i).toNat)
  case atStart => exact ⟨0, Nat.zero_le _, rfl, Lib.hid (by simp), (by repeat (first | (with_reducible assumption) | (with_reducible exact Ext.rfl' _) | (with_reducible exact Ext.new _ _) | (with_reducible refine Ext.alloc' ?_ _) | (with_reducible refine Ext.drew' ?_) | (with_reducible refine Ext.drewN' ?_ _) | (with_reducible refine Ext.set' ?_ ?_ _; rotate_left; (focus (first | omega | (simp; done) | (simp; omega)))) | (with_reducible refine Ext.then (b := ?_) ?_ ?_; rotate_left; rotate_left; (with_reducible assumption))))⟩
  case round =>
    obtain ⟨k, hk, rfl, HNO, hb⟩ := hrel
    by_cases hlt : k < xs.length
    · have hp' := hr.mono mono_ItvR hb.ple
      obtain ⟨b, o, rfl, h0, h1, h2, h3, h4, h5, h6, h7, hbl, hI⟩ := ItvsR.at hp' k hlt; have hE : ItvR (ph wr) (itC xs[k]) xs[k] := ⟨rfl, hI⟩; unfold itC at hE
      clear hp'
      go_wp2_with fail
      refine (HF.out _ (by repeat (first | (with_reducible assumption) | (with_reducible exact Ext.rfl' _) | (with_reducible exact Ext.new _ _) | (with_reducible refine Ext.alloc' ?_ _) | (with_reducible refine Ext.drew' ?_) | (with_reducible refine Ext.drewN' ?_ _) | (with_reducible refine Ext.set' ?_ ?_ _; rotate_left; (focus (first | omega | (simp; done) | (simp; omega)))) | (with_reducible refine Ext.then (b := ?_) ?_ ?_; rotate_left; rotate_left; (with_reducible assumption)))) _ (List.getElem_mem hlt) _ hE).mono ?_
      rintro e w1 ⟨rfl, hb1⟩
      cases hpk : p xs[k] with
      | true =>
        go_wp2_with fail
        go_ret
        exact ⟨ret_int (idxOf_found p xs k hlt hpk HNO.out).symm, (by repeat (first | (with_reducible assumption) | (with_reducible exact Ext.rfl' _) | (with_reducible exact Ext.new _ _) | (with_reducible refine Ext.alloc' ?_ _) | (with_reducible refine Ext.drew' ?_) | (with_reducible refine Ext.drewN' ?_ _) | (with_reducible refine Ext.set' ?_ ?_ _; rotate_left; (focus (first | omega | (simp; done) | (simp; omega)))) | (with_reducible refine Ext.then (b := ?_) ?_ ?_; rotate_left; rotate_left; (with_reducible assumption))))⟩
      | false =>
        go_wp2_with fail
        go_roundw
        case rel => exact ⟨k + 1, by omega, by go_num, take_all hlt hpk HNO.out, (by repeat (first | (with_reducible assumption) | (with_reducible exact Ext.rfl' _) | (with_reducible exact Ext.new _ _) | (with_reducible refine Ext.alloc' ?_ _) | (with_reducible refine Ext.drew' ?_) | (with_reducible refine Ext.drewN' ?_ _) | (with_reducible refine Ext.set' ?_ ?_ _; rotate_left; (focus (first | omega | (simp; done) | (simp; omega)))) | (with_reducible refine Ext.then (b := ?_) ?_ ?_; rotate_left; rotate_left; (with_reducible assumption))))⟩
        case measure => simp [intOf]; omega
    · clear hr HF
      go_wp2_with fail
      go_ret
      exact ⟨ret_int (idxOf_none p xs (take_done (by omega) HNO.out)).symm, (by repeat (first | (with_reducible assumption) | (with_reducible exact Ext.rfl' _) | (with_reducible exact Ext.new _ _) | (with_reducible refine Ext.alloc' ?_ _) | (with_reducible refine Ext.drew' ?_) | (with_reducible refine Ext.drewN' ?_ _) | (with_reducible refine Ext.set' ?_ ?_ _; rotate_left; (focus (first | omega | (simp; done) | (simp; omega)))) | (with_reducible refine Ext.then (b := ?_) ?_ ?_; rotate_left; rotate_left; (with_reducible assumption))))⟩
theorem containsFunc_itv (p : Itv → Bool) (fid : Nat) (cap : Array Value) (vs : Value) (xs : List Itv) (w : World) (hr : ItvsR (ph w) vs xs)
    (hfn : ∀ args w, (callFunc fid args).run Tryz.prog w = .ok (.enter fid args) w)
    (hf : ∀ w', Ext w w' → ∀ x ∈ xs, ∀ cs, ItvR (ph w') cs x → Calls Tryz.prog fid (#[.agg cs.toArray] ++ cap) w' (RetV w' (.bool (p x)))) :
    Calls Tryz.prog 107 #[vs, .func (.func fid) #[] cap] w (RetV w (.bool (xs.any p))) := by
  have HF := Lib.hid hf; clear hf
  have HFN := Lib.hid hfn; clear hfn
  go_enter Tryz.func107, Tryz.ntmps107
  go_wp2_with fail
  refine (indexFunc_itv p fid cap vs xs _ hr HFN.out HF.out).mono ?_
  rintro e w1 ⟨rfl, hb1⟩
  have hx := Lib.hid (idxOf_ge p xs)
  generalize idxOf p xs = i at *
  go_wp2_with fail
  go_ret
  exact ⟨ret_bool hx.out, (by repeat (first | (with_reducible assumption) | (with_reducible exact Ext.rfl' _) | (with_reducible exact Ext.new _ _) | (with_reducible refine Ext.alloc' ?_ _) | (with_reducible refine Ext.drew' ?_) | (with_reducible refine Ext.drewN' ?_ _) | (with_reducible refine Ext.set' ?_ ?_ _; rotate_left; (focus (first | omega | (simp; done) | (simp; omega)))) | (with_reducible refine Ext.then (b := ?_) ?_ ?_; rotate_left; rotate_left; (with_reducible assumption))))⟩
theorem few_c (v : Value) (l : List Itv) (w : World) (hr : ItvsR (ph w) v l) : Calls Tryz.prog 115 #[v] w (RetV w (.int .i64 (fewE l).2)) := by
  obtain ⟨a, c, rfl, hlen, hr⟩ := hr.form
  by_cases h : 32 < l.length
  · have hs : Hid ((fewE l).2 = 4) := by show _ = _; unfold fewE; rw [if_pos h]
    go_enter Tryz.func115, Tryz.ntmps115
    go_wp2
    go_ret
    exact ⟨ret_int hs.out.symm, (by repeat (first | (with_reducible assumption) | (with_reducible exact Ext.rfl' _) | (with_reducible exact Ext.new _ _) | (with_reducible refine Ext.alloc' ?_ _) | (with_reducible refine Ext.drew' ?_) | (with_reducible refine Ext.drewN' ?_ _) | (with_reducible refine Ext.set' ?_ ?_ _; rotate_left; (focus (first | omega | (simp; done) | (simp; omega)))) | (with_reducible refine Ext.then (b := ?_) ?_ ?_; rotate_left; rotate_left; (with_reducible assumption))))⟩
  · have hs : Hid ((fewE l).2 = 0) := by show _ = _; unfold fewE; rw [if_neg h]
    go_enter Tryz.func115, Tryz.ntmps115
    go_wp2
    go_ret
    exact ⟨ret_int hs.out.symm, (by repeat (first | (with_reducible assumption) | (with_reducible exact Ext.rfl' _) | (with_reducible exact Ext.new _ _) | (with_reducible refine Ext.alloc' ?_ _) | (with_reducible refine Ext.drew' ?_) | (with_reducible refine Ext.drewN' ?_ _) | (with_reducible refine Ext.set' ?_ ?_ _; rotate_left; (focus (first | omega | (simp; done) | (simp; omega)))) | (with_reducible refine Ext.then (b := ?_) ?_ ?_; rotate_left; rotate_left; (with_reducible assumption))))⟩
/-- the interval ahead -/
def prv (l : List Itv) : Nat → Option Itv
  | 0 => none
  | k + 1 => l[k]?
theorem setF_cons (p : Option Itv) (x : Itv) (r : List Itv) : setF p (x :: r) = (goodB x && (match p with | none => true | some y => lessE (hiE y) (loE x)) && setF (some x) r) := by cases p <;> rfl
theorem setF_drop {l : List Itv} {k : Nat} (h : k < l.length) (h0 : 0 < k) : setF (prv l k) (l.drop k) = (goodB l[k] && lessE (hiE (l[k - 1]'(by omega))) (loE l[k]) && setF (prv l (k + 1)) (l.drop (k + 1))) := by
  obtain ⟨j, rfl⟩ : ∃ j, k = j + 1 := ⟨k - 1, by omega⟩
  rw [List.drop_eq_getElem_cons h, setF_cons]
  simp only [prv, List.getElem?_eq_getElem h, List.getElem?_eq_getElem (show j < l.length by omega), Nat.add_sub_cancel]
theorem setF_zero {l : List Itv} (h : 0 < l.length) : setF (prv l 0) (l.drop 0) = (goodB l[0] && setF (prv l 1) (l.drop 1)) := by
  rw [List.drop_eq_getElem_cons h, setF_cons]
  simp only [prv, List.getElem?_eq_getElem h, Bool.and_true, Nat.zero_add]
/-- all intervals ahead are good -/
theorem setF_good {l : List Itv} {k : Nat} (h : k < l.length) (hg : goodB l[k] = false) : setF (prv l k) (l.drop k) = false := by
  rw [List.drop_eq_getElem_cons h, setF_cons, hg]; rfl
set_option maxRecDepth 100000 in
set_option maxHeartbeats 4000000 in
theorem valid_c (v : Value) (l : List Itv) (w : World) (hr : ItvsR (ph w) v l) : Calls Tryz.prog 82 #[v] w (RetV w (.int .i64 (setE l))) := by
  have hfew := fun w hr => few_c v l w hr
  obtain ⟨a, c, rfl, hlen, hr⟩ := hr.form
  have hE : Hid (setE l = if setF none l = false then 1 else (fewE l).2) := by
    show _ = _
    unfold setE fewE
    split
    · rfl
    · split <;> rfl
  replace hfew := Lib.hid hfew
  go_enter Tryz.func82, Tryz.ntmps82
  go_wp2_with fail
  go_loopw [11] (fun i wr => ∃ k : Nat, k ≤ l.length ∧ i = .int .i64 k ∧ Hid (setF none l = setF (prv l k) (l.drop k) ∧ ∀ x ∈ l.take k, goodB x = true) ∧ Ext w wr) (fun i _ => l.length - (intOf i).toNat)
  case atStart => exact ⟨0, Nat.zero_le _, rfl, Lib.hid ⟨rfl, by simp⟩, Ext.rfl' _⟩
  case round =>
    obtain ⟨k, hk, rfl, ho, hx⟩ := hrel
    by_cases hlt : k < l.length
    · obtain ⟨b, o, rfl, h0, h1, h2, h3, h4, h5, h6, h7, hbl, hI⟩ := ItvsR.at (hr.mono mono_ItvR hx.ple) k hlt
      have hja : decide (k < l.length) = true := decide_eq_true hlt
      have hgood := fun w => good_c l[k] w hI
      have hends := fun w => ends_c l[k] w
      have hg0 := fun (hg : goodB l[k] = false) => setF_good hlt hg
      have hg1 := fun (hg : goodB l[k] = true) => take_all hlt hg ho.out.2
      have hk0 := fun (h : k = 0) (hg : goodB l[k] = true) => show setF (prv l k) (l.drop k) = setF (prv l (k + 1)) (l.drop (k + 1)) by
        subst h; rw [setF_zero hlt, hg, Bool.true_and]
      have hk1 := fun (h : 0 < k) => setF_drop hlt h
      have hless := fun (h : 0 < k) (hg : goodB l[k] = true) w => less_c (hiE (l[k - 1]'(by omega))) (loE l[k]) w (goodB.hi (ho.out.2 _ (by rw [List.mem_take_iff_getElem]; exact ⟨k - 1, by omega, rfl⟩))).bd (goodB.lo hg).bd
      obtain ⟨y, hy⟩ : ∃ y, ∀ h : 0 < k, y = l[k - 1]'(by omega) := by
        by_cases h : 0 < k
        · exact ⟨l[k - 1]'(by omega), fun _ => rfl⟩
        · exact ⟨l[k], fun h' => absurd h' h⟩
      have hrow := fun (h : 0 < k) => ItvsR.at (hr.mono mono_ItvR hx.ple) (k - 1) (by omega)
      have hst : ∀ h : 0 < k, lessE (hiE y) (loE l[k]) = lessE (hiE (l[k - 1]'(by omega))) (loE l[k]) := fun h => by rw [hy h]
      have hendy := fun w => ends_c y w
      unfold endsV at hends hendy
      have hless' : ∀ (h : 0 < k) (hg : goodB l[k] = true) w, Calls Tryz.prog 114 #[enA (hiE y), enA (loE l[k])] w (RetV w (.bool (lessE (hiE y) (loE l[k])))) := fun h hg w => by
        rw [hy h]; exact hless h hg w
      have hk1' : ∀ h : 0 < k, setF (prv l k) (l.drop k) = (goodB l[k] && lessE (hiE y) (loE l[k]) && setF (prv l (k + 1)) (l.drop (k + 1))) := fun h => by
        rw [hst h]; exact hk1 h
      have hrow' : ∀ h : 0 < k, wr.cell? ⟨b, o + (k - 1) * 8, none⟩ = some (.int .i64 y.lo.num) ∧ wr.cell? ⟨b, o + (k - 1) * 8 + 1, none⟩ = some (.int .i64 y.lo.den) ∧ wr.cell? ⟨b, o + (k - 1) * 8 + 2, none⟩ = some (.int .i64 y.hi.num) ∧ wr.cell? ⟨b, o + (k - 1) * 8 + 3, none⟩ = some (.int .i64 y.hi.den) ∧ wr.cell? ⟨b, o + (k - 1) * 8 + 4, none⟩ = some (.bool y.loO) ∧ wr.cell? ⟨b, o + (k - 1) * 8 + 5, none⟩ = some (.bool y.hiO) ∧ wr.cell? ⟨b, o + (k - 1) * 8 + 6, none⟩ = some (.bool y.loI) ∧ wr.cell? ⟨b, o + (k - 1) * 8 + 7, none⟩ = some (.bool y.hiI) := fun h => by
        obtain ⟨b', o', e, q0, q1, q2, q3, q4, q5, q6, q7, -⟩ := hrow h
        cases e
        rw [hy h]
        exact ⟨q0, q1, q2, q3, q4, q5, q6, q7⟩
      clear hless hk1 hst hrow hy
      generalize lessE (hiE y) (loE l[k]) = lt at *
      generalize hiE y = hy at *
      generalize loE y = ly at *
      generalize loE l[k] = lx at *
      generalize hiE l[k] = ux at *
      unfold itA at hgood hends hendy
      generalize goodB l[k] = gd at *
      generalize l[k] = x at *
      clear hI
      obtain ⟨⟨p, q⟩, ⟨r, s⟩, lO, rO, lI, rI⟩ := x
      obtain ⟨⟨p', q'⟩, ⟨r', s'⟩, lO', hO', lI', hI'⟩ := y
      obtain ⟨f1, ⟨n1, d1⟩, t1⟩ := lx
      obtain ⟨f2, ⟨n2, d2⟩, t2⟩ := ux
      obtain ⟨f3, ⟨n3, d3⟩, t3⟩ := ly
      obtain ⟨f4, ⟨n4, d4⟩, t4⟩ := hy
      unfold enA at *
      dsimp only at *
      replace hgood := Lib.hid hgood
      replace hends := Lib.hid hends
      replace hendy := Lib.hid hendy
      replace hless' := Lib.hid hless'
      replace hk0 := Lib.hid hk0
      replace hk1' := Lib.hid hk1'
      replace hg0 := Lib.hid hg0
      replace hg1 := Lib.hid hg1
      replace hrow' := Lib.hid hrow'
      go_upto_region 4 with (fail)
      have hO := Proofs.YtcbmgajaaechjaaGreat.Own.new wr #[.int .i64 p, .int .i64 q, .int .i64 r, .int .i64 s, .bool lO, .bool rO, .bool lI, .bool rI] 117
      have hx1 := Ext.new wr (.cells #[.int .i64 p, .int .i64 q, .int .i64 r, .int .i64 s, .bool lO, .bool rO, .bool lI, .bool rI] 117)
      generalize wr.heap.size = b4 at *
      generalize wr.alloc _ = W at *
      have hE1 : Hid (setF none l = false → setE l = 1) := Lib.hid fun h => by rw [hE.out, if_pos h]
      replace hx := hx.then hx1
      obtain ⟨c0, f0⟩ := hO.facts
      have z0 := hO.lt
      go_wp2_with fail
      refine RetV_at (hgood.out _) ?_
      intro w2 hx2
      replace hO := hO.keep hx2
      replace hx := hx.then hx2
      have hx12 := hx1.then hx2
      clear c0 f0 z0 hx1 hx2 h0 h1 h2 h3 h4 h5 h6 h7
      obtain ⟨c0, f0⟩ := hO.facts
      have z0 := hO.lt
      cases gd with
      | false =>
        have h9 : Hid (setE l = 1) := Lib.hid (hE1.out (by rw [ho.out.1]; exact hg0.out rfl))
        go_wp2_with fail
        go_ret
        exact ⟨ret_int h9.out.symm, (by repeat (first | (with_reducible assumption) | (with_reducible exact Ext.rfl' _) | (with_reducible exact Ext.new _ _) | (with_reducible refine Ext.alloc' ?_ _) | (with_reducible refine Ext.drew' ?_) | (with_reducible refine Ext.drewN' ?_ _) | (with_reducible refine Ext.set' ?_ ?_ _; rotate_left; (focus (first | omega | (simp; done) | (simp; omega)))) | (with_reducible refine Ext.then (b := ?_) ?_ ?_; rotate_left; rotate_left; (with_reducible assumption))))⟩
      | true =>
        by_cases hk00 : k = 0
        · have h8 : Hid (setF none l = setF (prv l (k + 1)) (l.drop (k + 1)) ∧ ∀ x ∈ l.take (k + 1), goodB x = true) := Lib.hid ⟨by rw [ho.out.1]; exact hk0.out hk00 rfl, hg1.out rfl⟩
          have hkb : decide (0 < k) = false := by simpa using hk00
          clear hk0 hk1' hrow' hless'
          go_wp2_with fail
          go_roundw
          case rel => exact ⟨k + 1, by omega, by go_num, h8.out, hx⟩
          case measure => simp [intOf]; omega
        · have hkb : decide (0 < k) = true := by simp; omega
          have hkp : 0 < k := by omega
          have hkm : IntKind.i64.wrap ((k : Int) - 1) = ((k - 1 : Nat) : Int) := by rw [IntKind.wrap_i64]; omega
          obtain ⟨q0, q1, q2, q3, q4, q5, q6, q7⟩ := hrow'.out hkp
          replace q0 := hx12.cell1 q0
          replace q1 := hx12.cell1 q1
          replace q2 := hx12.cell1 q2
          replace q3 := hx12.cell1 q3
          replace q4 := hx12.cell1 q4
          replace q5 := hx12.cell1 q5
          replace q6 := hx12.cell1 q6
          replace q7 := hx12.cell1 q7
          clear hrow' hk0
          go_wp2_with fail
          refine RetV_at (hends.out _) ?_
          intro w3 hx3
          replace hx := hx.then hx3
          replace q0 := hx3.cell1 q0
          replace q1 := hx3.cell1 q1
          replace q2 := hx3.cell1 q2
          replace q3 := hx3.cell1 q3
          replace q4 := hx3.cell1 q4
          replace q5 := hx3.cell1 q5
          replace q6 := hx3.cell1 q6
          replace q7 := hx3.cell1 q7
          have z9 := cell_lt q0
          clear c0 f0 z0 hO hx3 hx12
          go_upto_region 8 with (fail)
          have k1 := (Proofs.YtcbmgajaaechjaaGreat.Own.new w3 #[.int .i64 f1, .int .i64 n1, .int .i64 d1, .bool t1] 137).alloc (.cells #[.int .i64 f2, .int .i64 n2, .int .i64 d2, .bool t2] 137)
          have hy3 := (Ext.new w3 (.cells #[.int .i64 f1, .int .i64 n1, .int .i64 d1, .bool t1] 137)).alloc' (.cells #[.int .i64 f2, .int .i64 n2, .int .i64 d2, .bool t2] 137)
          have z1 := k1.lt
          generalize hb5 : w3.heap.size = b5 at *
          generalize (w3.alloc _).alloc _ = W3 at *
          replace hx := hx.then hy3
          replace q0 := hy3.cell1 q0
          replace q1 := hy3.cell1 q1
          replace q2 := hy3.cell1 q2
          replace q3 := hy3.cell1 q3
          replace q4 := hy3.cell1 q4
          replace q5 := hy3.cell1 q5
          replace q6 := hy3.cell1 q6
          replace q7 := hy3.cell1 q7
          have z9' := cell_lt q0
          have hk1m : k - 1 < l.length := by omega
          clear z9 hy3 hb5
          go_wp2_with fail
          refine RetV_at (hendy.out _) ?_
          intro w4 hx4
          replace hx := hx.then hx4
          replace k1 := k1.keep hx4
          clear q0 q1 q2 q3 q4 q5 q6 q7 z9' z1 hx4
          go_upto_region 9 with (fail)
          have k2 := Proofs.YtcbmgajaaechjaaGreat.Own.new' (w4.alloc (.cells #[.int .i64 f3, .int .i64 n3, .int .i64 d3, .bool t3] 137)) #[.int .i64 f4, .int .i64 n4, .int .i64 d4, .bool t4] 137 (n := w4.heap.size + 1) (by simp)
          have k3 := (k1.alloc (.cells #[.int .i64 f3, .int .i64 n3, .int .i64 d3, .bool t3] 137)).alloc (.cells #[.int .i64 f4, .int .i64 n4, .int .i64 d4, .bool t4] 137)
          have hy4 := (Ext.new w4 (.cells #[.int .i64 f3, .int .i64 n3, .int .i64 d3, .bool t3] 137)).alloc' (.cells #[.int .i64 f4, .int .i64 n4, .int .i64 d4, .bool t4] 137)
          replace hx := hx.then hy4
          generalize w4.heap.size = b8 at *
          generalize (w4.alloc _).alloc _ = W4 at *
          obtain ⟨c2, f2'⟩ := k2.facts
          obtain ⟨c3, f3'⟩ := k3.facts
          have z2 := k2.lt
          have z3 := k3.lt
          clear hy4 k1 k2 k3
          go_wp2_with fail
          refine RetV_at (hless'.out hkp (by first | trivial | rfl) _) ?_
          intro w5 hx5
          have hs := hk1'.out hkp
          replace hx := hx.then hx5
          clear c2 f2' c3 f3' z2 z3 hx5
          cases lt with
          | false =>
            have h9 : Hid (setE l = 1) := Lib.hid (hE1.out (by rw [ho.out.1, hs]; rfl))
            clear hs
            go_wp2_with fail
            go_ret
            exact ⟨ret_int h9.out.symm, (by repeat (first | (with_reducible assumption) | (with_reducible exact Ext.rfl' _) | (with_reducible exact Ext.new _ _) | (with_reducible refine Ext.alloc' ?_ _) | (with_reducible refine Ext.drew' ?_) | (with_reducible refine Ext.drewN' ?_ _) | (with_reducible refine Ext.set' ?_ ?_ _; rotate_left; (focus (first | omega | (simp; done) | (simp; omega)))) | (with_reducible refine Ext.then (b := ?_) ?_ ?_; rotate_left; rotate_left; (with_reducible assumption))))⟩
          | true =>
            have h8 : Hid (setF none l = setF (prv l (k + 1)) (l.drop (k + 1)) ∧ ∀ x ∈ l.take (k + 1), goodB x = true) := Lib.hid ⟨by rw [ho.out.1, hs]; simp, hg1.out (by first | trivial | rfl)⟩
            clear hs
            go_wp2_with fail
            go_roundw
            case rel => exact ⟨k + 1, by omega, by go_num, h8.out, hx⟩
            case measure => simp [intOf]; omega
    · have hja : decide (k < l.length) = false := by simpa using hlt
      have hk2 : k = l.length := by omega
      have h9 : Hid (setE l = (fewE l).2) := Lib.hid (by
        have h1 := ho.out.1
        rw [hk2, List.drop_length] at h1
        rw [hE.out, if_neg (by rw [h1]; simp [setF])])
      go_wp2_with fail
      refine RetV_at (hfew.out _ (hr.mono mono_ItvR hx.ple)) ?_
      intro w2 hx2
      go_wp2_with fail
      go_ret
      exact ⟨ret_int h9.out.symm, (by repeat (first | (with_reducible assumption) | (with_reducible exact Ext.rfl' _) | (with_reducible exact Ext.new _ _) | (with_reducible refine Ext.alloc' ?_ _) | (with_reducible refine Ext.drew' ?_) | (with_reducible refine Ext.drewN' ?_ _) | (with_reducible refine Ext.set' ?_ ?_ _; rotate_left; (focus (first | omega | (simp; done) | (simp; omega)))) | (with_reducible refine Ext.then (b := ?_) ?_ ?_; rotate_left; rotate_left; (with_reducible assumption))))⟩
end Go.Proofs.YtcbmgajaaechjaaGreat
