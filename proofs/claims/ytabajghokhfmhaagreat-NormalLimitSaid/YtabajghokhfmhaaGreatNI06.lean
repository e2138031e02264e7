/- Lemmas for NI, part 7: slices.IndexFunc, ContainsFunc, Clone, IsSorted, Compact at []int, as package taxon calls them, and more. -/
import Derived.Deep.MidRow
import Derived.Deep.CutBlock
import Derived.Laws.MakeOwn
import Derived.Laws.EntriesVeiled
import Derived.Test.YtabajghokhfmhaaGreatNI00
import Derived.Test.YtabajghokhfmhaaGreatNI01
import Derived.Test.YtabajghokhfmhaaGreatNI05
set_option linter.unusedSimpArgs false
set_option linter.unusedVariables false
namespace Go.Proofs.YtabajghokhfmhaaGreat
open Go.RowKit Go.Shelf
theorem indexInt_J {H : PH} (fid : Nat) (cap : Array Value) (vs : Value) (xs : List Int) (hv : IntsR H vs xs) (R : Nat → World → Prop) (Rx : World → Prop) (w : World)
    (hfn : ∀ args w, (callFunc fid args).run Tryz.prog w = .ok (.enter fid args) w)
    (hf : ∀ k (h : k < xs.length) wr, R k wr → I64 xs[k] → Calls Tryz.prog fid (#[.int .i64 xs[k]] ++ cap) wr fun e w' => (e = .returned (.bool false) ∧ R (k + 1) w') ∨ (e = .returned (.bool true) ∧ Rx w'))
    (hr : ∀ k wr, R k wr → PLe H (ph wr)) (h0 : R 0 w) :
    Calls Tryz.prog 138 #[vs, .func (.func fid) #[] cap] w fun e w' => (e = .returned (.int .i64 (-1)) ∧ R xs.length w') ∨ (∃ i : Int, 0 ≤ i ∧ e = .returned (.int .i64 i) ∧ Rx w') := by
  obtain ⟨a, c, rfl, hlen, hv⟩ := hv.form
  have HF := Lib.hid hf; clear hf
  have HR := Lib.hid hr; clear hr
  go_enter Tryz.func138, Tryz.ntmps138
  go_wp2
  go_loopw [8] (fun i wr => ∃ k : Nat, k ≤ xs.length ∧ i = .int .i64 k ∧ R k wr) (fun i _ => xs.length - (intOf i).toNat)
  case atStart => exact ⟨0, Nat.zero_le _, rfl, h0⟩
  case round =>
    obtain ⟨k, hk, rfl, hR⟩ := hrel
    by_cases hlt : k < xs.length
    · obtain ⟨b, o, rfl, g0, hi, hbl⟩ := IntsR.at (hv.mono mono_IntR (HR.out _ _ hR)) k hlt
      go_wp2_with fail
      refine (HF.out k hlt _ hR hi).mono ?_
      rintro e w1 (⟨rfl, h1⟩ | ⟨rfl, h1⟩)
      · go_wp2_with fail
        go_roundw
        case rel => exact ⟨k + 1, by omega, by go_num, h1⟩
        case measure => simp [intOf]; omega
      · go_wp2_with fail
        go_ret
        exact .inr ⟨_, by omega, rfl, h1⟩
    · obtain rfl : k = xs.length := by omega
      go_wp2_with fail
      go_ret
      exact .inl ⟨rfl, hR⟩
theorem containsInt_J {H : PH} (fid : Nat) (cap : Array Value) (vs : Value) (xs : List Int) (hv : IntsR H vs xs) (R : Nat → World → Prop) (Rx : World → Prop) (w : World)
    (hfn : ∀ args w, (callFunc fid args).run Tryz.prog w = .ok (.enter fid args) w)
    (hf : ∀ k (h : k < xs.length) wr, R k wr → I64 xs[k] → Calls Tryz.prog fid (#[.int .i64 xs[k]] ++ cap) wr fun e w' => (e = .returned (.bool false) ∧ R (k + 1) w') ∨ (e = .returned (.bool true) ∧ Rx w'))
    (hr : ∀ k wr, R k wr → PLe H (ph wr)) (h0 : R 0 w) :
    Calls Tryz.prog 74 #[vs, .func (.func fid) #[] cap] w fun e w' => (e = .returned (.bool false) ∧ R xs.length w') ∨ (e = .returned (.bool true) ∧ Rx w') := by
  have HF := Lib.hid hf; clear hf
  have HR := Lib.hid hr; clear hr
  have HFN := Lib.hid hfn; clear hfn
  go_enter Tryz.func74, Tryz.ntmps74
  go_wp2_with fail
  refine (indexInt_J fid cap vs xs hv R Rx _ HFN.out HF.out HR.out h0).mono ?_
  rintro e w1 (⟨rfl, h1⟩ | ⟨i, hi, rfl, h1⟩)
  · go_wp2_with fail
    go_ret
    exact .inl ⟨rfl, h1⟩
  · go_wp2_with fail
    go_ret
    exact .inr ⟨rfl, h1⟩
theorem containsInt_P {H : PH} (fid : Nat) (cap : Array Value) (vs : Value) (xs : List Int) (hv : IntsR H vs xs) (p : Int → Bool) (w : World) (hH : PLe H (ph w))
    (hfn : ∀ args w, (callFunc fid args).run Tryz.prog w = .ok (.enter fid args) w)
    (hf : ∀ k (h : k < xs.length) wr, Ext w wr → I64 xs[k] → Calls Tryz.prog fid (#[.int .i64 xs[k]] ++ cap) wr (RetV wr (.bool (p xs[k])))) :
    Calls Tryz.prog 74 #[vs, .func (.func fid) #[] cap] w (RetV w (.bool (xs.any p))) := by
  refine (containsInt_J fid cap vs xs hv (fun k wr => Ext w wr ∧ ∀ x ∈ xs.take k, p x = false) (fun wr => Ext w wr ∧ xs.any p = true) w hfn (fun k hk wr hR hi => ?_) (fun k wr hR => hH.trans hR.1.ple) ⟨Ext.rfl' _, by simp⟩).mono ?_
  · refine (hf k hk wr hR.1 hi).mono ?_
    rintro e w1 ⟨rfl, hx⟩
    cases hp : p xs[k] with
    | true => exact .inr ⟨rfl, hR.1.then hx, List.any_eq_true.2 ⟨_, List.getElem_mem hk, hp⟩⟩
    | false =>
      refine .inl ⟨rfl, hR.1.then hx, fun x hxm => ?_⟩
      rw [List.take_succ_eq_append_getElem hk] at hxm
      rcases List.mem_append.1 hxm with h | h
      · exact hR.2 x h
      · rw [List.mem_singleton.1 h]; exact hp
  · rintro e w1 (⟨rfl, hx, h1⟩ | ⟨rfl, hx, h1⟩)
    · rw [List.take_length] at h1
      have : xs.any p = false := by
        rw [List.any_eq_false]; intro x hx; simp [h1 x hx]
      exact ⟨by rw [this], hx⟩
    · exact ⟨by rw [h1], hx⟩
theorem cloneI_c (xs : List Int) (v : Value) (w : World) (hr : IntsR (ph w) v xs) (hl : xs.length ≤ 1000000) : Calls Tryz.prog 87 #[v] w (fun e w' => ∃ v', e = .returned v' ∧ OwnI w.heap.size w' v' xs ∧ Ext w w') := by
  obtain ⟨a, c, rfl, -, hA⟩ := hr.form
  have hq := fun w => Lib.run_eql_slice_nil (P := Tryz.prog) w 22 3 a xs.length c 0 0 Tryz.underlying22
  cases a with
  | none =>
    have hx : xs = [] := by
      cases xs with
      | nil => rfl
      | cons x r =>
        obtain ⟨b, o, h, -⟩ := IntsR.at hA 0 (by simp)
        cases h
    subst hx
    simp only [List.length_nil, Option.isNone_none] at hq ⊢
    go_enter Tryz.func87, Tryz.ntmps87
    go_wp2_with fail
    go_ret
    exact ⟨_, rfl, OwnS.nil _ _ _ _ _ _, xE⟩
  | some ad =>
    have hM0 := ((Mem.start w noH (noH_le _)).new #[] 3).asOwn (xs := ([] : List Int)) (E := IntR) (sz := 1) 0 rfl mono_IntR (n := 0) (by simp) (by decide) rfl rfl
    simp only [List.nil_append, List.set_cons_zero] at hM0
    have hS := (Src.ofRep (w := w.alloc (.cells #[] 3)) (hA.mono mono_IntR (Ext.new _ _).ple) (PLe.refl _)).free (H' := noH) fun _ _ h => h
    clear hA
    simp only [Option.isNone_some] at hq
    go_enter Tryz.func87, Tryz.ntmps87
    go_wp2_with (first | (at_builtin; refine wpList_append_M 0 rfl _ _ 22 rfl Tryz.underlying22 infoInt rfl rfl rfl hM0 rfl hS one_IntR (by simp; omega) (by simp; omega) ?c5))
    case c5 =>
      intro v' w' hM
      try simp only [List.nil_append, List.set_cons_zero] at hM
      obtain ⟨na, nc, rfl, -⟩ := hM.form 0 rfl
      go_wp2_with fail
      go_ret
      exact ⟨_, rfl, hM.ownS 0 rfl, hM.ex⟩
def ascTx (l : List Int) : Prop := l.Pairwise (· < ·)
theorem ascTx_at {l : List Int} (h : ascTx l) {i j : Nat} (hij : i < j) (hj : j < l.length) : l[i]'(by omega) < l[j] := List.pairwise_iff_getElem.1 h i j (by omega) hj hij
theorem isNaNTx_c (x : Int) (w : World) : Calls Tryz.prog 204 #[.int .i64 x] w (RetV w (.bool false)) := by
  have h : (x != x) = false := by simp
  go_enter Tryz.func204, Tryz.ntmps204
  go_wp2_with fail
  go_ret
  exact ⟨rfl, xE⟩
theorem lessTx_c (x y : Int) (w : World) : Calls Tryz.prog 196 #[.int .i64 x, .int .i64 y] w (RetV w (.bool (decide (x < y)))) := by
  go_enter Tryz.func196, Tryz.ntmps196
  go_wp2_with fail
  refine RetV_at (isNaNTx_c x _) ?_
  intro w1 hx1
  go_wp2_with fail
  go_ret
  exact ⟨rfl, hx1⟩
theorem isSortedTx_c (l : List Int) (v : Value) (w : World) (hr : IntsR (ph w) v l) (ha : ascTx l) : Calls Tryz.prog 152 #[v] w (RetV w (.bool true)) := by
  obtain ⟨a, c, rfl, hlen, hr⟩ := hr.form
  go_enter Tryz.func152, Tryz.ntmps152
  go_wp2_with fail
  go_loopw [3] (fun i wr => ∃ k : Int, -1 ≤ k ∧ k < l.length ∧ i = .int .i64 k ∧ Ext w wr) (fun i _ => (intOf i).toNat)
  case atStart => exact ⟨(l.length : Int) - 1, by omega, by omega, by go_num, Ext.rfl' _⟩
  case round =>
    obtain ⟨k, hk0, hk, rfl, hx⟩ := hrel
    by_cases hlt : 0 < k
    · obtain ⟨n, rfl⟩ : ∃ n : Nat, k = (n : Int) + 1 := ⟨(k - 1).toNat, by omega⟩
      have hr' := hr.mono mono_IntR hx.ple
      obtain ⟨b, o, rfl, g0, i0, gl⟩ := IntsR.at hr' n (by omega)
      obtain ⟨b', o', he, g1, i1, -⟩ := IntsR.at hr' (n + 1) (by omega)
      cases he
      have hlt2 := ascTx_at ha (show n < n + 1 by omega) (by omega)
      have hw : IntKind.i64.wrap (n : Int) = n := by rw [IntKind.wrap_i64]; omega
      have hnl : n < l.length := by omega
      have hnl2 : n + 1 < l.length := by omega
      have hl := Lib.hid (fun W => lessTx_c l[n + 1] l[n] W)
      have hd : decide (l[n + 1] < l[n]) = false := by simp; omega
      rw [hd] at hl
      clear hd
      generalize l[n + 1] = y at *
      generalize l[n] = x at *
      clear hr hr' ha
      go_wp2_with fail
      (refine wp_region_I 10 (by kernel_rfl) (by kernel_rfl) ?_; simp only [List.toList_toArray, List.take_succ_cons, List.take_zero, List.drop_succ_cons, List.drop_zero])
      iterate 9 (refine wiA rfl (by simp) rfl ?_; (try simp only [List.nil_append, List.cons_append]))
      (refine walkI_is (u := ?_) rfl (by simp) rfl ?_ ?_; rotate_left; (focus (intro A w' hS hA K hK; (simp only [List.map_cons, List.map_nil, knows, Is, Op.operands, Call.operands, List.lookup_cons, List.lookup_nil, Nat.reduceBEq, Bool.false_eq_true, if_false, if_true, Act.eval, Array.getD_eq_getD_getElem?, List.getElem?_toArray, List.getElem?_cons_succ, List.getElem?_cons_zero, Option.getD_some, and_true, true_and, List.append_toArray, List.nil_append, List.cons_append, List.toList_toArray, Array.toList_append, Option.toArray, List.append_nil] at hA); first | (go_simp; refine (hl.out _).mono ?_; rintro e w6 ⟨rfl, hx6⟩; exact hK _ hx6) | (obtain ⟨hSc, hSf, hSs⟩ := hS.cells; go_simp; exact hK _ xN))); (try simp only [List.nil_append, List.cons_append]))
      (refine walkI_nil ?_; simp only [List.nil_append, List.cons_append, fins, Is, forall_eq, Act.put, List.setIfInBounds_toArray, List.set_cons_zero, List.set_cons_succ])
      intro w5 hx5
      go_wp2_with fail
      go_roundw
      case rel => exact ⟨n, by omega, by omega, rfl, hx.then hx5⟩
      case measure => simp [intOf]
    · have hd : decide (0 < k) = false := by simpa using hlt
      go_wp2_with fail
      go_ret
      exact ⟨rfl, hx⟩
theorem compactI_c (l : List Int) (v : Value) (w : World) (hr : IntsR (ph w) v l) (ha : ascTx l) : Calls Tryz.prog 153 #[v] w (RetV w v) := by
  obtain ⟨a, c, rfl, hlen, hr⟩ := hr.form
  by_cases h2 : l.length < 2
  · have b2 : decide ((l.length : Int) < 2) = true := by simp; omega
    go_enter Tryz.func153, Tryz.ntmps153
    go_wp2_with fail
    go_ret
    exact ⟨rfl, xE⟩
  · have b2 : decide ((l.length : Int) < 2) = false := by simp; omega
    go_enter Tryz.func153, Tryz.ntmps153
    go_wp2_with fail
    go_loopw [3] (fun i wr => ∃ k : Nat, 1 ≤ k ∧ k ≤ l.length ∧ i = .int .i64 k ∧ Ext w wr) (fun i _ => l.length - (intOf i).toNat)
    case atStart => exact ⟨1, by omega, by omega, by go_num, Ext.rfl' _⟩
    case round =>
      obtain ⟨k, hk0, hk, rfl, hx⟩ := hrel
      by_cases hlt : k < l.length
      · obtain ⟨n, rfl⟩ : ∃ n : Nat, k = n + 1 := ⟨k - 1, by omega⟩
        have hr' := hr.mono mono_IntR hx.ple
        obtain ⟨b, o, rfl, g0, i0, gl⟩ := IntsR.at hr' n (by omega)
        obtain ⟨b', o', he, g1, i1, -⟩ := IntsR.at hr' (n + 1) (by omega)
        cases he
        have hlt2 := ascTx_at ha (show n < n + 1 by omega) (by omega)
        have hw : IntKind.i64.wrap (n : Int) = n := by rw [IntKind.wrap_i64]; omega
        have hnl : n < l.length := by omega
        have hnl2 : n + 1 < l.length := by omega
        have hd : (l[n + 1] == l[n]) = false := by simp; omega
        generalize l[n + 1] = y at *
        generalize l[n] = x at *
        clear hr hr' ha
        go_wp2_with fail
        (refine wp_region_calm (S := fun w' => Ext _ w') (by kernel_rfl) (by kernel_rfl) (Ext.rfl' _).drew' ?_; (try simp only [List.toList_toArray]); (repeat (first | (refine walkF_skip ?_ ?_; (focus rfl); (try simp only [Act.put, List.setIfInBounds_toArray, List.set_cons_zero, List.set_cons_succ])) | (refine walkF_step (v := ?_) rfl ?_ ?_ ?_; rotate_left; (focus rfl); (focus (intro w' hS A hA K hK; (simp only [agrees, Op.operands, Call.operands, Act.eval, Array.getD_eq_getD_getElem?, List.getElem?_toArray, List.getElem?_cons_succ, List.getElem?_cons_zero, Option.getD_some, and_true, true_and, List.append_toArray, List.nil_append, List.cons_append, List.toList_toArray, Array.toList_append] at hA); (obtain ⟨hSc, hSf, hSs⟩ := hS.cells; go_simp; exact hK _ hS))); (try simp only [Act.put, List.setIfInBounds_toArray, List.set_cons_zero, List.set_cons_succ])))); refine walkF_nil ?_)
        intro w5 hx5
        go_wp2_with fail
        go_roundw
        case rel => exact ⟨n + 1 + 1, by omega, by omega, by go_num, hx.then hx5⟩
        case measure => simp [intOf]; omega
      · obtain rfl : k = l.length := by omega
        go_wp2_with fail
        go_ret
        exact ⟨rfl, hx⟩
theorem tincr_c (l : List Int) (v : Value) (w : World) (hr : IntsR (ph w) v l) (ha : ascTx l) (hl : l.length ≤ 1000000) : Calls Tryz.prog 86 #[v] w (RetV w (.bool true)) := by
  have hr0 := hr
  obtain ⟨a, c, rfl, hlen, hr⟩ := hr.form
  have hll : ((l.length : Int) == (l.length : Int)) = true := by simp
  go_enter Tryz.func86, Tryz.ntmps86
  go_wp2_with fail
  refine RetV_at (isSortedTx_c l _ _ hr0 ha) ?_
  intro w1 hx1
  go_wp2_with fail
  refine (cloneI_c l _ _ (hr0.mono mono_IntR hx1.ple) hl).mono ?_
  rintro e w2 ⟨v', rfl, ho, hx2⟩
  have hr2 := ho.rep mono_IntR (noH_le _)
  obtain ⟨b, d, rfl, -, hr2⟩ := hr2.form
  go_wp2_with fail
  refine RetV_at (compactI_c l _ _ hr2 ha) ?_
  intro w3 hx3
  go_wp2_with fail
  go_ret
  exact ⟨rfl, (hx1.then hx2).then hx3⟩
theorem within1_c (x n : Int) (b : Nat) (w : World) (hc : w.cell? ⟨b, 0, none⟩ = some (.int .i64 n)) : Calls Tryz.prog 151 #[.int .i64 x, .pointer (some ⟨b, 0, none⟩)] w (RetV w (.bool (decide (x < 0) || decide (n ≤ x)))) := by
  have hb := cell_lt hc
  by_cases h0 : x < 0
  · have b0 : decide (x < 0) = true := by simpa using h0
    go_enter Tryz.func151, Tryz.ntmps151
    go_wp2_with fail
    go_ret
    exact ⟨by simp [b0], xE⟩
  · have b0 : decide (x < 0) = false := by simpa using h0
    go_enter Tryz.func151, Tryz.ntmps151
    go_wp2_with fail
    go_ret
    exact ⟨by simp [b0], xE⟩
theorem within_c (n : Int) (l : List Int) (v : Value) (w : World) (hr : IntsR (ph w) v l) : Calls Tryz.prog 85 #[.int .i64 n, v] w (RetV w (.bool (!(l.any fun x => decide (x < 0) || decide (n ≤ x))))) := by
  have hr0 := hr
  obtain ⟨a, c, rfl, hlen, hr⟩ := hr.form
  go_enter Tryz.func85, Tryz.ntmps85
  go_wp2_with fail
  have hc : (w.alloc (.cells #[.int .i64 n] 3)).cell? ⟨w.heap.size, 0, none⟩ = some (.int .i64 n) := by rw [(Proofs.YtabajghokhfmhaaGreat.Own.new _ _ _).facts.1]; rfl
  refine RetV_at (containsInt_P 151 #[.pointer (some ⟨w.heap.size, 0, none⟩)] _ l hr0 (fun x => decide (x < 0) || decide (n ≤ x)) _ (Ext.new w _).ple (fun args w => enterFn Tryz.func151 rfl rfl args w) (fun k hk wr hx hi => within1_c _ n _ wr (hx.cell1 hc))) ?_
  intro w1 hx1
  go_wp2_with fail
  go_ret
  exact ⟨rfl, (Ext.new _ _).then hx1⟩
end Go.Proofs.YtabajghokhfmhaaGreat
namespace Go.Proofs.YtabajghokhfmhaaGreat
open Go.RowKit Go.Shelf
def boA (D : Nat → Bool) (n : Nat) : Array Value := ⟨(List.range n).map fun k => .bool (D k)⟩
def txA (pv : Value) (R : Nat → Bool) : Array Value := ⟨pv :: (List.range 4096).map fun k => .bool (R k)⟩
def updB (D : Nat → Bool) (k : Nat) (v : Bool) : Nat → Bool := fun j => if j = k then v else D j
theorem updB_same (D : Nat → Bool) (k : Nat) (v : Bool) : updB D k v k = v := by simp [updB]
theorem updB_ne (D : Nat → Bool) {k j : Nat} (v : Bool) (h : j ≠ k) : updB D k v j = D j := by simp [updB, h]
theorem boA_at {D : Nat → Bool} {n k : Nat} (h : k < n) : (boA D n)[k]? = some (.bool (D k)) := by simp [boA, h]
theorem boA_set {D : Nat → Bool} {n k : Nat} (v : Bool) : (boA D n).setIfInBounds k (.bool v) = boA (updB D k v) n := by
  apply Array.ext_getElem?
  intro i
  rw [Array.getElem?_setIfInBounds]
  by_cases h : k = i
  · subst h
    by_cases hk : k < n
    · simp [boA, hk, updB]
    · simp [boA, hk]
  · rw [if_neg h]
    by_cases hi : i < n
    · rw [boA_at hi, boA_at hi, updB_ne _ _ (Ne.symm h)]
    · simp [boA, hi]
theorem txA_0 (pv : Value) (R : Nat → Bool) : (txA pv R)[0]? = some pv := by simp [txA]
theorem txA_at {pv : Value} {R : Nat → Bool} {k : Nat} (h : k < 4096) : (txA pv R)[1 + k]? = some (.bool (R k)) := by
  rw [Nat.add_comm]; simp [txA, h]
theorem txA_set0 (pv u : Value) (R : Nat → Bool) : (txA pv R).setIfInBounds 0 u = txA u R := by simp [txA]
theorem txA_set {pv : Value} {R : Nat → Bool} {k : Nat} (v : Bool) : (txA pv R).setIfInBounds (1 + k) (.bool v) = txA pv (updB R k v) := by
  have h := boA_set (D := R) (n := 4096) (k := k) v
  unfold boA at h
  rw [List.setIfInBounds_toArray] at h
  have h2 := congrArg Array.toList h
  simp only at h2
  unfold txA
  rw [List.setIfInBounds_toArray, Nat.add_comm, List.set_cons_succ, h2]
theorem infoTx : (Tryz.prog.info? 147).map (fun i => (i.zero, i.size)) = some (some (.agg (txA (.slice none 0 0) fun _ => false)), 4097) := by kernel_rfl
theorem infoRowTx : (Tryz.prog.info? 144).map (fun i => i.size) = some 64 := by kernel_rfl
theorem run_buildTx (w : World) : (Instr.build 147 #[]).run Tryz.prog w = .ok (.agg (txA (.slice none 0 0) fun _ => false)) w := by
  have h := infoTx
  cases hq : Tryz.prog.info? 147 with
  | none => rw [hq] at h; cases h
  | some i =>
    rw [hq] at h
    simp only [Option.map_some, Option.some.injEq, Prod.mk.injEq] at h
    unfold Instr.build
    simp [zeroValue, typeInfo, hq, h.1, run_underlying (w := w) Tryz.underlying147, go_sem, Instr.fill, sizeOf]
    have h2 : (Tryz.prog.info? 24).isSome = true := by kernel_rfl
    have h3 : (Tryz.prog.info? 145).isSome = true := by kernel_rfl
    obtain ⟨j, hj⟩ := Option.isSome_iff_exists.1 h2
    obtain ⟨k, hk⟩ := Option.isSome_iff_exists.1 h3
    simp [hj, hk, go_sem]
theorem run_boxTx (c : Array Value) (w : World) : (Instr.box 147 (.agg c)).run Tryz.prog w = .ok (.pointer (some ⟨w.heap.size, 0, none⟩)) (w.alloc (.cells c 147)) := by
  unfold Instr.box newVar
  simp [go_sem, newRow]
def rowL (f : Nat → Bool) : List Value := (List.range 64).map fun k => .bool (f k)
theorem rowL_length (f : Nat → Bool) : (rowL f).length = 64 := by simp [rowL]
theorem rowL_at {f : Nat → Bool} {j : Nat} (h : j < 64) : (rowL f)[j]? = some (.bool (f j)) := by simp [rowL, h]
theorem rangeTx {w : World} {b o : Nat} {f : Nat → Bool} (h : ∀ j, j < 64 → w.cell? ⟨b, o + j, none⟩ = some (.bool (f j))) : w.rangeAt b o (rowL f) := fun j v hv => by
  have hj : j < 64 := by have := (List.getElem?_eq_some_iff.1 hv).1; rwa [rowL_length] at this
  rw [h j hj, ← hv, rowL_at hj]
theorem run_idxTx (f : Nat → Bool) (j : Nat) (hj : j < 64) (w : World) : (Instr.index 144 (.agg (rowL f).toArray) (.int .i64 j)).run Tryz.prog w = .ok (.bool (f j)) w := by
  unfold Instr.index
  have h1 : (j : Int) < 64 := by omega
  simp [Instr.index, run_underlying (w := w) Tryz.underlying144, asIntOf, hj, h1, go_sem, rowL_at hj]
inductive Rch (ps : List (List Int)) : Nat → Nat → Prop
  | refl (c : Nat) : Rch ps c c
  | step {c p d : Nat} {l : List Int} (hl : ps[c]? = some l) (hp : (p : Int) ∈ l) (h : Rch ps p d) : Rch ps c d
theorem rch_iff {ps : List (List Int)} {c d : Nat} : Rch ps c d ↔ c = d ∨ ∃ (l : List Int) (p : Nat), ps[c]? = some l ∧ (p : Int) ∈ l ∧ Rch ps p d := by
  constructor
  · rintro (_ | ⟨hl, hp, h⟩)
    · exact .inl rfl
    · exact .inr ⟨_, _, hl, hp, h⟩
  · rintro (rfl | ⟨l, p, hl, hp, h⟩)
    · exact .refl _
    · exact .step hl hp h
structure VInv (ps : List (List Int)) (D O R : Nat → Bool) : Prop where
  done : ∀ d, d < ps.length → D d = true → ∀ e, e < 64 → (R (d * 64 + e) = true ↔ Rch ps d e)
  dop : ∀ d, D d = true → O d = true
  fresh : ∀ d, d < ps.length → O d = false → ∀ e, e < 64 → R (d * 64 + e) = false
structure VPost (ps : List (List Int)) (D O R D' O' R' : Nat → Bool) : Prop where
  inv : VInv ps D' O' R'
  grow : ∀ d, D d = true → D' d = true
  way : ∀ d, (O' d = true ∧ D' d = false) ↔ (O d = true ∧ D d = false)
  same : ∀ d, d < ps.length → O d = true → ∀ e, e < 64 → R' (d * 64 + e) = R (d * 64 + e)
  open' : ∀ d, O d = true → O' d = true
def rowOr (R : Nat → Bool) (c p d : Nat) : Nat → Bool := fun i => if c * 64 ≤ i ∧ i < c * 64 + d then R i || R (p * 64 + (i - c * 64)) else R i
theorem rowOr_0 (R : Nat → Bool) (c p : Nat) : rowOr R c p 0 = R := by
  funext i; unfold rowOr; rw [if_neg (by omega)]
theorem rowOr_succ (R : Nat → Bool) (c p d : Nat) : updB (rowOr R c p d) (c * 64 + d) (R (c * 64 + d) || R (p * 64 + d)) = rowOr R c p (d + 1) := by
  funext i
  unfold updB rowOr
  by_cases h : i = c * 64 + d
  · subst h
    rw [if_pos rfl, if_pos (by omega), Nat.add_sub_cancel_left]
  · rw [if_neg h]
    by_cases h2 : c * 64 ≤ i ∧ i < c * 64 + d
    · rw [if_pos h2, if_pos (by omega)]
    · rw [if_neg h2, if_neg (by omega)]
theorem rowOr_at {R : Nat → Bool} {c p d : Nat} : rowOr R c p d (c * 64 + d) = R (c * 64 + d) := by
  unfold rowOr; rw [if_neg (by omega)]
theorem rowOr_c {R : Nat → Bool} {c p e : Nat} (he : e < 64) : rowOr R c p 64 (c * 64 + e) = (R (c * 64 + e) || R (p * 64 + e)) := by
  unfold rowOr; rw [if_pos (by omega), Nat.add_sub_cancel_left]
theorem rowOr_ne {R : Nat → Bool} {c p d n e : Nat} (hd : d ≠ c) (he : e < 64) (hn : n ≤ 64) : rowOr R c p n (d * 64 + e) = R (d * 64 + e) := by
  unfold rowOr; rw [if_neg (by omega)]
structure LInv (ps : List (List Int)) (c : Nat) (l : List Int) (k : Nat) (D O R D' O' R' : Nat → Bool) : Prop where
  inv : VInv ps D' O' R'
  grow : ∀ d, D d = true → D' d = true
  oc : O' c = true
  dc : D' c = false
  way : ∀ d, (O' d = true ∧ D' d = false) ↔ ((O d = true ∧ D d = false) ∨ d = c)
  same : ∀ d, d < ps.length → O d = true → ∀ e, e < 64 → R' (d * 64 + e) = R (d * 64 + e)
  open' : ∀ d, O d = true → O' d = true
  row : ∀ e, e < 64 → (R' (c * 64 + e) = true ↔ (c = e ∨ ∃ p : Nat, (p : Int) ∈ l.take k ∧ Rch ps p e))
theorem LInv.start {ps : List (List Int)} {c : Nat} {l : List Int} {D O R : Nat → Bool} (h : VInv ps D O R) (hc : c < ps.length) (hn : ps.length ≤ 64) (hO : O c = false) (hD : D c = false) : LInv ps c l 0 D O R D (updB O c true) (updB R (c * 64 + c) true) := by
  have hne : ∀ d, d < ps.length → d ≠ c → ∀ e, e < 64 → updB R (c * 64 + c) true (d * 64 + e) = R (d * 64 + e) := fun d hd hdc e he => updB_ne _ _ (by omega)
  refine ⟨⟨fun d hd hDd e he => ?_, fun d hd => ?_, fun d hd hOd e he => ?_⟩, fun _ h => h, updB_same _ _ _, hD, fun d => ?_, fun d hd hOd e he => ?_, fun d hd => ?_, fun e he => ?_⟩
  · rw [hne d hd (fun e => by rw [e, hD] at hDd; cases hDd) e he]; exact h.done d hd hDd e he
  · by_cases hdc : d = c
    · subst hdc; exact updB_same _ _ _
    · rw [updB_ne _ _ hdc]; exact h.dop d hd
  · have hdc : d ≠ c := fun e => by rw [e, updB_same] at hOd; cases hOd
    rw [updB_ne _ _ hdc] at hOd
    rw [hne d hd hdc e he]; exact h.fresh d hd hOd e he
  · by_cases hdc : d = c
    · subst hdc; simp [updB_same, hD]
    · rw [updB_ne _ _ hdc]; simp [hdc]
  · exact hne d hd (fun e => by rw [e, hO] at hOd; cases hOd) e he
  · by_cases hdc : d = c
    · subst hdc; exact updB_same _ _ _
    · rw [updB_ne _ _ hdc]; exact hd
  · by_cases hce : c = e
    · subst hce; simp [updB_same]
    · rw [updB_ne _ _ (by omega)]
      simp [h.fresh c hc hO e he, hce]
theorem LInv.step {ps : List (List Int)} {c p k : Nat} {l : List Int} {D O R D1 O1 R1 D2 O2 R2 : Nat → Bool} (h : LInv ps c l k D O R D1 O1 R1) (hv : VPost ps D1 O1 R1 D2 O2 R2) (hp : D2 p = true) (hc : c < ps.length) (hpn : p < ps.length) (hk : k < l.length) (hlk : l[k] = p) (hO : O c = false) :
    LInv ps c l (k + 1) D O R D2 O2 (rowOr R2 c p 64) := by
  have hdc : D2 c = false := ((hv.way c).2 ⟨h.oc, h.dc⟩).2
  have hpc : p ≠ c := fun e => by rw [e, hdc] at hp; cases hp
  have hO2 := hv.open' c h.oc
  refine ⟨⟨fun d hd hDd e he => ?_, hv.inv.dop, fun d hd hOd e he => ?_⟩, fun d hd => hv.grow d (h.grow d hd), hO2, hdc, fun d => by rw [hv.way, h.way], fun d hd hOd e he => ?_, fun d hd => hv.open' d (h.open' d hd), fun e he => ?_⟩
  · rw [rowOr_ne (fun e => by rw [e, hdc] at hDd; cases hDd) he (Nat.le_refl _)]; exact hv.inv.done d hd hDd e he
  · rw [rowOr_ne (fun e => by rw [e, hO2] at hOd; cases hOd) he (Nat.le_refl _)]; exact hv.inv.fresh d hd hOd e he
  · by_cases hdc' : d = c
    · subst hdc'
      rw [hO] at hOd; cases hOd
    · rw [rowOr_ne hdc' he (Nat.le_refl _), hv.same d hd (h.open' d hOd) e he, h.same d hd hOd e he]
  · rw [rowOr_c he, Bool.or_eq_true, hv.same c hc h.oc e he, h.row e he, hv.inv.done p hpn hp e he, List.take_succ_eq_append_getElem hk, hlk]
    constructor
    · rintro ((h1 | ⟨q, h1, h2⟩) | h1)
      · exact .inl h1
      · exact .inr ⟨q, List.mem_append_left _ h1, h2⟩
      · exact .inr ⟨p, by simp, h1⟩
    · rintro (h1 | ⟨q, h1, h2⟩)
      · exact .inl (.inl h1)
      · rcases List.mem_append.1 h1 with h3 | h3
        · exact .inl (.inr ⟨q, h3, h2⟩)
        · have : q = p := by have := List.mem_singleton.1 h3; omega
          subst this; exact .inr h2
theorem LInv.finish {ps : List (List Int)} {c : Nat} {l : List Int} {D O R D1 O1 R1 : Nat → Bool} (h : LInv ps c l l.length D O R D1 O1 R1) (hc : c < ps.length) (hl : ps[c]? = some l) (hO : O c = false) :
    VPost ps D O R (updB D1 c true) O1 R1 := by
  refine ⟨⟨fun d hd hDd e he => ?_, fun d hd => ?_, h.inv.fresh⟩, fun d hd => ?_, fun d => ?_, h.same, h.open'⟩
  · by_cases hdc : d = c
    · subst hdc
      rw [h.row e he, List.take_length, rch_iff]
      constructor
      · rintro (h1 | ⟨p, h1, h2⟩)
        · exact .inl h1
        · exact .inr ⟨l, p, hl, h1, h2⟩
      · rintro (h1 | ⟨l', p, h0, h1, h2⟩)
        · exact .inl h1
        · rw [hl] at h0; cases h0; exact .inr ⟨p, h1, h2⟩
    · rw [updB_ne _ _ hdc] at hDd; exact h.inv.done d hd hDd e he
  · by_cases hdc : d = c
    · subst hdc; exact h.oc
    · rw [updB_ne _ _ hdc] at hd; exact h.inv.dop d hd
  · by_cases hdc : d = c
    · subst hdc; exact updB_same _ _ _
    · rw [updB_ne _ _ hdc]; exact h.grow d hd
  · by_cases hdc : d = c
    · subst hdc; simp [updB_same, hO]
    · rw [updB_ne _ _ hdc, h.way]; simp [hdc]
end Go.Proofs.YtabajghokhfmhaaGreat
namespace Go.Proofs.YtabajghokhfmhaaGreat
open Go.RowKit Go.Shelf
def IntsRow (h : PH) (cs : List Value) (l : List Int) : Prop := ∃ v, cs = [v] ∧ IntsR h v l
theorem mono_IntsRow : Mono IntsRow := by
  rintro h h' cs x hl ⟨v, rfl, h1⟩
  exact ⟨v, rfl, h1.mono mono_IntR hl⟩
abbrev RowsR : PH → Value → List (List Int) → Prop := SliceRep IntsRow 1
theorem RowsR.at {H : PH} {w : World} {a : Option Addr} {n cap : Nat} {xss : List (List Int)} (hr : RowsR H (.slice a n cap) xss) (hl : PLe H (ph w)) (k : Nat) (hk : k < xss.length) :
    ∃ b o a4 c4, a = some ⟨b, o, none⟩ ∧ w.cell? ⟨b, o + k, none⟩ = some (.slice a4 xss[k].length c4) ∧ IntsR H (.slice a4 xss[k].length c4) xss[k] ∧ b < w.heap.size := by
  obtain ⟨b, o, cs, h1, h2, h3, v, rfl, h4⟩ := hr.get k hk
  obtain ⟨a4, c4, rfl, -, h4⟩ := h4.form
  have := cellAt_mono hl (h3 0 (by omega))
  rw [← cell_ph] at this
  exact ⟨b, o, a4, c4, h1, by simpa using this, h4, cell_lt (by simpa using this)⟩
abbrev vCap (gd go gt gv : Nat) : Array Value := #[.pointer (some ⟨gd, 0, none⟩), .pointer (some ⟨go, 0, none⟩), .pointer (some ⟨gt, 0, none⟩), .pointer (some ⟨gv, 0, none⟩)]
abbrev txCh (B dB oB gd go gt gv n : Nat) (pv : Value) (D O R : Nat → Bool) : List Chunk :=
  [box B (txA pv R) 147, box dB (boA D n) 4, box oB (boA O n) 4, box gd #[.slice (some ⟨dB, 0, none⟩) n n] 186, box go #[.slice (some ⟨oB, 0, none⟩) n n] 186,
    box gt #[.pointer (some ⟨B, 0, none⟩)] 23, box gv #[.func (.func 154) #[] (vCap gd go gt gv)] 136]
set_option maxRecDepth 100000 in
set_option maxHeartbeats 4000000 in
theorem visit_c {ps : List (List Int)} {pa : Option Addr} {pc : Nat} {H0 H : PH} (w0 : World) (B dB oB gd go gt gv : Nat) (hn : ps.length ≤ 64) (hin : ∀ (c : Nat) (l : List Int), ps[c]? = some l → ∀ p ∈ l, 0 ≤ p ∧ p < ps.length)
    (rk : Nat → Nat) (hrk : ∀ (c : Nat) (l : List Int) (p : Nat), ps[c]? = some l → (p : Int) ∈ l → rk p < rk c) (hrows : RowsR H (.slice pa ps.length pc) ps) (m : Nat) :
    ∀ c, rk c = m → c < ps.length → ∀ D O R w, Mem w0 H0 (txCh B dB oB gd go gt gv ps.length (.slice pa ps.length pc) D O R) H w → VInv ps D O R → (∀ d, O d = true → D d = false → rk c < rk d) →
      Calls Tryz.prog 154 #[.int .i64 c, .pointer (some ⟨gd, 0, none⟩), .pointer (some ⟨go, 0, none⟩), .pointer (some ⟨gt, 0, none⟩), .pointer (some ⟨gv, 0, none⟩)] w
        fun e w' => e = .returned (.bool true) ∧ ∃ D' O' R', Mem w0 H0 (txCh B dB oB gd go gt gv ps.length (.slice pa ps.length pc) D' O' R') H w' ∧ VPost ps D O R D' O' R' ∧ D' c = true := by
  induction m using Nat.strongRecOn with
  | ind m ih =>
    intro c hrc hc D O R w hM hI hway
    have HI := Lib.hid ih; clear ih
    have g3 : w.cell? ⟨gd, 0, none⟩ = some (Value.slice (some ⟨dB, 0, none⟩) ps.length ps.length) := (hM.box 3 rfl).facts.1 0
    have l3 := (hM.box 3 rfl).lt
    have l1 := (hM.box 1 rfl).lt
    have d1 : w.cell? ⟨dB, c, none⟩ = some (.bool (D c)) := by rw [(hM.box 1 rfl).facts.1, boA_at hc]
    cases hDc : D c with
    | true =>
      rw [hDc] at d1
      go_enter Tryz.func154, Tryz.ntmps154
      go_wp2_with fail
      go_ret
      exact ⟨rfl, D, O, R, hM, ⟨hI, fun _ h => h, fun _ => Iff.rfl, fun _ _ _ _ _ => rfl, fun _ h => h⟩, hDc⟩
    | false =>
      have hOc : O c = false := by
        cases h : O c with
        | false => rfl
        | true => have := hway c h hDc; omega
      rw [hDc] at d1
      have g4 : w.cell? ⟨go, 0, none⟩ = some (Value.slice (some ⟨oB, 0, none⟩) ps.length ps.length) := (hM.box 4 rfl).facts.1 0
      have l4 := (hM.box 4 rfl).lt
      have l2 := (hM.box 2 rfl).lt
      have d2 : w.cell? ⟨oB, c, none⟩ = some (.bool false) := by rw [(hM.box 2 rfl).facts.1, boA_at hc, hOc]
      have f2 : w.frozen? ⟨oB, c, none⟩ = false := (hM.box 2 rfl).facts.2 c
      have hM1 := hM.set 2 rfl c (.bool true)
      rw [boA_set] at hM1
      simp only [List.set_cons_succ, List.set_cons_zero] at hM1
      go_enter Tryz.func154, Tryz.ntmps154
      go_upto_region 4 with (fail)
      generalize World.setCell _ _ _ = w1 at *
      clear g3 l3 l1 d1 g4 l4 l2 d2 f2 hM
      have g5 : w1.cell? ⟨gt, 0, none⟩ = some (Value.pointer (some ⟨B, 0, none⟩)) := (hM1.box 5 rfl).facts.1 0
      have l5 := (hM1.box 5 rfl).lt
      have l0 := (hM1.box 0 rfl).lt
      have d0 : w1.cell? ⟨B, 1 + c * 64 + c, none⟩ = some (.bool (R (c * 64 + c))) := by rw [(hM1.box 0 rfl).facts.1, Nat.add_assoc, txA_at (by omega)]
      have f0 : w1.frozen? ⟨B, 1 + c * 64 + c, none⟩ = false := (hM1.box 0 rfl).facts.2 _
      have hM2 := hM1.set 0 rfl (1 + (c * 64 + c)) (.bool true)
      rw [txA_set] at hM2
      simp only [List.set_cons_succ, List.set_cons_zero] at hM2
      rw [← Nat.add_assoc] at hM2
      have hc64 : c < 64 := by omega
      go_upto_region 5 with (fail)
      generalize World.setCell _ _ _ = w2 at *
      clear g5 l5 l0 d0 f0 hM1
      have hL0 := LInv.start (l := ps[c]) hI hc hn hOc hDc
      have hl0 : ps[c]? = some ps[c] := List.getElem?_eq_getElem hc
      obtain ⟨rb, ro, ra, rc, e0, gr, hR, lr⟩ := hrows.at hM2.ple c hc
      cases e0
      have hinl := hin c _ hl0
      have hrkl := fun p => hrk c _ p hl0
      generalize hps : ps[c] = l at *
      have g5 : w2.cell? ⟨gt, 0, none⟩ = some (Value.pointer (some ⟨B, 0, none⟩)) := (hM2.box 5 rfl).facts.1 0
      have l5 := (hM2.box 5 rfl).lt
      have l0 := (hM2.box 0 rfl).lt
      have d0 : w2.cell? ⟨B, 0, none⟩ = some (.slice (some ⟨rb, ro, none⟩) ps.length pc) := by rw [(hM2.box 0 rfl).facts.1, txA_0]
      replace hl0 := Lib.hid hl0
      clear hps
      have hll : l.length ≤ 9223372036854775807 := by obtain ⟨_, _, _, h, -⟩ := hR.form; exact h
      go_wp2_with fail
      go_loopw [43] (fun i wr => ∃ (k : Nat) (D1 O1 R1 : Nat → Bool), k ≤ l.length ∧ i = .int .i64 k ∧ Mem w0 H0 (txCh B dB oB gd go gt gv ps.length (.slice (some ⟨rb, ro, none⟩) ps.length pc) D1 O1 R1) H wr ∧ Hid (LInv ps c l k D O R D1 O1 R1)) (fun i _ => l.length - (intOf i).toNat)
      case atStart => exact ⟨0, D, _, _, by omega, rfl, hM2, Lib.hid hL0⟩
      case round =>
        clear hM2 hL0 g5 l5 l0 d0 gr lr
        obtain ⟨k, D1, O1, R1, hk, rfl, hM, hL⟩ := hrel
        by_cases hlt : k < l.length
        · obtain ⟨b2, o2, rfl, gp, ip, lp⟩ := IntsR.at (hR.mono mono_IntR hM.ple) k hlt
          obtain ⟨hp0, hp1⟩ := hinl _ (List.getElem_mem hlt)
          obtain ⟨q, hq⟩ : ∃ q : Nat, l[k] = (q : Int) := ⟨l[k].toNat, by omega⟩
          have hqm : (q : Int) ∈ l := by rw [← hq]; exact List.getElem_mem hlt
          have hqr := hrkl q hqm
          have hq64 : q < ps.length := by omega
          rw [hq] at gp
          have gv0 : wr.cell? ⟨gv, 0, none⟩ = some (Value.func (.func 154) #[] (vCap gd go gt gv)) := (hM.box 6 rfl).facts.1 0
          have lv0 := (hM.box 6 rfl).lt
          have hfn := fun args w => enterFn Tryz.func154 rfl rfl args w
          replace hq := Lib.hid hq
          clear hp0 hp1 hqm
          go_wp2_with fail
          refine (HI.out (rk q) (by omega) q rfl hq64 D1 O1 R1 wr hM hL.out.inv (fun d h1 h2 => ?_)).mono ?_
          · rcases (hL.out.way d).1 ⟨h1, h2⟩ with ⟨h3, h4⟩ | rfl
            · have := hway d h3 h4; omega
            · exact hqr
          rintro e w3 ⟨rfl, D2, O2, R2, hM2, hV, hDq⟩
          have hLs := Lib.hid (LInv.step hL.out hV hDq hc hq64 hlt hq.out hOc)
          clear hM gp ip lp gv0 lv0 hfn hL hV hDq
          have g5 : w3.cell? ⟨gt, 0, none⟩ = some (Value.pointer (some ⟨B, 0, none⟩)) := (hM2.box 5 rfl).facts.1 0
          have l5 := (hM2.box 5 rfl).lt
          have l0 := (hM2.box 0 rfl).lt
          have hq64' : q < 64 := by omega
          have hrow : w3.rangeAt B (1 + q * 64) (rowL fun j => R2 (q * 64 + j)) := rangeTx fun j hj => by rw [(hM2.box 0 rfl).facts.1, Nat.add_assoc, txA_at (by omega)]
          go_upto_region 10 with (fail)
          go_wp2_with (refine wpList_load_mid (by rfl) 144 (.tmp 55) (by rfl) B (1 + q * 64) (by rfl) _ _ hrow Tryz.underlying144 rfl (by rw [infoRowTx, rowL_length]) ?_)
          clear g5 l5 l0 hrow
          go_loopw [57] (fun i wx => ∃ (d : Nat), d ≤ 64 ∧ i = .int .i64 d ∧ Mem w0 H0 (txCh B dB oB gd go gt gv ps.length (.slice (some ⟨rb, ro, none⟩) ps.length pc) D2 O2 (rowOr R2 c q d)) H wx) (fun i _ => 64 - (intOf i).toNat)
          case atStart => exact ⟨0, by omega, rfl, by rw [rowOr_0]; exact hM2⟩
          case round =>
            clear hM2
            obtain ⟨d, hd, rfl, hM⟩ := hrel
            by_cases hlt2 : d < 64
            · have hix := fun w => run_idxTx (fun j => R2 (q * 64 + j)) d hlt2 w
              have g5 : wr.cell? ⟨gt, 0, none⟩ = some (Value.pointer (some ⟨B, 0, none⟩)) := (hM.box 5 rfl).facts.1 0
              have l5 := (hM.box 5 rfl).lt
              have l0 := (hM.box 0 rfl).lt
              have d0 : wr.cell? ⟨B, 1 + c * 64 + d, none⟩ = some (.bool (R2 (c * 64 + d))) := by rw [(hM.box 0 rfl).facts.1, Nat.add_assoc, txA_at (by omega), rowOr_at]
              go_upto_region 13 with (fail)
              cases hv : R2 (c * 64 + d) with
              | true =>
                rw [hv] at d0
                have hcT : ((c : Int) < 64) = True := eq_true (by omega)
                have hdT : ((d : Int) < 64) = True := eq_true (by omega)
                (refine wp_region_I 18 (by kernel_rfl) (by kernel_rfl) ?_; simp only [List.toList_toArray, List.take_succ_cons, List.take_zero, List.drop_succ_cons, List.drop_zero])
                iterate 12 (refine wiA rfl (by simp) rfl ?_; (try simp only [List.nil_append, List.cons_append]))
                (refine walkI_no rfl (by simp) rfl rfl rfl ?_ ?_; (focus (simp [undef]; done)); (try simp only [List.nil_append, List.cons_append]))
                iterate 5 (refine wiA rfl (by simp) rfl ?_; (try simp only [List.nil_append, List.cons_append]))
                (refine walkI_nil ?_; simp only [List.nil_append, List.cons_append, fins, Is, forall_eq, Act.put, List.setIfInBounds_toArray, List.set_cons_zero, List.set_cons_succ])
                intro w5 hx5
                replace hM := hM.ext hx5
                have hM3 := hM.set 0 rfl (1 + (c * 64 + d)) (.bool (R2 (c * 64 + d) || R2 (q * 64 + d)))
                rw [txA_set, rowOr_succ] at hM3
                simp only [List.set_cons_zero] at hM3
                rw [← Nat.add_assoc] at hM3
                rw [hv] at hM3
                simp only [Bool.true_or, Bool.false_or] at hM3
                have l0 := (hM.box 0 rfl).lt
                have d0 : w5.cell? ⟨B, 1 + c * 64 + d, none⟩ = some (.bool (R2 (c * 64 + d))) := by rw [(hM.box 0 rfl).facts.1, Nat.add_assoc, txA_at (by omega), rowOr_at]
                have f0 : w5.frozen? ⟨B, 1 + c * 64 + d, none⟩ = false := (hM.box 0 rfl).facts.2 _
                clear hM g5 l5
                go_wp2_with fail
                go_roundw
                case rel => exact ⟨d + 1, by omega, by go_num, hM3⟩
                case measure => simp [intOf]; omega
              | false =>
                rw [hv] at d0
                have hcT : ((c : Int) < 64) = True := eq_true (by omega)
                have hdT : ((d : Int) < 64) = True := eq_true (by omega)
                (refine wp_region_I 18 (by kernel_rfl) (by kernel_rfl) ?_; simp only [List.toList_toArray, List.take_succ_cons, List.take_zero, List.drop_succ_cons, List.drop_zero])
                iterate 12 (refine wiA rfl (by simp) rfl ?_; (try simp only [List.nil_append, List.cons_append]))
                (refine wyA rfl (by simp) rfl rfl rfl ?_; (try simp only [List.nil_append, List.cons_append]))
                iterate 5 (refine wiA rfl (by simp) rfl ?_; (try simp only [List.nil_append, List.cons_append]))
                (refine walkI_nil ?_; simp only [List.nil_append, List.cons_append, fins, Is, forall_eq, Act.put, List.setIfInBounds_toArray, List.set_cons_zero, List.set_cons_succ])
                intro w5 hx5
                replace hM := hM.ext hx5
                have hM3 := hM.set 0 rfl (1 + (c * 64 + d)) (.bool (R2 (c * 64 + d) || R2 (q * 64 + d)))
                rw [txA_set, rowOr_succ] at hM3
                simp only [List.set_cons_zero] at hM3
                rw [← Nat.add_assoc] at hM3
                rw [hv] at hM3
                simp only [Bool.true_or, Bool.false_or] at hM3
                have l0 := (hM.box 0 rfl).lt
                have d0 : w5.cell? ⟨B, 1 + c * 64 + d, none⟩ = some (.bool (R2 (c * 64 + d))) := by rw [(hM.box 0 rfl).facts.1, Nat.add_assoc, txA_at (by omega), rowOr_at]
                have f0 : w5.frozen? ⟨B, 1 + c * 64 + d, none⟩ = false := (hM.box 0 rfl).facts.2 _
                clear hM g5 l5
                go_wp2_with fail
                go_roundw
                case rel => exact ⟨d + 1, by omega, by go_num, hM3⟩
                case measure => simp [intOf]; omega
            · obtain rfl : d = 64 := by omega
              go_wp2_with fail
              go_roundw
              case rel => exact ⟨k + 1, D2, O2, _, by omega, by go_num, hM, hLs⟩
              case measure => simp [intOf]; omega
        · obtain rfl : k = l.length := by omega
          have g3 : wr.cell? ⟨gd, 0, none⟩ = some (Value.slice (some ⟨dB, 0, none⟩) ps.length ps.length) := (hM.box 3 rfl).facts.1 0
          have l3 := (hM.box 3 rfl).lt
          have l1 := (hM.box 1 rfl).lt
          have d1 : wr.cell? ⟨dB, c, none⟩ = some (.bool (D1 c)) := by rw [(hM.box 1 rfl).facts.1, boA_at hc]
          have f1 : wr.frozen? ⟨dB, c, none⟩ = false := (hM.box 1 rfl).facts.2 c
          have hM3 := hM.set 1 rfl c (.bool true)
          rw [boA_set] at hM3
          simp only [List.set_cons_succ, List.set_cons_zero] at hM3
          have hfin := Lib.hid (hL.out.finish hc hl0.out hOc)
          clear hM
          go_wp2_with fail
          go_ret
          exact ⟨rfl, _, O1, R1, hM3, hfin.out, updB_same _ _ _⟩
end Go.Proofs.YtabajghokhfmhaaGreat
namespace Go.Proofs.YtabajghokhfmhaaGreat
open Go.RowKit Go.Shelf
theorem Mem.fillN {w0 w w' : World} {H0 H : PH} {L : List Chunk} (h : Mem w0 H0 L H w) (i : Nat) (hi : L[i]? = some nop) (e : Ext w w') {g : Nat} {c : Array Value} {T : TypeId} (ho : Own w' g c T) (hg : w.heap.size ≤ g) : Mem w0 H0 (L.set i (Proofs.YtabajghokhfmhaaGreat.box g c T)) H w' :=
  h.put i hi (c' := Proofs.YtabajghokhfmhaaGreat.box g c T) ho (fun k hk => .inr (by cases hk; exact hg)) (h.ex.then e) fun k hk _ => e.block k hk
abbrev noB : Nat → Bool := fun _ => false
theorem made_bool (n : Nat) : madeCells #[.bool false] n = boA noB n := by
  apply Array.ext_getElem?
  intro i
  by_cases h : i < n
  · rw [boA_at h]; simp [madeCells, h, Nat.mod_one]
  · simp [madeCells, boA, h]
theorem run_mkB (n : Nat) (hn : n ≤ 64) (w : World) : (Instr.makeSlice 186 (.int .i64 n) (.int .i64 n)).run Tryz.prog w = .ok (.slice (some ⟨w.heap.size, 0, none⟩) n n) (w.alloc (.cells (boA noB n) 4)) := by
  have h : (Tryz.prog.info? 4).map (fun i => (i.zero, i.size, i.bytes)) = some (some (.bool false), 1, 1) := by kernel_rfl
  cases hq : Tryz.prog.info? 4 with
  | none => rw [hq] at h; cases h
  | some i =>
    rw [hq] at h
    simp only [Option.map_some, Option.some.injEq, Prod.mk.injEq] at h
    have := run_makeSlice (P := Tryz.prog) w 186 4 i (.bool false) Tryz.underlying186 hq h.1 .i64 .i64 n n (by omega) (by omega) (by rw [h.2.1]; omega) (by rw [h.2.2]; omega) (by omega)
    rw [this, h.2.1]
    simp [Value.cells, made_bool]
theorem dnN {a b : Bool} (h : a = true → b = true) (hb : b = false) : a = false := by
  cases a with
  | false => rfl
  | true => rw [h rfl] at hb; cases hb
def FiJ (w0 w1 : World) (H0 H : PH) (B gt n : Nat) (rv : Value) : Qj.Inv := fun dn s wx => ∃ b0 b1 b2 b3 : Nat,
  Mem w0 H0 [box B (txA rv noB) 147, box gt #[.pointer (some ⟨B, 0, none⟩)] 23, if dn 5 then box b0 (boA noB n) 4 else nop, if dn 11 then box b1 (boA noB n) 4 else nop, if dn 12 then box b2 #[if dn 14 then .slice (some ⟨b0, 0, none⟩) n n else .slice none 0 0] 186 else nop, if dn 13 then box b3 #[if dn 15 then .slice (some ⟨b1, 0, none⟩) n n else .slice none 0 0] 186 else nop] H wx ∧
  (dn 5 = true → s 12 = .slice (some ⟨b0, 0, none⟩) n n) ∧ (dn 11 = true → s 18 = .slice (some ⟨b1, 0, none⟩) n n) ∧ (dn 12 = true → s 3 = .pointer (some ⟨b2, 0, none⟩) ∧ w1.heap.size ≤ b2) ∧ (dn 13 = true → s 4 = .pointer (some ⟨b3, 0, none⟩) ∧ w1.heap.size ≤ b3) ∧
  (dn 14 = true → dn 5 = true ∧ dn 12 = true) ∧ (dn 15 = true → dn 11 = true ∧ dn 13 = true)
set_option maxRecDepth 100000 in
set_option maxHeartbeats 4000000 in
theorem fill_c {ps : List (List Int)} {pa : Option Addr} {pc : Nat} {H0 H : PH} (w0 : World) (B : Nat) (hn0 : 0 < ps.length) (hn : ps.length ≤ 64) (hin : ∀ (c : Nat) (l : List Int), ps[c]? = some l → ∀ p ∈ l, 0 ≤ p ∧ p < ps.length)
    (rk : Nat → Nat) (hrk : ∀ (c : Nat) (l : List Int) (p : Nat), ps[c]? = some l → (p : Int) ∈ l → rk p < rk c) (hrows : RowsR H (.slice pa ps.length pc) ps) (w : World) (hM : Mem w0 H0 [box B (txA (.slice pa ps.length pc) noB) 147] H w) :
    Calls Tryz.prog 88 #[.pointer (some ⟨B, 0, none⟩)] w fun e w' => e = .returned (.bool true) ∧ ∃ R, Mem w0 H0 [box B (txA (.slice pa ps.length pc) R) 147] H w' ∧ ∀ c, c < ps.length → ∀ e, e < 64 → (R (c * 64 + e) = true ↔ Rch ps c e) := by
  obtain ⟨rb, ro, ra, rc, rfl, -⟩ := hrows.at hM.ple 0 hn0
  have hM1 := hM.new' #[.pointer (some ⟨B, 0, none⟩)] 23 (n := w.heap.size) rfl
  simp only [List.cons_append, List.nil_append] at hM1
  clear hM
  go_enter Tryz.func88, Tryz.ntmps88
  go_upto_region 1 with (fail)
  generalize w.alloc _ = w1 at *
  generalize hgt : w.heap.size = gt at *
  clear hgt
  have g5 : w1.cell? ⟨gt, 0, none⟩ = some (Value.pointer (some ⟨B, 0, none⟩)) := (hM1.box 1 rfl).facts.1 0
  have l5 := (hM1.box 1 rfl).lt
  have l0 := (hM1.box 0 rfl).lt
  have d0 : w1.cell? ⟨B, 0, none⟩ = some (.slice (some ⟨rb, ro, none⟩) ps.length pc) := by rw [(hM1.box 0 rfl).facts.1, txA_0]
  have hmk := fun w => run_mkB ps.length hn w
  clear hmk
  have hmk := fun w => run_mkB ps.length hn w
  go_cut [3, 4] (fun va vb wx => ∃ (b0 b1 b2 b3 : Nat), va = .pointer (some ⟨b2, 0, none⟩) ∧ vb = .pointer (some ⟨b3, 0, none⟩) ∧ Mem w0 H0 [box B (txA (.slice (some ⟨rb, ro, none⟩) ps.length pc) noB) 147, box gt #[.pointer (some ⟨B, 0, none⟩)] 23, box b0 (boA noB ps.length) 4, box b1 (boA noB ps.length) 4, box b2 #[.slice (some ⟨b0, 0, none⟩) ps.length ps.length] 186, box b3 #[.slice (some ⟨b1, 0, none⟩) ps.length ps.length] 186] H wx)
  case first =>
    go_upto_region 1 with (fail)
    have hI0 := (hM1.ext (Ext.rfl' w1).drew').pick [0, 1, 7, 8, 9, 10] (by decide)
    simp only [List.map_cons, List.map_nil, List.getElem?_cons_succ, List.getElem?_cons_zero, List.getElem?_nil, Option.getD_some, Option.getD_none] at hI0
    (refine Qj.wp_region_J 16 (FiJ w0 w1 H0 H B gt ps.length (.slice (some ⟨rb, ro, none⟩) ps.length pc)) (Ext.rfl' _) (by kernel_rfl) (by kernel_rfl) (⟨0, 0, 0, 0, hI0, by simp, by simp, by simp, by simp, by simp, by simp⟩) ?_; simp only [List.toList_toArray, List.take_succ_cons, List.take_zero, List.drop_succ_cons, List.drop_zero])
    clear hI0 hM1
    iterate 5 (refine Qj.walkI_is (u := ?_) rfl (by simp) rfl (fun dn s w h => h) ?_ ?_; rotate_left; (focus (intro A w' dn hS hJ hdn hA K hK; (try simp only [List.map_cons, List.map_nil, Qj.knows, Qj.Is, Qj.Any, Op.operands, Call.operands, List.lookup_cons, List.lookup_nil, Nat.reduceBEq, Bool.false_eq_true, if_false, if_true, Act.eval, Array.getD_eq_getD_getElem?, List.getElem?_toArray, List.getElem?_cons_succ, List.getElem?_cons_zero, Option.getD_some, and_true, true_and, List.append_toArray, List.nil_append, List.cons_append, List.toList_toArray, Array.toList_append, Option.toArray, List.append_nil] at hA); (obtain ⟨hSc, hSf, hSs⟩ := hS.cells; go_simp; exact hK))); (try simp only [List.nil_append, List.cons_append]))
    (refine Qj.walkI_step rfl (by simp) rfl ?_ ?_; (focus (intro A w' dn hS hJ hd0 hdn hA K hK; (try simp only [List.map_cons, List.map_nil, Qj.knows, Qj.Is, Qj.Any, Op.operands, Call.operands, List.lookup_cons, List.lookup_nil, Nat.reduceBEq, Bool.false_eq_true, if_false, if_true, Act.eval, Array.getD_eq_getD_getElem?, List.getElem?_toArray, List.getElem?_cons_succ, List.getElem?_cons_zero, Option.getD_some, and_true, true_and, List.append_toArray, List.nil_append, List.cons_append, List.toList_toArray, Array.toList_append, Option.toArray, List.append_nil] at hA); (obtain ⟨b0, b1, b2, b3, i, j5, j11, j12, j13, j14, j15⟩ := hJ; have d5 : dn 5 = false := hd0; have d14 : dn 14 = false := dnN (fun h => (j14 h).1) d5; rw [d5, d14] at i; have i2 := i.fillN 2 rfl (Ext.new w' (.cells (boA noB ps.length) 4)) (Own.new w' (boA noB ps.length) 4) (Nat.le_refl _); go_simp; exact hK _ _ (hS.alloc' _) ⟨w'.heap.size, b1, b2, b3, by simpa [Qj.upd, d14] using i2, fun _ => rfl, j11, j12, j13, (fun h => absurd h (by show ¬ (dn 14 = true); rw [d14]; decide)), j15⟩))); (try simp only [List.nil_append, List.cons_append]))
    iterate 5 (refine Qj.walkI_is (u := ?_) rfl (by simp) rfl (fun dn s w h => h) ?_ ?_; rotate_left; (focus (intro A w' dn hS hJ hdn hA K hK; (try simp only [List.map_cons, List.map_nil, Qj.knows, Qj.Is, Qj.Any, Op.operands, Call.operands, List.lookup_cons, List.lookup_nil, Nat.reduceBEq, Bool.false_eq_true, if_false, if_true, Act.eval, Array.getD_eq_getD_getElem?, List.getElem?_toArray, List.getElem?_cons_succ, List.getElem?_cons_zero, Option.getD_some, and_true, true_and, List.append_toArray, List.nil_append, List.cons_append, List.toList_toArray, Array.toList_append, Option.toArray, List.append_nil] at hA); (obtain ⟨hSc, hSf, hSs⟩ := hS.cells; go_simp; exact hK))); (try simp only [List.nil_append, List.cons_append]))
    (refine Qj.walkI_step rfl (by simp) rfl ?_ ?_; (focus (intro A w' dn hS hJ hd0 hdn hA K hK; (try simp only [List.map_cons, List.map_nil, Qj.knows, Qj.Is, Qj.Any, Op.operands, Call.operands, List.lookup_cons, List.lookup_nil, Nat.reduceBEq, Bool.false_eq_true, if_false, if_true, Act.eval, Array.getD_eq_getD_getElem?, List.getElem?_toArray, List.getElem?_cons_succ, List.getElem?_cons_zero, Option.getD_some, and_true, true_and, List.append_toArray, List.nil_append, List.cons_append, List.toList_toArray, Array.toList_append, Option.toArray, List.append_nil] at hA); (obtain ⟨b0, b1, b2, b3, i, j5, j11, j12, j13, j14, j15⟩ := hJ; have d5 : dn 11 = false := hd0; have d14 : dn 15 = false := dnN (fun h => (j15 h).1) d5; rw [d5, d14] at i; have i2 := i.fillN 3 rfl (Ext.new w' (.cells (boA noB ps.length) 4)) (Own.new w' (boA noB ps.length) 4) (Nat.le_refl _); go_simp; exact hK _ _ (hS.alloc' _) ⟨b0, w'.heap.size, b2, b3, by simpa [Qj.upd, d14] using i2, j5, fun _ => rfl, j12, j13, j14, (fun h => absurd h (by show ¬ (dn 15 = true); rw [d14]; decide))⟩))); (try simp only [List.nil_append, List.cons_append]))
    (refine Qj.walkI_step rfl (by simp) rfl ?_ ?_; (focus (intro A w' dn hS hJ hd0 hdn hA K hK; (try simp only [List.map_cons, List.map_nil, Qj.knows, Qj.Is, Qj.Any, Op.operands, Call.operands, List.lookup_cons, List.lookup_nil, Nat.reduceBEq, Bool.false_eq_true, if_false, if_true, Act.eval, Array.getD_eq_getD_getElem?, List.getElem?_toArray, List.getElem?_cons_succ, List.getElem?_cons_zero, Option.getD_some, and_true, true_and, List.append_toArray, List.nil_append, List.cons_append, List.toList_toArray, Array.toList_append, Option.toArray, List.append_nil] at hA); (obtain ⟨b0, b1, b2, b3, i, j5, j11, j12, j13, j14, j15⟩ := hJ; have d5 : dn 12 = false := hd0; have d14 : dn 14 = false := dnN (fun h => (j14 h).2) d5; rw [d5, d14] at i; have i2 := i.fillN 4 rfl (Ext.new w' (.cells #[.slice none 0 0] 186)) (Own.new w' #[.slice none 0 0] 186) (Nat.le_refl _); go_simp; exact hK _ _ (hS.alloc' _) ⟨b0, b1, w'.heap.size, b3, by simpa [Qj.upd, d14] using i2, j5, j11, fun _ => ⟨rfl, hS.size⟩, j13, (fun h => absurd h (by show ¬ (dn 14 = true); rw [d14]; decide)), j15⟩))); (try simp only [List.nil_append, List.cons_append]))
    (refine Qj.walkI_step rfl (by simp) rfl ?_ ?_; (focus (intro A w' dn hS hJ hd0 hdn hA K hK; (try simp only [List.map_cons, List.map_nil, Qj.knows, Qj.Is, Qj.Any, Op.operands, Call.operands, List.lookup_cons, List.lookup_nil, Nat.reduceBEq, Bool.false_eq_true, if_false, if_true, Act.eval, Array.getD_eq_getD_getElem?, List.getElem?_toArray, List.getElem?_cons_succ, List.getElem?_cons_zero, Option.getD_some, and_true, true_and, List.append_toArray, List.nil_append, List.cons_append, List.toList_toArray, Array.toList_append, Option.toArray, List.append_nil] at hA); (obtain ⟨b0, b1, b2, b3, i, j5, j11, j12, j13, j14, j15⟩ := hJ; have d5 : dn 13 = false := hd0; have d14 : dn 15 = false := dnN (fun h => (j15 h).2) d5; rw [d5, d14] at i; have i2 := i.fillN 5 rfl (Ext.new w' (.cells #[.slice none 0 0] 186)) (Own.new w' #[.slice none 0 0] 186) (Nat.le_refl _); go_simp; exact hK _ _ (hS.alloc' _) ⟨b0, b1, b2, w'.heap.size, by simpa [Qj.upd, d14] using i2, j5, j11, j12, fun _ => ⟨rfl, hS.size⟩, j14, (fun h => absurd h (by show ¬ (dn 15 = true); rw [d14]; decide))⟩))); (try simp only [List.nil_append, List.cons_append]))
    (refine Qj.walkI_none 1000 (by rfl) (by exact Nat.le_of_ble_eq_true rfl) (by rfl) ?_ ?_; (focus (intro A w' dn hS hJ hd0 hdn hA K hK; (try simp only [List.map_cons, List.map_nil, Qj.knows, Qj.Is, Qj.Any, Op.operands, Call.operands, List.lookup_cons, List.lookup_nil, Nat.reduceBEq, Bool.false_eq_true, if_false, if_true, Act.eval, Array.getD_eq_getD_getElem?, List.getElem?_toArray, List.getElem?_cons_succ, List.getElem?_cons_zero, Option.getD_some, and_true, true_and, List.append_toArray, List.nil_append, List.cons_append, List.toList_toArray, Array.toList_append, Option.toArray, List.append_nil] at hA); (obtain ⟨b0, b1, b2, b3, i, j5, j11, j12, j13, j14, j15⟩ := hJ; have d14 : dn 14 = false := hd0; have d5 : dn 5 = true := hdn 5 (List.contains_iff_mem.1 (by kernel_rfl)); have d12 : dn 12 = true := hdn 12 (List.contains_iff_mem.1 (by kernel_rfl)); obtain ⟨e3, h3⟩ := j12 d12; have e12 := j5 d5; unfold Qj.sl at e3 e12; simp only [Array.getD_eq_getD_getElem?] at e3 e12; have i1 := i; rw [d5, d12, d14] at i1; have l2 := (i1.box 4 rfl).lt; have f2 := (i1.box 4 rfl).facts.2 0; have c2 : _ = some (Value.slice none 0 0) := (i1.box 4 rfl).facts.1 0; have i2 := i1.set 4 rfl 0 (.slice (some ⟨b0, 0, none⟩) ps.length ps.length); go_simp; exact hK _ (hS.set' (p := ⟨b2, 0, none⟩) h3 _) ⟨b0, b1, b2, b3, by simpa [Qj.upd, d5, d12] using i2, j5, j11, j12, j13, fun _ => ⟨d5, d12⟩, j15⟩))); (try simp only [List.nil_append, List.cons_append]))
    (refine Qj.walkI_none 1000 (by rfl) (by exact Nat.le_of_ble_eq_true rfl) (by rfl) ?_ ?_; (focus (intro A w' dn hS hJ hd0 hdn hA K hK; (try simp only [List.map_cons, List.map_nil, Qj.knows, Qj.Is, Qj.Any, Op.operands, Call.operands, List.lookup_cons, List.lookup_nil, Nat.reduceBEq, Bool.false_eq_true, if_false, if_true, Act.eval, Array.getD_eq_getD_getElem?, List.getElem?_toArray, List.getElem?_cons_succ, List.getElem?_cons_zero, Option.getD_some, and_true, true_and, List.append_toArray, List.nil_append, List.cons_append, List.toList_toArray, Array.toList_append, Option.toArray, List.append_nil] at hA); (obtain ⟨b0, b1, b2, b3, i, j5, j11, j12, j13, j14, j15⟩ := hJ; have d14 : dn 15 = false := hd0; have d5 : dn 11 = true := hdn 11 (List.contains_iff_mem.1 (by kernel_rfl)); have d12 : dn 13 = true := hdn 13 (List.contains_iff_mem.1 (by kernel_rfl)); obtain ⟨e3, h3⟩ := j13 d12; have e12 := j11 d5; unfold Qj.sl at e3 e12; simp only [Array.getD_eq_getD_getElem?] at e3 e12; have i1 := i; rw [d5, d12, d14] at i1; have l2 := (i1.box 5 rfl).lt; have f2 := (i1.box 5 rfl).facts.2 0; have c2 : _ = some (Value.slice none 0 0) := (i1.box 5 rfl).facts.1 0; have i2 := i1.set 5 rfl 0 (.slice (some ⟨b1, 0, none⟩) ps.length ps.length); go_simp; exact hK _ (hS.set' (p := ⟨b3, 0, none⟩) h3 _) ⟨b0, b1, b2, b3, by simpa [Qj.upd, d5, d12] using i2, j5, j11, j12, j13, j14, fun _ => ⟨d5, d12⟩⟩))); (try simp only [List.nil_append, List.cons_append]))
    (refine Qj.walkI_nil ?_; simp only [List.nil_append, List.cons_append, Qj.fins, Qj.Is, Qj.Any, forall_eq, true_implies, Act.put, List.setIfInBounds_toArray, List.set_cons_zero, List.set_cons_succ, List.set_nil, forall_const])
    intro w5 hx5 v12 v18 v3 v4 hJ
    obtain ⟨b0, b1, b2, b3, i, -, -, j12, j13, -, -⟩ := hJ
    have e3 : v3 = .pointer (some ⟨b2, 0, none⟩) := (j12 rfl).1
    have e4 : v4 = .pointer (some ⟨b3, 0, none⟩) := (j13 rfl).1
    subst e3 e4
    go_wp2_with fail
    go_meet
    case rel => exact ⟨b0, b1, b2, b3, rfl, rfl, i⟩
  case rest =>
  obtain ⟨b0, b1, b2, b3, rfl, rfl, hM⟩ := hcut
  clear hM1 hmk g5 l5 l0 d0
  have hM2 := hM.new' #[.nilFunc] 136 (n := wc.heap.size) rfl
  simp only [List.cons_append, List.nil_append] at hM2
  go_upto_region 3 with (fail)
  generalize wc.alloc _ = w3 at *
  generalize wc.heap.size = gv at *
  have g6 : w3.cell? ⟨gv, 0, none⟩ = some Value.nilFunc := (hM2.box 6 rfl).facts.1 0
  have f6 := (hM2.box 6 rfl).facts.2 0
  have l6 := (hM2.box 6 rfl).lt
  have hM3 := hM2.set 6 rfl 0 (.func (.func 154) #[] (vCap b2 b3 gt gv))
  simp only [List.set_cons_succ, List.set_cons_zero, List.setIfInBounds_toArray] at hM3
  clear hM hM2
  go_upto_region 4 with (fail)
  generalize World.setCell _ _ _ = w4 at *
  clear g6 f6 l6
  have hM4 := hM3.pick [0, 2, 3, 4, 5, 1, 6] (by decide)
  simp only [List.map_cons, List.map_nil, List.getElem?_cons_succ, List.getElem?_cons_zero, Option.getD_some] at hM4
  clear hM3
  have g5 : w4.cell? ⟨gt, 0, none⟩ = some (Value.pointer (some ⟨B, 0, none⟩)) := (hM4.box 5 rfl).facts.1 0
  have l5 := (hM4.box 5 rfl).lt
  have l0 := (hM4.box 0 rfl).lt
  have d0 : w4.cell? ⟨B, 0, none⟩ = some (.slice (some ⟨rb, ro, none⟩) ps.length pc) := by rw [(hM4.box 0 rfl).facts.1, txA_0]
  have hi0 : VInv ps noB noB noB := ⟨fun _ _ h => (by simp at h), fun _ h => (by simp at h), fun _ _ _ _ _ => rfl⟩
  go_wp2_with fail
  go_loopw [25] (fun i wr => ∃ (k : Nat) (D O R : Nat → Bool), k ≤ ps.length ∧ i = .int .i64 k ∧ Mem w0 H0 (txCh B b0 b1 b2 b3 gt gv ps.length (.slice (some ⟨rb, ro, none⟩) ps.length pc) D O R) H wr ∧ Hid (VInv ps D O R ∧ (∀ d, O d = true → D d = false → False) ∧ ∀ d, d < k → D d = true)) (fun i _ => ps.length - (intOf i).toNat)
  case atStart => exact ⟨0, noB, noB, noB, by omega, rfl, hM4, Lib.hid ⟨hi0, fun _ h => (by simp at h), fun _ h => by omega⟩⟩
  case round =>
    clear hM4 g5 l5 l0 d0 hi0
    obtain ⟨k, D, O, R, hk, rfl, hM, hI⟩ := hrel
    by_cases hlt : k < ps.length
    · have gv0 : wr.cell? ⟨gv, 0, none⟩ = some (Value.func (.func 154) #[] (vCap b2 b3 gt gv)) := (hM.box 6 rfl).facts.1 0
      have lv0 := (hM.box 6 rfl).lt
      have hfn := fun args w => enterFn Tryz.func154 rfl rfl args w
      go_wp2_with fail
      refine (visit_c w0 B b0 b1 b2 b3 gt gv hn hin rk hrk hrows (rk k) k rfl hlt D O R wr hM hI.out.1 (fun d h1 h2 => (hI.out.2.1 d h1 h2).elim)).mono ?_
      rintro e w5 ⟨rfl, D2, O2, R2, hM2, hV, hDk⟩
      clear hM gv0 lv0 hfn
      go_wp2_with fail
      go_roundw
      case rel =>
        refine ⟨k + 1, D2, O2, R2, by omega, by go_num, hM2, Lib.hid ⟨hV.inv, fun d h1 h2 => ?_, fun d hd => ?_⟩⟩
        · have := (hV.way d).1 ⟨h1, h2⟩; exact hI.out.2.1 d this.1 this.2
        · by_cases hdk : d = k
          · rw [hdk]; exact hDk
          · exact hV.grow d (hI.out.2.2 d (by omega))
      case measure => simp [intOf]; omega
    · obtain rfl : k = ps.length := by omega
      go_wp2_with fail
      go_ret
      exact ⟨rfl, R, hM.pick [0] (by decide), fun c hc e he => hI.out.1.done c hc (hI.out.2.2 c hc) e he⟩
end Go.Proofs.YtabajghokhfmhaaGreat
namespace Go.Proofs.YtabajghokhfmhaaGreat
open Go.RowKit Go.Shelf
theorem wpList_buildTx {ops : Array Oper} {rest : List Oper} {op : Oper} {a : Act} {w : World} {Q : Exit → Act → World → Prop} (hgd : op.guard = none) (ho : op.op = .build 147 #[])
    (h : wpList Tryz.prog ops Q rest (a.put op.dst (.agg (txA (.slice none 0 0) noB))) w) : wpList Tryz.prog ops Q (op :: rest) a w :=
  wpList_plain hgd fun K hK => by
    unfold Oper.wp execOp
    have hb := run_buildTx w
    simp only [ho, Array.map_empty, Sem.run_bind, Sem.run_pure, Result.andThen_ok, hb]
    exact hK _ _ h
theorem wpList_boxTx {ops : Array Oper} {rest : List Oper} {op : Oper} {a : Act} {w : World} {Q : Exit → Act → World → Prop} (hgd : op.guard = none) (x : Operand) (ho : op.op = .box 147 x) (c : Array Value) (hx : a.eval x = .agg c)
    (h : wpList Tryz.prog ops Q rest (a.put op.dst (.pointer (some ⟨w.heap.size, 0, none⟩))) (w.alloc (.cells c 147))) : wpList Tryz.prog ops Q (op :: rest) a w :=
  wpList_plain hgd fun K hK => by
    unfold Oper.wp execOp
    have hb := run_boxTx c w
    simp only [ho, hx, Sem.run_bind, Sem.run_pure, Result.andThen_ok, hb]
    exact hK _ _ h
def TaxR (w : World) (B : Nat) (ps : List (List Int)) : Prop := ∃ (pa : Option Addr) (pc : Nat) (R : Nat → Bool), w.cell? ⟨B, 0, none⟩ = some (.slice pa ps.length pc) ∧ (∀ k, k < 4096 → w.cell? ⟨B, 1 + k, none⟩ = some (.bool (R k))) ∧ ∀ c, c < ps.length → ∀ e, e < 64 → (R (c * 64 + e) = true ↔ Rch ps c e)
theorem TaxR.keep {w w' : World} {B : Nat} {ps : List (List Int)} (h : TaxR w B ps) (e : Ext w w') : TaxR w' B ps := by
  obtain ⟨pa, pc, R, h1, h2, h3⟩ := h
  exact ⟨pa, pc, R, e.cell1 h1, fun k hk => e.cell1 (h2 k hk), h3⟩
structure ParOk (ps : List (List Int)) (rk : Nat → Nat) : Prop where
  pos : 0 < ps.length
  le : ps.length ≤ 64
  inc : ∀ l ∈ ps, ascTx l ∧ l.length ≤ 64
  inn : ∀ (c : Nat) (l : List Int), ps[c]? = some l → ∀ p ∈ l, 0 ≤ p ∧ p < ps.length
  rk : ∀ (c : Nat) (l : List Int) (p : Nat), ps[c]? = some l → (p : Int) ∈ l → rk p < rk c
theorem infoRowsTx : (Tryz.prog.info? 22).map (fun i => (i.zero, i.size, i.bytes)) = some (some (.slice none 0 0), 1, 24) := by kernel_rfl
theorem one_IntsRow {h : PH} : ∀ cs x, IntsRow h cs x → ∀ u ∈ cs, u.oneCell' = true := by
  rintro cs x ⟨v, rfl, hv⟩ u hu
  obtain ⟨a, c, rfl, -⟩ := hv.form
  rw [List.mem_singleton.1 hu]; rfl
def NewTxP (w : World) (ps : List (List Int)) (e : Ending) (w' : World) : Prop := ∃ B, e = .returned (.tuple #[.pointer (some ⟨B, 0, none⟩), .int .i64 0]) ∧ Ext w w' ∧ TaxR w' B ps
set_option maxRecDepth 100000 in
set_option maxHeartbeats 4000000 in
theorem newTx_c {ps : List (List Int)} {rk : Nat → Nat} (ok : ParOk ps rk) (vp : Value) (w : World) (hr : RowsR (ph w) vp ps) : Calls Tryz.prog 37 #[vp] w (NewTxP w ps) := by
  obtain ⟨pa, pc, rfl, -, hr⟩ := hr.form
  have hn := ok.le
  have hn0 := ok.pos
  have hM0 := ((Mem.start w (ph w) (fun _ _ h => h)).new' (txA (.slice none 0 0) noB) 147 (n := w.heap.size) rfl).nil mono_IntsRow 1 22
  simp only [List.cons_append, List.nil_append] at hM0
  have b64 : decide (64 < (ps.length : Int)) = false := by simp; omega
  go_enter Tryz.func37, Tryz.ntmps37
  go_upto_region 4 with (fail)
  go_wp2_with (first | (refine wpList_buildTx (by rfl) (by rfl) ?_) | (refine wpList_boxTx (by rfl) (.tmp 12) (by rfl) _ (by rfl) ?_))
  generalize w.alloc _ = w1 at *
  generalize w.heap.size = B at *
  go_loopw [16] (fun i wr => ∃ (k : Nat) (v : Value) (out : List (List Int)) (H : PH), k ≤ ps.length ∧ i = .int .i64 k ∧ Hid (out = ps.take k) ∧ Mem w (ph w) [box B (txA v noB) 147, own mono_IntsRow 1 22 v out] H wr) (fun i _ => ps.length - (intOf i).toNat)
  case atStart => exact ⟨0, _, [], _, by omega, rfl, Lib.hid rfl, hM0⟩
  case round =>
    clear hM0
    obtain ⟨k, v, out, H, hk, rfl, hout, hM⟩ := hrel
    have hol : out.length ≤ 64 := by rw [hout.out, List.length_take]; omega
    obtain ⟨va, vc, rfl, -⟩ := hM.form 1 rfl
    by_cases hlt : k < ps.length
    · obtain ⟨rb, ro, ra, rc, rfl, gr, hR, lr⟩ := RowsR.at hr (hM.le.trans hM.ple) k hlt
      have hl0 : ps[k]? = some ps[k] := List.getElem?_eq_getElem hlt
      obtain ⟨hasc, hlen⟩ := ok.inc _ (List.getElem_mem hlt)
      have hinl := ok.inn k _ hl0
      have htk := List.take_succ_eq_append_getElem hlt
      replace htk := Lib.hid htk
      generalize ps[k] = l at *
      replace hl0 := Lib.hid hl0
      have hwi := within_c (ps.length : Int) l (.slice ra l.length rc) wr (hR.mono mono_IntR (hM.le.trans hM.ple))
      have hany : (l.any fun x => decide (x < 0) || decide ((ps.length : Int) ≤ x)) = false := by
        rw [List.any_eq_false]; intro x hx; have := hinl x hx; simp; omega
      rw [hany] at hwi
      have hR' := hR.mono mono_IntR (hM.le.trans hM.ple)
      clear hinl hany
      go_wp2_with fail
      refine RetV_at hwi ?_
      intro w2 hx2
      go_wp2_with fail
      refine RetV_at (tincr_c l _ w2 (hR'.mono mono_IntR hx2.ple) hasc (by omega)) ?_
      intro w3 hx3
      have hx23 := hx2.then hx3
      replace hM := hM.ext hx23
      have hRw := hR'.mono mono_IntR hx23.ple
      clear hwi hx2 hx3 hx23 hR'
      have l0 := (hM.box 0 rfl).lt
      have d0 : w3.cell? ⟨B, 0, none⟩ = some (.slice va out.length vc) := by rw [(hM.box 0 rfl).facts.1, txA_0]
      go_upto_region 10 with (fail)
      refine wp_region_any (by kernel_rfl) ?_
      change wpAny _ _ _ _ _ _ _ (World.drew _)
      replace hM := hM.ext (Ext.rfl' w3).drew'
      clear l0 d0 hRw gr lr
      generalize World.drew w3 = w4 at *
      have l0 := (hM.box 0 rfl).lt
      have d0 : w4.cell? ⟨B, 0, none⟩ = some (.slice va out.length vc) := by rw [(hM.box 0 rfl).facts.1, txA_0]
      refine wpAny_take (i := 0) rfl tA tA tA (fun _ _ _ h => h) (Or.inl ⟨by rfl, yA⟩) ?_; try simp only [Act.put, List.setIfInBounds_toArray, List.set_cons_zero, List.set_cons_succ]
      refine wpAny_take (i := 1) rfl tA tA tA (fun _ _ _ h => h) (Or.inl ⟨by rfl, yA⟩) ?_; try simp only [Act.put, List.setIfInBounds_toArray, List.set_cons_zero, List.set_cons_succ]
      refine wpAny_take (i := 2) rfl tA tA tA (fun _ _ _ h => h) (Or.inl ⟨by rfl, yA⟩) ?_; try simp only [Act.put, List.setIfInBounds_toArray, List.set_cons_zero, List.set_cons_succ]
      refine wpAny_take (i := 3) rfl tA tA tA (fun _ _ _ h => h) (Or.inl ⟨by rfl, yA⟩) ?_; try simp only [Act.put, List.setIfInBounds_toArray, List.set_cons_zero, List.set_cons_succ]
      refine wpAny_take (i := 5) rfl tA tA tA (fun _ _ _ h => h) (Or.inl ⟨by rfl, yA⟩) ?_; try simp only [Act.put, List.setIfInBounds_toArray, List.set_cons_zero, List.set_cons_succ]
      refine wpAny_ready (rs := [4, 6]) (by kernel_rfl) (by simp) ?_
      refine AllReady.cons rfl (fun K hK => ?_) (AllReady.cons rfl (fun K hK => ?_) AllReady.nil)
      · skip
        go_simp
        refine hK _ _ ?_
        clear hK K
        refine wpAny_ready (rs := [6]) (by kernel_rfl) (by simp) ?_
        refine AllReady.cons rfl (fun K hK => ?_) AllReady.nil
        go_simp
        refine (cloneI_c l _ _ (hR.mono mono_IntR (hM.le.trans hM.ple)) (by omega)).mono ?_
        rintro e w5 ⟨v5, rfl, ho5, hx5⟩
        refine hK _ _ ?_
        clear hK K
        have hI5 : IntsR (up H w4 w5) v5 l := (ho5.repUp mono_IntR (Nat.le_refl _) (noH_le _)).mono mono_IntR (up_mono (noH_le H))
        replace hM := hM.up hx5
        generalize up H w4 w5 = H5 at *
        clear ho5 hx5 l0 d0
        obtain ⟨a5, c5, rfl, -, hI5⟩ := hI5.form
        have l0 := (hM.box 0 rfl).lt
        have d0 : w5.cell? ⟨B, 0, none⟩ = some (.slice va out.length vc) := by rw [(hM.box 0 rfl).facts.1, txA_0]
        refine wpAny_ready (rs := [7]) (by kernel_rfl) (by simp) ?_
        refine AllReady.cons rfl (fun K hK => ?_) AllReady.nil
        go_simp
        refine hK _ _ ?_
        clear hK K
        have ho6 := Own.new w5 #[.slice a5 l.length c5] 22
        replace hM := hM.ext (Ext.new w5 (.cells #[.slice a5 l.length c5] 22))
        clear l0 d0
        generalize w5.alloc _ = w6 at *
        generalize w5.heap.size = b6 at *
        have l0 := (hM.box 0 rfl).lt
        have d0 : w6.cell? ⟨B, 0, none⟩ = some (.slice va out.length vc) := by rw [(hM.box 0 rfl).facts.1, txA_0]
        refine wpAny_ready (rs := [8]) (by kernel_rfl) (by simp) ?_
        refine AllReady.cons rfl (fun K hK => ?_) AllReady.nil
        have hS := Src.lit1 (H := H5) (E := IntsRow) (sz := 1) (w := w6) (b := b6) (x := l) (cs := [.slice a5 l.length c5]) ⟨_, rfl, hI5⟩ rfl (fun j => by rw [ho6.facts.1]; simp)
        refine oper_append_M (hm := mono_IntsRow) (v := .slice va out.length vc) (xs := out) (ys := [l]) 1 _ _ 24 rfl Tryz.underlying24 infoRowsTx rfl rfl rfl hM rfl hS one_IntsRow (by simp; omega) (by simp; omega) ?_
        intro v7 w7 hM7 hgr7
        refine hK _ _ ?_
        clear hK K
        try simp only [List.set_cons_zero, List.set_cons_succ] at hM7
        have hout2 : Hid (out ++ [l] = ps.take (k + 1)) := by show _ = _; rw [htk.out, hout.out]
        generalize out ++ [l] = out2 at *
        clear hM hS ho6 l0 d0
        obtain ⟨na, nc, rfl, -⟩ := hM7.form 1 rfl
        have l0 := (hM7.box 0 rfl).lt
        have d0 : w7.cell? ⟨B, 0, none⟩ = some (.slice va out.length vc) := by rw [(hM7.box 0 rfl).facts.1, txA_0]
        have f0 := (hM7.box 0 rfl).facts.2 0
        have hM8 := hM7.set 0 rfl 0 (.slice na out2.length nc)
        rw [txA_set0] at hM8
        simp only [List.set_cons_zero] at hM8
        clear hM7
        refine wpAny_take (i := 9) rfl tA tA tA (fun _ _ _ h => h) (Or.inl ⟨by rfl, yA⟩) ?_; try simp only [Act.put, List.setIfInBounds_toArray, List.set_cons_zero, List.set_cons_succ]
        refine wpAny_take (i := 10) rfl tA tA tA (fun _ _ _ h => h) (Or.inl ⟨by rfl, yA⟩) ?_; try simp only [Act.put, List.setIfInBounds_toArray, List.set_cons_zero, List.set_cons_succ]
        (refine wpAny_ready (rs := [11]) (by kernel_rfl) (by simp) ?_; refine AllReady.cons rfl (fun K hK => ?_) AllReady.nil; go_simp; refine hK _ _ ?_; clear hK K)
        refine wpAny_done (by kernel_rfl) ?_ _
        try simp only [List.getElem_toArray, List.getElem_cons_succ, List.getElem_cons_zero, Act.put, List.setIfInBounds_toArray, List.set_cons_zero, List.set_cons_succ]
        go_wp2_with fail
        go_roundw
        case rel => exact ⟨k + 1, _, out2, H5, by omega, by go_num, hout2, hM8⟩
        case measure => simp [intOf]; omega
      · skip
        go_simp
        refine (cloneI_c l _ _ (hR.mono mono_IntR (hM.le.trans hM.ple)) (by omega)).mono ?_
        rintro e w5 ⟨v5, rfl, ho5, hx5⟩
        refine hK _ _ ?_
        clear hK K
        have hI5 : IntsR (up H w4 w5) v5 l := (ho5.repUp mono_IntR (Nat.le_refl _) (noH_le _)).mono mono_IntR (up_mono (noH_le H))
        replace hM := hM.up hx5
        generalize up H w4 w5 = H5 at *
        clear ho5 hx5 l0 d0
        obtain ⟨a5, c5, rfl, -, hI5⟩ := hI5.form
        have l0 := (hM.box 0 rfl).lt
        have d0 : w5.cell? ⟨B, 0, none⟩ = some (.slice va out.length vc) := by rw [(hM.box 0 rfl).facts.1, txA_0]
        refine wpAny_ready (rs := [4, 7]) (by kernel_rfl) (by simp) ?_
        refine AllReady.cons rfl (fun K hK => ?_) (AllReady.cons rfl (fun K hK => ?_) AllReady.nil)
        · skip
          go_simp
          refine hK _ _ ?_
          clear hK K
          refine wpAny_ready (rs := [7]) (by kernel_rfl) (by simp) ?_
          refine AllReady.cons rfl (fun K hK => ?_) AllReady.nil
          go_simp
          refine hK _ _ ?_
          clear hK K
          have ho6 := Own.new w5 #[.slice a5 l.length c5] 22
          replace hM := hM.ext (Ext.new w5 (.cells #[.slice a5 l.length c5] 22))
          clear l0 d0
          generalize w5.alloc _ = w6 at *
          generalize w5.heap.size = b6 at *
          have l0 := (hM.box 0 rfl).lt
          have d0 : w6.cell? ⟨B, 0, none⟩ = some (.slice va out.length vc) := by rw [(hM.box 0 rfl).facts.1, txA_0]
          refine wpAny_ready (rs := [8]) (by kernel_rfl) (by simp) ?_
          refine AllReady.cons rfl (fun K hK => ?_) AllReady.nil
          have hS := Src.lit1 (H := H5) (E := IntsRow) (sz := 1) (w := w6) (b := b6) (x := l) (cs := [.slice a5 l.length c5]) ⟨_, rfl, hI5⟩ rfl (fun j => by rw [ho6.facts.1]; simp)
          refine oper_append_M (hm := mono_IntsRow) (v := .slice va out.length vc) (xs := out) (ys := [l]) 1 _ _ 24 rfl Tryz.underlying24 infoRowsTx rfl rfl rfl hM rfl hS one_IntsRow (by simp; omega) (by simp; omega) ?_
          intro v7 w7 hM7 hgr7
          refine hK _ _ ?_
          clear hK K
          try simp only [List.set_cons_zero, List.set_cons_succ] at hM7
          have hout2 : Hid (out ++ [l] = ps.take (k + 1)) := by show _ = _; rw [htk.out, hout.out]
          generalize out ++ [l] = out2 at *
          clear hM hS ho6 l0 d0
          obtain ⟨na, nc, rfl, -⟩ := hM7.form 1 rfl
          have l0 := (hM7.box 0 rfl).lt
          have d0 : w7.cell? ⟨B, 0, none⟩ = some (.slice va out.length vc) := by rw [(hM7.box 0 rfl).facts.1, txA_0]
          have f0 := (hM7.box 0 rfl).facts.2 0
          have hM8 := hM7.set 0 rfl 0 (.slice na out2.length nc)
          rw [txA_set0] at hM8
          simp only [List.set_cons_zero] at hM8
          clear hM7
          refine wpAny_take (i := 9) rfl tA tA tA (fun _ _ _ h => h) (Or.inl ⟨by rfl, yA⟩) ?_; try simp only [Act.put, List.setIfInBounds_toArray, List.set_cons_zero, List.set_cons_succ]
          refine wpAny_take (i := 10) rfl tA tA tA (fun _ _ _ h => h) (Or.inl ⟨by rfl, yA⟩) ?_; try simp only [Act.put, List.setIfInBounds_toArray, List.set_cons_zero, List.set_cons_succ]
          (refine wpAny_ready (rs := [11]) (by kernel_rfl) (by simp) ?_; refine AllReady.cons rfl (fun K hK => ?_) AllReady.nil; go_simp; refine hK _ _ ?_; clear hK K)
          refine wpAny_done (by kernel_rfl) ?_ _
          try simp only [List.getElem_toArray, List.getElem_cons_succ, List.getElem_cons_zero, Act.put, List.setIfInBounds_toArray, List.set_cons_zero, List.set_cons_succ]
          go_wp2_with fail
          go_roundw
          case rel => exact ⟨k + 1, _, out2, H5, by omega, by go_num, hout2, hM8⟩
          case measure => simp [intOf]; omega
        · skip
          go_simp
          refine hK _ _ ?_
          clear hK K
          have ho6 := Own.new w5 #[.slice a5 l.length c5] 22
          replace hM := hM.ext (Ext.new w5 (.cells #[.slice a5 l.length c5] 22))
          clear l0 d0
          generalize w5.alloc _ = w6 at *
          generalize w5.heap.size = b6 at *
          have l0 := (hM.box 0 rfl).lt
          have d0 : w6.cell? ⟨B, 0, none⟩ = some (.slice va out.length vc) := by rw [(hM.box 0 rfl).facts.1, txA_0]
          refine wpAny_ready (rs := [4]) (by kernel_rfl) (by simp) ?_
          refine AllReady.cons rfl (fun K hK => ?_) AllReady.nil
          go_simp
          refine hK _ _ ?_
          clear hK K
          refine wpAny_ready (rs := [8]) (by kernel_rfl) (by simp) ?_
          refine AllReady.cons rfl (fun K hK => ?_) AllReady.nil
          have hS := Src.lit1 (H := H5) (E := IntsRow) (sz := 1) (w := w6) (b := b6) (x := l) (cs := [.slice a5 l.length c5]) ⟨_, rfl, hI5⟩ rfl (fun j => by rw [ho6.facts.1]; simp)
          refine oper_append_M (hm := mono_IntsRow) (v := .slice va out.length vc) (xs := out) (ys := [l]) 1 _ _ 24 rfl Tryz.underlying24 infoRowsTx rfl rfl rfl hM rfl hS one_IntsRow (by simp; omega) (by simp; omega) ?_
          intro v7 w7 hM7 hgr7
          refine hK _ _ ?_
          clear hK K
          try simp only [List.set_cons_zero, List.set_cons_succ] at hM7
          have hout2 : Hid (out ++ [l] = ps.take (k + 1)) := by show _ = _; rw [htk.out, hout.out]
          generalize out ++ [l] = out2 at *
          clear hM hS ho6 l0 d0
          obtain ⟨na, nc, rfl, -⟩ := hM7.form 1 rfl
          have l0 := (hM7.box 0 rfl).lt
          have d0 : w7.cell? ⟨B, 0, none⟩ = some (.slice va out.length vc) := by rw [(hM7.box 0 rfl).facts.1, txA_0]
          have f0 := (hM7.box 0 rfl).facts.2 0
          have hM8 := hM7.set 0 rfl 0 (.slice na out2.length nc)
          rw [txA_set0] at hM8
          simp only [List.set_cons_zero] at hM8
          clear hM7
          refine wpAny_take (i := 9) rfl tA tA tA (fun _ _ _ h => h) (Or.inl ⟨by rfl, yA⟩) ?_; try simp only [Act.put, List.setIfInBounds_toArray, List.set_cons_zero, List.set_cons_succ]
          refine wpAny_take (i := 10) rfl tA tA tA (fun _ _ _ h => h) (Or.inl ⟨by rfl, yA⟩) ?_; try simp only [Act.put, List.setIfInBounds_toArray, List.set_cons_zero, List.set_cons_succ]
          (refine wpAny_ready (rs := [11]) (by kernel_rfl) (by simp) ?_; refine AllReady.cons rfl (fun K hK => ?_) AllReady.nil; go_simp; refine hK _ _ ?_; clear hK K)
          refine wpAny_done (by kernel_rfl) ?_ _
          try simp only [List.getElem_toArray, List.getElem_cons_succ, List.getElem_cons_zero, Act.put, List.setIfInBounds_toArray, List.set_cons_zero, List.set_cons_succ]
          go_wp2_with fail
          go_roundw
          case rel => exact ⟨k + 1, _, out2, H5, by omega, by go_num, hout2, hM8⟩
          case measure => simp [intOf]; omega
    · obtain rfl : k = ps.length := by omega
      obtain rfl : out = ps := by rw [hout.out, List.take_length]
      obtain ⟨H5, hl5, hM5, hR5⟩ := hM.freezeS 1 rfl
      replace hM5 := hM5.pick [0] (by decide)
      simp only [List.set_cons_succ, List.set_cons_zero, List.map_cons, List.map_nil, List.getElem?_cons_zero, Option.getD_some] at hM5
      clear hM
      go_wp2_with fail
      refine (fill_c w B hn0 hn ok.inn rk ok.rk hR5 _ hM5).mono ?_
      rintro e w6 ⟨rfl, R, hM6, hreach⟩
      clear hM5
      go_wp2_with fail
      go_ret2
      refine ⟨B, rfl, hM6.ex, va, vc, R, ?_, fun j hj => ?_, hreach⟩
      · rw [(hM6.box 0 rfl).facts.1, txA_0]
      · rw [(hM6.box 0 rfl).facts.1, txA_at hj]
theorem lenTx_c {ps : List (List Int)} {B : Nat} {w : World} (h : TaxR w B ps) : Calls Tryz.prog 42 #[.pointer (some ⟨B, 0, none⟩)] w (RetV w (.int .i64 ps.length)) := by
  obtain ⟨pa, pc, R, h1, h2, h3⟩ := h
  have hl := cell_lt h1
  go_enter Tryz.func42, Tryz.ntmps42
  go_wp2_with fail
  go_ret
  exact ⟨rfl, xE⟩
def isTx (ps : List (List Int)) (c d : Int) : Prop := 0 ≤ c ∧ c < ps.length ∧ 0 ≤ d ∧ d < ps.length ∧ Rch ps c.toNat d.toNat
end Go.Proofs.YtabajghokhfmhaaGreat
namespace Go.Proofs.YtabajghokhfmhaaGreat
open Go.RowKit Go.Shelf
def rkTx (back : Bool) (n c : Nat) : Nat := if back then n - c else c
def PwOk (back : Bool) (n i : Nat) (l : List Int) (c : Nat) : Prop := ascTx l ∧ l.length ≤ c ∧ ∀ p ∈ l, 0 ≤ p ∧ p < (c : Int) ∧ p < (n : Int) ∧ rkTx back n p.toNat < rkTx back n i
theorem PwOk.nil (back : Bool) (n i c : Nat) : PwOk back n i [] c := ⟨List.Pairwise.nil, Nat.zero_le _, by simp⟩
theorem PwOk.skip {back : Bool} {n i c : Nat} {l : List Int} (h : PwOk back n i l c) : PwOk back n i l (c + 1) :=
  ⟨h.1, by have := h.2.1; omega, fun p hp => by have := h.2.2 p hp; exact ⟨this.1, by omega, this.2.2⟩⟩
theorem PwOk.put {back : Bool} {n i c : Nat} {l : List Int} (h : PwOk back n i l c) (hc : c < n) (hi : i < n) (hb : if back then i < c else c < i) : PwOk back n i (l ++ [(c : Int)]) (c + 1) := by
  refine ⟨List.pairwise_append.2 ⟨h.1, List.pairwise_singleton _ _, fun a ha b hb => ?_⟩, by simp; exact h.2.1, fun p hp => ?_⟩
  · have := h.2.2 a ha; rw [List.mem_singleton.1 hb]; exact this.2.1
  · rcases List.mem_append.1 hp with h1 | h1
    · have := h.2.2 p h1; exact ⟨this.1, by omega, this.2.2⟩
    · rw [List.mem_singleton.1 h1]
      refine ⟨by omega, by omega, by omega, ?_⟩
      rw [Int.toNat_natCast]
      unfold rkTx
      cases back <;> simp at hb ⊢ <;> omega
def ParP (w : World) (most : Int) (e : Ending) (w' : World) : Prop := ∃ v ps rk, e = .returned v ∧ RowsR (ph w') v ps ∧ ParOk ps rk ∧ (ps.length : Int) ≤ most ∧ Ext w w'
set_option maxRecDepth 100000 in
set_option maxHeartbeats 4000000 in
theorem parents_c (l : List Int) (vl : Value) (most : Int) (w : World) (hr : IntsR (ph w) vl l) (hm0 : 0 < most) (hm1 : most ≤ 64) : Calls Tryz.prog 36 #[vl, .int .i64 most] w (ParP w most) := by
  have hr0 := hr
  obtain ⟨xa, xc, rfl, -, hr⟩ := hr.form
  go_enter Tryz.func36, Tryz.ntmps36
  go_wp2_with fail
  refine (pick1_c l _ 0 most w hr0 (by unfold I64; omega) hm0 (by omega)).mono ?_
  rintro e w1 ⟨n', rfl, hn0, hn1, hx1⟩
  obtain ⟨n, hnn⟩ : ∃ n : Nat, 1 + n' = (n : Int) := ⟨(1 + n').toNat, by omega⟩
  have hwn : IntKind.i64.wrap (1 + n') = (n : Int) := by rw [hnn, IntKind.wrap_i64]; omega
  replace hnn := Lib.hid hnn
  go_wp2_with fail
  refine (pick1_c l _ 1 2 w1 (hr0.mono mono_IntR hx1.ple) (by unfold I64; omega) (by omega) (by omega)).mono ?_
  rintro e w2 ⟨bk, rfl, hb0, hb1, hx2⟩
  have hx := hx1.then hx2
  obtain ⟨back, hback⟩ : ∃ b : Bool, (bk == 1) = b := ⟨_, rfl⟩
  have hN : n ≤ 64 := by have := hnn.out; omega
  have hn0' : 0 < n := by have := hnn.out; omega
  have hnm : (n : Int) ≤ most := by have := hnn.out; omega
  clear hnn hn0 hn1 hx1 hx2 hb0 hb1
  have hM0 := (Mem.start w2 (ph w2) (fun _ _ h => h)).nil mono_IntsRow 1 22
  simp only [List.nil_append] at hM0
  go_wp2_with fail
  go_loopw [7, 8] (fun v i wr => ∃ (k : Nat) (ps : List (List Int)) (H : PH), k ≤ n ∧ i = .int .i64 k ∧ Hid (ps.length = k) ∧ Mem w2 (ph w2) [own mono_IntsRow 1 22 v ps] H wr ∧ Hid (∀ (i : Nat) (l : List Int), ps[i]? = some l → PwOk back n i l n)) (fun _ i _ => n - (intOf i).toNat)
  case atStart => exact ⟨0, [], _, by omega, rfl, Lib.hid rfl, hM0, Lib.hid (by simp)⟩
  case round =>
    clear hM0
    obtain ⟨k, ps, H, hk, rfl, hpl, hM, hall⟩ := hrel
    obtain ⟨va, vc, rfl, -⟩ := hM.form 0 rfl
    have hpl' : ps.length ≤ 64 := by rw [hpl.out]; omega
    by_cases hlt : k < n
    · have hb1 : decide (k < n) = true := decide_eq_true hlt
      have hw2 : IntKind.i64.wrap (2 + (k : Int)) = 2 + (k : Int) := by rw [IntKind.wrap_i64]; omega
      go_wp2_with fail
      refine (pick1_c l _ (2 + (k : Int)) 1048576 wr (hr0.mono mono_IntR (hx.ple.trans hM.ex.ple)) (by unfold I64; omega) (by omega) (by omega)).mono ?_
      rintro e w3 ⟨q, rfl, hq0, hq1, hx3⟩
      have hM1 := (hM.ext hx3).nil mono_IntR 1 3
      simp only [List.cons_append, List.nil_append] at hM1
      clear hM hx3 hw2
      go_wp2_with fail
      go_loopw [10, 11] (fun p j wx => ∃ (c : Nat) (pl : List Int), c ≤ n ∧ j = .int .i64 c ∧ Mem w2 (ph w2) [own mono_IntsRow 1 22 (.slice va ps.length vc) ps, own mono_IntR 1 3 p pl] H wx ∧ Hid (PwOk back n k pl c)) (fun _ j _ => n - (intOf j).toNat)
      case atStart => exact ⟨0, [], by omega, rfl, hM1, Lib.hid (PwOk.nil _ _ _ _)⟩
      case round =>
        clear hM1
        obtain ⟨c, pl, hc, rfl, hM, hP⟩ := hrel
        obtain ⟨pa, pc, rfl, -⟩ := hM.form 1 rfl
        by_cases hlt2 : c < n
        · have hb2 : decide (c < n) = true := decide_eq_true hlt2
          have h7 : IntKind.i64.wrap (7 * (c : Int)) = 7 * (c : Int) := by rw [IntKind.wrap_i64]; omega
          have h8 : IntKind.i64.wrap (1 + 7 * (c : Int)) = 1 + 7 * (c : Int) := by rw [IntKind.wrap_i64]; omega
          cases back with
          | true =>
            by_cases hbf : k < c
            · have hbb : decide (k < c) = true := decide_eq_true hbf
              cases ht : ((q / (1 + 7 * (c : Int))).tmod 3 == 0) with
              | true =>
                have hM2 := hM.ext (Ext.new wr (.cells #[.int .i64 c] 3))
                have hS := Src.lit1 (H := H) (E := IntR) (sz := 1) (w := wr.alloc (.cells #[.int .i64 c] 3)) (b := wr.heap.size) (x := (c : Int)) (cs := [.int .i64 c]) ⟨rfl, by unfold I64; omega⟩ rfl (fun j => by rw [(Proofs.YtabajghokhfmhaaGreat.Own.new _ _ _).facts.1]; simp)
                have hpl3 := hP.out.2.1
                clear hM
                go_wp2_with (first | (at_builtin; refine wpList_append_M 1 rfl _ _ 22 rfl Tryz.underlying22 infoInt rfl rfl rfl hM2 rfl hS one_IntR (by simp; omega) (by simp; omega) ?q5))
                case q5 =>
                  intro v' w' hM5
                  try simp only [List.set_cons_zero, List.set_cons_succ] at hM5
                  clear hM2 hS
                  obtain ⟨ua, uc, rfl, -⟩ := hM5.form 1 rfl
                  go_wp2_with fail
                  go_roundw
                  case rel => exact ⟨c + 1, pl ++ [(c : Int)], by omega, by go_num, hM5, Lib.hid (hP.out.put hlt2 hlt (by simpa using hbf))⟩
                  case measure => simp [intOf]; omega
              | false =>
                go_wp2_with fail
                go_roundw
                case rel => exact ⟨c + 1, pl, by omega, by go_num, hM, Lib.hid hP.out.skip⟩
                case measure => simp [intOf]; omega
            · have hbb : decide (k < c) = false := decide_eq_false hbf
              go_wp2_with fail
              go_roundw
              case rel => exact ⟨c + 1, pl, by omega, by go_num, hM, Lib.hid hP.out.skip⟩
              case measure => simp [intOf]; omega
          | false =>
            by_cases hbf : c < k
            · have hbb : decide (c < k) = true := decide_eq_true hbf
              cases ht : ((q / (1 + 7 * (c : Int))).tmod 3 == 0) with
              | true =>
                have hM2 := hM.ext (Ext.new wr (.cells #[.int .i64 c] 3))
                have hS := Src.lit1 (H := H) (E := IntR) (sz := 1) (w := wr.alloc (.cells #[.int .i64 c] 3)) (b := wr.heap.size) (x := (c : Int)) (cs := [.int .i64 c]) ⟨rfl, by unfold I64; omega⟩ rfl (fun j => by rw [(Proofs.YtabajghokhfmhaaGreat.Own.new _ _ _).facts.1]; simp)
                have hpl3 := hP.out.2.1
                clear hM
                go_wp2_with (first | (at_builtin; refine wpList_append_M 1 rfl _ _ 22 rfl Tryz.underlying22 infoInt rfl rfl rfl hM2 rfl hS one_IntR (by simp; omega) (by simp; omega) ?q6))
                case q6 =>
                  intro v' w' hM5
                  try simp only [List.set_cons_zero, List.set_cons_succ] at hM5
                  clear hM2 hS
                  obtain ⟨ua, uc, rfl, -⟩ := hM5.form 1 rfl
                  go_wp2_with fail
                  go_roundw
                  case rel => exact ⟨c + 1, pl ++ [(c : Int)], by omega, by go_num, hM5, Lib.hid (hP.out.put hlt2 hlt (by simpa using hbf))⟩
                  case measure => simp [intOf]; omega
              | false =>
                go_wp2_with fail
                go_roundw
                case rel => exact ⟨c + 1, pl, by omega, by go_num, hM, Lib.hid hP.out.skip⟩
                case measure => simp [intOf]; omega
            · have hbb : decide (c < k) = false := decide_eq_false hbf
              go_wp2_with fail
              go_roundw
              case rel => exact ⟨c + 1, pl, by omega, by go_num, hM, Lib.hid hP.out.skip⟩
              case measure => simp [intOf]; omega
        · have hb2 : decide (c < n) = false := decide_eq_false hlt2
          obtain rfl : c = n := by omega
          obtain ⟨H5, hl5, hM5, hR5⟩ := hM.freezeS 1 rfl
          have hM6 := (hM5.pick [0] (by decide)).ext (Ext.new wr (.cells #[.slice pa pl.length pc] 22))
          simp only [List.set_cons_succ, List.set_cons_zero, List.map_cons, List.map_nil, List.getElem?_cons_zero, Option.getD_some] at hM6
          have hS := Src.lit1 (H := H5) (E := IntsRow) (sz := 1) (w := wr.alloc (.cells #[.slice pa pl.length pc] 22)) (b := wr.heap.size) (x := pl) (cs := [.slice pa pl.length pc]) ⟨_, rfl, hR5⟩ rfl (fun j => by rw [(Proofs.YtabajghokhfmhaaGreat.Own.new _ _ _).facts.1]; simp)
          clear hM hM5
          go_wp2_with (first | (at_builtin; refine wpList_append_M 0 rfl _ _ 24 rfl Tryz.underlying24 infoRowsTx rfl rfl rfl hM6 rfl hS one_IntsRow (by simp; omega) (by simp; omega) ?q7))
          case q7 =>
          intro v' w' hM7
          try simp only [List.set_cons_zero, List.set_cons_succ] at hM7
          clear hM6 hS
          obtain ⟨ua, uc, rfl, -⟩ := hM7.form 0 rfl
          go_wp2_with fail
          go_roundw
          case rel =>
            refine ⟨k + 1, ps ++ [pl], H5, by omega, by go_num, Lib.hid (by simp [hpl.out]), hM7, Lib.hid fun i l hl => ?_⟩
            rcases getElem?_snoc hl with h1 | ⟨h1, h2⟩
            · exact hall.out i l h1
            · subst h2; rw [h1, hpl.out]; exact hP.out
          case measure => simp [intOf]; omega
    · have hb0 : decide (k < n) = false := decide_eq_false hlt
      obtain rfl : k = n := by omega
      have hr5 := hM.rep 0 rfl
      have hx5 := hM.ex
      replace hr5 := Lib.hid hr5
      clear hM
      go_wp2_with fail
      go_ret
      refine ⟨_, ps, rkTx back k, rfl, hr5.out, ⟨by rw [hpl.out]; omega, hpl', fun l hl => ?_, fun c l hl p hp => ?_, fun c l p hl hp => ?_⟩, by rw [hpl.out]; exact hnm, hx.then hx5⟩
      · obtain ⟨j, hj, rfl⟩ := List.getElem_of_mem hl
        have := hall.out j _ (List.getElem?_eq_getElem hj)
        exact ⟨this.1, by have := this.2.1; omega⟩
      · have := (hall.out c l hl).2.2 p hp
        rw [hpl.out]; exact ⟨this.1, this.2.2.1⟩
      · have := (hall.out c l hl).2.2 p hp
        rw [Int.toNat_natCast] at this; exact this.2.2.2
end Go.Proofs.YtabajghokhfmhaaGreat
