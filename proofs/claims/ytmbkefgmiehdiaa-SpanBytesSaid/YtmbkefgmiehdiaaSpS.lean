/- sorting ends. -/
import Derived.Test.YtmbkefgmiehdiaaSortE
import Derived.Test.YtmbkefgmiehdiaaCalmG
import Derived.Test.YtmbkefgmiehdiaaSpI
namespace Go.Proofs.Ytmbkefgmiehdiaa
open Go.RowKit Go.Shelf Go.Lib Go.Sort
set_option linter.unusedSimpArgs false
set_option linter.unusedVariables false
set_option linter.unusedSectionVars false
theorem Gw.drewN' {a b : World} (h : Gw a b) (n : Nat) : Gw a (b.drewN n) := h.then ⟨n, #[], by rw [grow_empty]⟩
set_option maxRecDepth 100000 in
set_option maxHeartbeats 1000000 in
theorem less_g (a b : En) (w : World) (ha : a.bd) (hb : b.bd) : Calls Try.prog 51 #[enA a, enA b] w (fun e w' => e = .returned (.bool (lessE a b)) ∧ Gw w w') := by
  obtain ⟨f, ⟨n, d⟩, t⟩ := a
  obtain ⟨f', ⟨n', d'⟩, t'⟩ := b
  obtain ⟨-, -, a1, a2, a3, a4⟩ := ha
  obtain ⟨-, -, b1, b2, b3, b4⟩ := hb
  dsimp only at a1 a2 a3 a4 b1 b2 b3 b4
  have m1 := mul_bd a1 a2 b3 b4
  have m2 := mul_bd b1 b2 a3 a4
  have w1 : IntKind.i64.wrap (n * d') = n * d' := wrap_id (by omega) (by omega)
  have w2 : IntKind.i64.wrap (n' * d) = n' * d := wrap_id (by omega) (by omega)
  clear a1 a2 a3 a4 b1 b2 b3 b4
  unfold enA
  dsimp only
  have hx : Gw w ((w.alloc (.cells #[.int .i64 f, .int .i64 n, .int .i64 d, .bool t] 73)).alloc (.cells #[.int .i64 f', .int .i64 n', .int .i64 d', .bool t'] 73)) := (Gw.new _ _).then (Gw.new _ _)
  by_cases hf : f = f'
  · subst hf
    by_cases h0 : f = 0
    · subst h0
      have hs : Hid (lessE ⟨0, ⟨n, d⟩, t⟩ ⟨0, ⟨n', d'⟩, t'⟩ = if n * d' ≠ n' * d then decide (n * d' < n' * d) else (!t && t')) := by
        show _ = _
        unfold lessE
        rw [if_neg (by simp), if_neg (by simp)]
      have w3 : wrap64 (n * d') = n * d' := wrap64_id (by omega) (by omega)
      have w4 : wrap64 (n' * d) = n' * d := wrap64_id (by omega) (by omega)
      generalize lessE _ _ = q at hs ⊢
      by_cases hxy : n * d' = n' * d
      · rw [if_neg (by simpa using hxy)] at hs
        replace hxy := Lib.hid hxy
        go_enter Try.func51, Try.ntmps51
        go_wp2_with fail
        go_quiet (fail)
        rw [hxy.out]
        generalize n' * d = y at *
        cases t <;> (go_wp2_with fail; go_ret; exact ⟨ret_bool (by rw [hs.out]; first | rfl | simp), (by first | exact hx | exact hx.drewN' _)⟩)
      · rw [if_pos hxy] at hs
        go_enter Try.func51, Try.ntmps51
        go_wp2_with fail
        go_quiet (fail)
        have hb : (n * d' != n' * d) = true := by simpa using hxy
        generalize n * d' = x at *
        generalize n' * d = y at *
        clear w1 w2 w3 w4
        go_wp2_with fail
        go_ret
        exact ⟨ret_bool hs.out.symm, (by first | exact hx | exact hx.drewN' _)⟩
    · have hs : Hid (lessE ⟨f, ⟨n, d⟩, t⟩ ⟨f, ⟨n', d'⟩, t'⟩ = false) := by
        show _ = _
        unfold lessE
        rw [if_neg (by simp), if_pos h0]
      generalize lessE _ _ = q at hs ⊢
      have hb : (f != 0) = true := by simpa using h0
      go_enter Try.func51, Try.ntmps51
      go_wp2_with fail
      go_ret
      exact ⟨ret_bool hs.out.symm, (by first | exact hx | exact hx.drewN' _)⟩
  · have hs : Hid (lessE ⟨f, ⟨n, d⟩, t⟩ ⟨f', ⟨n', d'⟩, t'⟩ = decide (f < f')) := by
      show _ = _
      unfold lessE
      rw [if_pos hf]
    generalize lessE _ _ = q at hs ⊢
    have hb : (f != f') = true := by simpa using hf
    go_enter Try.func51, Try.ntmps51
    go_wp2_with fail
    go_ret
    exact ⟨ret_bool hs.out.symm, (by first | exact hx | exact hx.drewN' _)⟩
abbrev SmT := { e : En // e.sm }
instance : Inhabited SmT := ⟨⟨botE, .inr (.inl rfl)⟩⟩
def cmpE (x y : SmT) : Int := if lessE x.1 y.1 then -1 else if lessE y.1 x.1 then 1 else 0
def SmT.t (x : SmT) : EnT := ⟨x.1, x.2.ok⟩
theorem ltSm (x y : SmT) : ltOf cmpE x y = lessE x.1 y.1 := by
  unfold ltOf cmpE
  cases h1 : lessE x.1 y.1
  · cases h2 : lessE y.1 x.1 <;> simp
  · simp
theorem lt_smt {x y : SmT} : lessE x.1 y.1 = true ↔ ltE x.t y.t := Iff.rfl
theorem lt_smf {x y : SmT} : lessE x.1 y.1 = false ↔ ¬ ltE x.t y.t := by rw [← lt_smt]; simp
theorem swoE : SWO (ltOf cmpE) where
  irrefl x := by rw [ltSm, lt_smf]; exact stoE.irr _
  trans x y z h1 h2 := by
    rw [ltSm, lt_smt] at *
    exact stoE.trans _ _ _ h1 h2
  ntrans x y z h1 h2 := by
    rw [ltSm, lt_smf] at *
    exact stoE.le_le h2 h1
def SmR (h : PH) (cs : List Value) (x : SmT) : Prop := EnR h cs x.1
theorem mono_SmR : Mono SmR := fun _ _ _ _ _ h => h
def encS (x : SmT) : List Value := enC x.1
theorem smR_enc {h : PH} (cs : List Value) (x : SmT) (hr : SmR h cs x) : cs = encS x := hr.1
theorem one_encS (x : SmT) : ∀ v ∈ encS x, v.oneCell' = true := by
  intro u hu
  simp only [encS, enC, List.mem_cons, List.not_mem_nil, or_false] at hu
  rcases hu with rfl | rfl | rfl | rfl <;> rfl
set_option maxRecDepth 100000 in
set_option maxHeartbeats 1000000 in
theorem cmpE_c (x y : SmT) (w : World) : Calls Try.prog 87 #[.agg (encS x).toArray, .agg (encS y).toArray] w (fun e w' => e = .returned (.int .i64 (cmpE x y)) ∧ Gw w w') := by
  have h1 := fun w => less_g x.1 y.1 w x.2.bd y.2.bd
  have h2 := fun w => less_g y.1 x.1 w y.2.bd x.2.bd
  have hc : Hid (cmpE x y = if lessE x.1 y.1 then -1 else if lessE y.1 x.1 then 1 else 0) := rfl
  generalize cmpE x y = q at hc ⊢
  generalize lessE x.1 y.1 = p at *
  generalize lessE y.1 x.1 = p' at *
  obtain ⟨⟨f, ⟨n, d⟩, t⟩, hx⟩ := x
  obtain ⟨⟨f', ⟨n', d'⟩, t'⟩, hy⟩ := y
  unfold enA at *
  unfold encS enC
  dsimp only [List.toArray] at *
  replace h1 := Lib.hid h1
  replace h2 := Lib.hid h2
  clear hx hy
  have hg : Gw w ((w.alloc (.cells #[.int .i64 f, .int .i64 n, .int .i64 d, .bool t] 73)).alloc (.cells #[.int .i64 f', .int .i64 n', .int .i64 d', .bool t'] 73)) := (Gw.new _ _).then (Gw.new _ _)
  have k1 := (Proofs.Ytmbkefgmiehdiaa.Own.new w #[.int .i64 f, .int .i64 n, .int .i64 d, .bool t] 73).alloc (.cells #[.int .i64 f', .int .i64 n', .int .i64 d', .bool t'] 73)
  have k2 := Proofs.Ytmbkefgmiehdiaa.Own.new' (w.alloc (.cells #[.int .i64 f, .int .i64 n, .int .i64 d, .bool t] 73)) #[.int .i64 f', .int .i64 n', .int .i64 d', .bool t'] 73 (n := w.heap.size + 1) (by simp)
  go_enter Try.func87, Try.ntmps87
  go_upto_region 1 with (fail)
  generalize (w.alloc _).alloc _ = W at *
  obtain ⟨c1, f1⟩ := k1.facts
  obtain ⟨c2, f2⟩ := k2.facts
  have z1 := k1.lt
  have z2 := k2.lt
  go_wp2_with fail
  refine (h1.out _).mono ?_
  rintro e w1 ⟨rfl, hx1⟩
  replace k1 := k1.keep hx1.ext
  replace k2 := k2.keep hx1.ext
  replace hg := hg.then hx1
  clear c1 f1 c2 f2 z1 z2 hx1
  cases p with
  | true =>
    go_wp2_with fail
    go_ret
    exact ⟨ret_int (by rw [hc.out]; rfl), hg⟩
  | false =>
    obtain ⟨c1, f1⟩ := k1.facts
    obtain ⟨c2, f2⟩ := k2.facts
    have z1 := k1.lt
    have z2 := k2.lt
    go_wp2_with fail
    refine (h2.out _).mono ?_
    rintro e w2 ⟨rfl, hx2⟩
    replace hg := hg.then hx2
    clear c1 f1 c2 f2 z1 z2 hx2
    cases p' with
    | true =>
      go_wp2_with fail
      go_ret
      exact ⟨ret_int (by rw [hc.out]; rfl), hg⟩
    | false =>
      go_wp2_with fail
      go_ret
      exact ⟨ret_int (by rw [hc.out]; rfl), hg⟩
def SortSP (H : PH) (w : World) (v : Value) (xs : List SmT) (e : Ending) (w' : World) : Prop :=
  e = .returned (.tuple #[]) ∧ ∃ xs', xs'.Perm xs ∧ xs'.Pairwise (fun x y : SmT => lessE y.1 x.1 = false) ∧ OwnC H w' SmR 4 73 v xs' ∧ w.grownBy w' v.ownBlock
set_option maxHeartbeats 1000000 in
theorem sortE_c (H : PH) (v : Value) (xs : List SmT) (w : World) (hO : OwnC H w SmR 4 73 v xs) (hn : xs.length ≤ 1000000) :
    Calls Try.prog 86 #[v, .func (.func 87) #[] #[]] w (SortSP H w v xs) := by
  rcases hO with ⟨rfl, rfl⟩ | ⟨g, cap, cur, rfl, hg, h1, h2, h3, h4⟩
  · have hS := AnyF.slices_SortFunc_none (P := Try.prog) (ρ := sSortE_ren) { sSortE with } none 0 (.func (.func 87) #[] #[]) w
    change Calls Try.prog 86 _ _ _ at hS
    refine hS.mono ?_
    rintro e w' ⟨rfl, rfl⟩
    exact ⟨rfl, [], List.Perm.refl _, List.Pairwise.nil, .inl ⟨rfl, rfl⟩, ⟨rfl, rfl, rfl, Nat.le_refl _, fun _ _ _ => rfl⟩⟩
  · have hlt : g < w.heap.size := (Array.getElem?_eq_some_iff.1 hg).1
    have hmul : xs.length * 4 ≤ cap * 4 := Nat.mul_le_mul_right _ h1
    obtain ⟨r1, r2⟩ := cells_flat encS 4 smR_enc h4
    have hH : HoldsK encS 4 w g 0 xs.toArray := by
      intro j hj
      rw [size_flatK] at hj
      have hj' : j < xs.length * 4 := by simpa using hj
      rw [Nat.zero_add]
      refine ⟨?_, by simp [World.frozen?, hg]⟩
      rw [show w.cell? ⟨g, j, none⟩ = cur[j]? by simp [World.cell?, hg]]
      have e1 : cur[j]? = (cur.toList.take (xs.length * 4))[j]? := by rw [List.getElem?_take, if_pos hj']; simp
      rw [e1, r1, flatK_eq encS 4 (fun _ => rfl), id]
      have hl : j < (xs.flatMap encS).length := by rw [flat_len encS 4 (fun _ => rfl)]; exact hj'
      simp
      rw [List.getElem?_eq_getElem hl]; rfl
    have eg : ∀ args w, (callFunc 87 args).run Try.prog w = .ok (.enter 87 args) w := enters_of Try.func87 (by kernel_rfl) rfl
    have hcon := AnyQ.slices_SortFunc sSortE 4 Try.isAgg73 Try.sizeOf73 encS (fun _ => rfl) (fun x v hv => one_encS x v (by simpa using hv)) cmpE swoE 87 #[] g 0 cap xs.toArray w eg (fun _ _ _ _ x y => cmpE_c x y _) hH hlt (by simp; omega)
    change Calls Try.prog 86 _ _ _ at hcon
    rw [show xs.toArray.size = xs.length by simp] at hcon
    refine hcon.mono ?_
    rintro e w' ⟨rfl, d', n, os, ⟨hp1, -, hp2⟩, hs, rfl⟩
    have hp : d'.toList.Perm xs := by
      have : d'.size = xs.length := by simpa using hp1
      have e2 : (xs.toArray.extract 0 xs.length).toList = xs := by simp
      have e3 : (d'.extract 0 xs.length).toList = d'.toList := by rw [← this]; simp
      rw [e2, e3] at hp2
      exact hp2
    have hd : d'.size = xs.length := by simpa using hp.length_eq
    obtain ⟨o1, o2⟩ := sorted_own (os := os) (n := n) encS 4 (fun _ => rfl) smR_enc hg h1 h2 h3 h4 hp
    refine ⟨rfl, d'.toList, hp, ?_, o1, o2⟩
    rw [List.pairwise_iff_getElem]
    intro i j hi hj hij
    have hj' : j < d'.size := by simpa using hj
    have := hs i j (Nat.zero_le _) hij (by omega)
    rw [ltSm, getElem!_pos d' j hj', getElem!_pos d' i (by omega)] at this
    simpa using this
end Go.Proofs.Ytmbkefgmiehdiaa
