/- Lemmas for FF, part 18: the reference of package formula: joined, and more. -/
import Derived.Test.YtbpilielamjnoaaGreatFF05
import Derived.Test.YtbpilielamjnoaaGreatFF12
import Derived.Test.YtbpilielamjnoaaGreatFF13
import Derived.Test.YtbpilielamjnoaaGreatFF15
import Derived.Test.YtbpilielamjnoaaGreatFF16
set_option linter.unusedSimpArgs false
set_option linter.unusedVariables false
namespace Go.Proofs.YtbpilielamjnoaaGreat
open Go.RowKit Go.Shelf
theorem never_eq {x : Fm} (hw : wholeB x = true) (hn : neverB x = true) : x = neverF := by
  obtain ⟨op, n, inn, kids⟩ := x
  rw [wholeB_eq] at hw
  unfold neverB at hn
  obtain ⟨h5, h6⟩ : op = 5 ∧ kids = [] := of_decide_eq_true hn
  subst h5 h6
  rw [formed1_mk] at hw
  by_cases h : ((5 : Int) ≠ 2 ∧ inn ≠ []) ∨ ((5 : Int) ≠ 2 ∧ (5 : Int) ≠ 1 ∧ n ≠ 0)
  · rw [if_pos h] at hw; simp at hw
  · have h1 : inn = [] := Decidable.byContradiction fun e => h (.inl ⟨by decide, e⟩)
    have h2 : n = 0 := Decidable.byContradiction fun e => h (.inr ⟨by decide, by decide, e⟩)
    subst h1 h2; rfl
theorem true_eq {x : Fm} (hw : wholeB x = true) (hn : x.op = 0) : x = noF := by
  obtain ⟨op, n, inn, kids⟩ := x
  rw [wholeB_eq] at hw
  obtain rfl : op = 0 := hn
  rw [formed1_mk] at hw
  by_cases h : ((0 : Int) ≠ 2 ∧ inn ≠ []) ∨ ((0 : Int) ≠ 2 ∧ (0 : Int) ≠ 1 ∧ n ≠ 0)
  · rw [if_pos h] at hw; simp at hw
  · have h1 : inn = [] := Decidable.byContradiction fun e => h (.inl ⟨by decide, e⟩)
    have h2 : n = 0 := Decidable.byContradiction fun e => h (.inr ⟨by decide, by decide, e⟩)
    rw [if_neg h, if_pos rfl] at hw
    simp at hw
    obtain ⟨h3, -⟩ := hw
    subst h1 h2 h3; rfl
def badJ (op : Int) (x : Fm) : Bool := (decide (op = 4) && neverB x) || (decide (op = 5) && decide (x.op = 0))
theorem joinF_bad {op : Int} {kids : List Fm} {k : Nat} {x : Fm} (hop : op = 4 ∨ op = 5) (hk : (allF op kids)[k]? = some x) (hw : wholeB x = true) (hb : badJ op x = true) : joinF op kids = x := by
  have hm := List.mem_of_getElem? hk
  rcases hop with rfl | rfl
  · have hn : neverB x = true := by simpa [badJ] using hb
    unfold joinF; rw [if_pos ⟨rfl, List.any_eq_true.2 ⟨x, hm, hn⟩⟩, never_eq hw hn]
  · have hn : x.op = 0 := by simpa [badJ] using hb
    unfold joinF; rw [if_neg (fun h => by omega), if_pos ⟨rfl, List.any_eq_true.2 ⟨x, hm, by simpa using hn⟩⟩, true_eq hw hn]
theorem joinF_good {op : Int} {kids : List Fm} (hb : ∀ x ∈ allF op kids, badJ op x = false) : joinF op kids = match sortF ((allF op kids).filter fun g => !decide (g.op = 0)) with
    | [x] => x
    | [] => if op = 4 then noF else .mk op 0 [] []
    | out => .mk op 0 [] out := by
  have h4 : ¬ (op = 4 ∧ (allF op kids).any neverB = true) := by
    rintro ⟨rfl, h⟩
    obtain ⟨x, hx, h⟩ := List.any_eq_true.1 h
    have := hb x hx
    unfold badJ at this
    rw [h] at this; simp at this
  have h5 : ¬ (op = 5 ∧ ((allF op kids).any fun g => decide (g.op = 0)) = true) := by
    rintro ⟨rfl, h⟩
    obtain ⟨x, hx, h⟩ := List.any_eq_true.1 h
    have := hb x hx
    unfold badJ at this
    simp only [decide_eq_true_eq] at h
    rw [h] at this; simp at this
  unfold joinF
  rw [if_neg h4, if_neg h5]
  rfl
theorem sortF_snoc (l : List Fm) (x : Fm) : sortF (l ++ [x]) = insF x (sortF l) := by unfold sortF; rw [List.foldl_append]; rfl
theorem sortF_len (l : List Fm) : (sortF l).length ≤ l.length := by
  suffices h : ∀ (l acc : List Fm), (l.foldl (fun out f => insF f out) acc).length ≤ acc.length + l.length by simpa [sortF] using h l []
  intro l
  induction l with
  | nil => simp
  | cons x xs ih => intro acc; rw [List.foldl_cons]; have := ih (insF x acc); have := insF_len x acc; simp only [List.length_cons]; omega
def putF (all : List Fm) (k : Nat) : List Fm := sortF ((all.take k).filter fun g => !decide (g.op = 0))
theorem putF_skip {all : List Fm} {k : Nat} {x : Fm} (hk : all[k]? = some x) (h : x.op = 0) : putF all (k + 1) = putF all k := by
  unfold putF; rw [take_snoc' all k x hk, List.filter_append]; simp [h]
theorem putF_put {all : List Fm} {k : Nat} {x : Fm} (hk : all[k]? = some x) (h : x.op ≠ 0) : putF all (k + 1) = insF x (putF all k) := by
  unfold putF; rw [take_snoc' all k x hk, List.filter_append, ← sortF_snoc]; simp [h]
theorem putF_len (all : List Fm) (k : Nat) : (putF all k).length ≤ all.length := by
  unfold putF
  have h1 := sortF_len ((all.take k).filter fun g => !decide (g.op = 0))
  have h2 := List.length_filter_le (fun g : Fm => !decide (g.op = 0)) (all.take k)
  rw [List.length_take] at h2; omega
theorem putF_mem {all : List Fm} {k : Nat} {x : Fm} (h : x ∈ putF all k) : x ∈ all := by
  unfold putF at h; rw [sortF_mem, List.mem_filter] at h; exact List.mem_of_mem_take h.1
theorem allF_whole {op : Int} {kids : List Fm} (h : ∀ x ∈ kids, wholeB x = true) : ∀ x ∈ allF op kids, wholeB x = true := by
  intro x hx
  obtain ⟨y, hy, hx⟩ := List.mem_flatMap.1 hx
  have hw := h y hy
  split at hx
  · rw [wholeB_eq, Bool.and_eq_true, List.all_eq_true] at hw; exact hw.2 x hx
  · rw [List.mem_singleton.1 hx]; exact hw
def endJ (op : Int) (R : List Fm) : Fm := match R with
  | [x] => x
  | [] => if op = 4 then noF else .mk op 0 [] []
  | out => .mk op 0 [] out
theorem endJ_many {op : Int} {R : List Fm} (h1 : R.length ≠ 1) (h2 : R.length = 0 → op ≠ 4) : endJ op R = .mk op 0 [] R := by
  match R, h1, h2 with
  | [], _, h2 => show (if op = 4 then noF else _) = _; rw [if_neg (h2 rfl)]
  | [x], h1, _ => exact absurd rfl h1
  | x :: y :: r, _, _ => rfl
set_option maxRecDepth 100000 in
set_option maxHeartbeats 8000000 in
theorem rjoined_c {H : PH} (op : Int) (kids : List Fm) (v : Value) (w : World) (hl : PLe H (ph w)) (hr : FmsR H v kids) (hop : op = 4 ∨ op = 5) (hb : sumN Fm.bulk kids ≤ 400000) (hwk : ∀ x ∈ kids, wholeB x = true) :
    Calls Tryz.prog 113 #[.int .i64 op, v] w (NewF w H (joinF op kids)) := by
  obtain ⟨a, c, rfl, -, hr⟩ := hr.form
  have hkl := bulk_len kids
  have hM0 := ((Mem.start w H hl).nil mono_FmR 4 29).new' #[.int .i64 0, .int .i64 0, .slice none 0 0, .slice none 0 0] 29 (n := w.heap.size) rfl
  simp only [List.cons_append, List.nil_append] at hM0
  go_enter Tryz.func113, Tryz.ntmps113
  go_upto_block 0 with (fail)
  generalize World.alloc _ _ = w1 at *
  generalize hg1 : w.heap.size = g1 at *
  replace hwk := Lib.hid hwk
  go_wp2_with fail
  go_loopw [5, 6] (fun u i wr => ∃ (k : Nat) (out : List Fm), k ≤ kids.length ∧ i = .int .i64 k ∧ Mem w H [ownFm u out, box g1 #[.int .i64 0, .int .i64 0, .slice none 0 0, .slice none 0 0] 29] H wr ∧ Hid (out = allF op (kids.take k)) ∧ out.length ≤ 400000) (fun _ i _ => kids.length - (intOf i).toNat)
  case atStart => exact ⟨0, [], by omega, rfl, hM0, Lib.hid (by simp [allF]), by simp⟩
  case round =>
    clear hM0
    obtain ⟨k, out, hk2, rfl, hM, hout, hol⟩ := hrel
    obtain ⟨va, vc, rfl, -⟩ := hM.form 0 rfl
    by_cases hlt : k < kids.length
    · obtain ⟨kb, ko, k3, m3, k4, m4, ek, z0, z1, z2, z3, hE, zl⟩ := FmsR.atH hr hM.ple k hlt
      cases ek
      have hsn := allF_snoc op (kids.take k) kids[k]
      rw [← List.take_succ_eq_append_getElem hlt] at hsn
      have hnl := allF_len op (kids.take (k + 1))
      have hst := sumN_take_le Fm.bulk kids (k + 1)
      have hxb := sumN_mem Fm.bulk (List.getElem_mem hlt)
      have hxk := kids[k].kids_le
      generalize kids[k] = x at *
      rw [← hout.out] at hsn
      by_cases hxo : x.op = op
      · rw [if_pos hxo] at hsn
        have bx : (x.op == op) = true := by simpa using hxo
        have hS := Src.ofRep (FmR.kids_rep hE) hM.ple
        have hln : out.length + x.kids.length ≤ 400000 := by
          have := congrArg List.length hsn
          rw [List.length_append] at this; omega
        replace hsn := Lib.hid hsn
        clear hxo hE hst hnl
        go_wp2_with (first | (at_builtin; refine wpList_append_M 0 rfl _ _ 23 rfl Tryz.underlying23 infoFm rfl rfl rfl hM rfl hS one_FmR (by omega) (by omega) ?c5))
        case c5 =>
        intro v' w' hM6
        try simp only [List.set_cons_zero, List.set_cons_succ] at hM6
        clear hM hS z0 z1 z2 z3 zl
        obtain ⟨na, nc, rfl, -⟩ := hM6.form 0 rfl
        go_wp2_with fail
        go_roundw
        case rel => exact ⟨k + 1, out ++ x.kids, by omega, by go_num, hM6, Lib.hid (by rw [hsn.out]), by simp; omega⟩
        case measure => simp [intOf]; omega
      · rw [if_neg hxo] at hsn
        have bx : (x.op == op) = false := by simpa using hxo
        have hln : out.length + 1 ≤ 400000 := by
          have := congrArg List.length hsn
          rw [List.length_append] at this; simp at this; omega
        replace hsn := Lib.hid hsn
        have hM5 := hM.ext (Ext.new wr (.cells #[.int .i64 x.op, .int .i64 x.n, .slice k3 x.inn.length m3, .slice k4 x.kids.length m4] 29))
        have hS := Src.lit1 (E := FmR) (H := H) (w := wr.alloc (.cells #[.int .i64 x.op, .int .i64 x.n, .slice k3 x.inn.length m3, .slice k4 x.kids.length m4] 29)) (b := wr.heap.size) (sz := 4) hE rfl (fun j => by rw [(Proofs.YtbpilielamjnoaaGreat.Own.new wr #[.int .i64 x.op, .int .i64 x.n, .slice k3 x.inn.length m3, .slice k4 x.kids.length m4] 29).facts.1 j]; simp [fmC])
        clear hxo hE hst hnl
        go_wp2_with (first | (at_builtin; refine wpList_append_M 0 rfl _ _ 23 rfl Tryz.underlying23 infoFm rfl rfl rfl hM5 rfl hS one_FmR (by simp; omega) (by simp; omega) ?c5))
        case c5 =>
        intro v' w' hM6
        try simp only [List.set_cons_zero, List.set_cons_succ] at hM6
        clear hM hM5 hS z0 z1 z2 z3 zl
        obtain ⟨na, nc, rfl, -⟩ := hM6.form 0 rfl
        go_wp2_with fail
        go_roundw
        case rel => exact ⟨k + 1, out ++ [x], by omega, by go_num, hM6, Lib.hid (by rw [hsn.out]), by simp; omega⟩
        case measure => simp [intOf]; omega
    · obtain rfl : k = kids.length := by omega
      rw [List.take_length] at hout
      have hab : ∀ x ∈ out, x.bulk ≤ 400000 := fun x hx => by
        have h1 := sumN_mem Fm.bulk hx
        have h2 := all_sum Fm.bulk op kids_bulk kids
        rw [hout.out] at h1; omega
      have hbadx : Hid (∀ (k : Nat) x, out[k]? = some x → badJ op x = true → joinF op kids = x) := by
        refine Lib.hid fun k x hx hbx => ?_
        rw [hout.out] at hx
        exact joinF_bad hop hx (allF_whole hwk.out x (List.mem_of_getElem? hx)) hbx
      have hgood : Hid ((∀ x ∈ out, badJ op x = false) → joinF op kids = endJ op (putF out out.length)) := by
        refine Lib.hid fun hh => ?_
        unfold putF
        rw [List.take_length, hout.out]; rw [hout.out] at hh
        exact (joinF_good hh).trans rfl
      generalize joinF op kids = J at *
      obtain ⟨H6, hl6, hM6, hR6⟩ := hM.freezeS 0 rfl
      replace hM6 := hM6.pick [1] (by decide)
      simp only [List.set_cons_succ, List.set_cons_zero, List.map_cons, List.map_nil, List.getElem?_cons_zero, List.getElem?_cons_succ, Option.getD_some] at hM6
      have hwo : Hid (∀ x ∈ out, wholeB x = true) := Lib.hid (by rw [hout.out]; exact allF_whole hwk.out)
      clear hM hout hr hwk hkl hb
      replace hab := Lib.hid hab
      go_wp2_with fail
      go_loopw [7, 8] (fun u i wx => ∃ (k : Nat) (H' : PH), k ≤ out.length ∧ i = .int .i64 k ∧ Mem w H [box g1 #[.int .i64 0, .int .i64 0, .slice none 0 0, .slice none 0 0] 29] H' wx ∧ FmsR H' u (putF out k) ∧ PLe H6 H' ∧ Hid (∀ j x, out[j]? = some x → j < k → badJ op x = false)) (fun _ i _ => out.length - (intOf i).toNat)
      case atStart => exact ⟨0, H6, by omega, rfl, hM6, by simpa [putF, sortF] using SliceRep.nil _ _ _, PLe.refl _, Lib.hid (fun j x _ h => by omega)⟩
      case round =>
        clear hM6
        obtain ⟨k, H', hk2, rfl, hM, hput, hlH, hno⟩ := hrel
        replace hR6 := hR6.mono mono_FmR hlH
        obtain ⟨ua, uc, rfl, hul, hput⟩ := hput.form
        have hpl := putF_len out k
        by_cases hlt : k < out.length
        · obtain ⟨kb, ko, k3, m3, k4, m4, ek, z0, z1, z2, z3, hE, zl⟩ := FmsR.atH hR6 hM.ple k hlt
          cases ek
          have hxk : Hid (out[k]? = some out[k]) := Lib.hid (List.getElem?_eq_getElem hlt)
          have hxb := hab.out _ (List.getElem_mem hlt)
          have hxm : Hid (∀ x ∈ putF out k, x.bulk ≤ 400000) := Lib.hid fun x hx => hab.out x (putF_mem hx)
          generalize out[k] = x at *
          have hnv := Lib.hid (fun W (e : Ext _ W) => rnever_c x _ W (mono_FmR _ _ _ _ (hM.ple.trans e.ple) hE))
          simp only [fmC] at hnv
          rcases hop with rfl | rfl
          · have n4 : ((4 : Int) == 4) = true := rfl
            have n5 : ((4 : Int) == 5) = false := rfl
            by_cases hq : neverB x = true
            · rw [hq] at hnv
              go_wp2_with fail
              refine RetV_at (hnv.out _ (Ext.rfl' _)) ?_
              intro w3 hx3
              replace hM := hM.ext hx3
              replace z0 := (hx3).cell1 z0
              replace z1 := (hx3).cell1 z1
              replace z2 := (hx3).cell1 z2
              replace z3 := (hx3).cell1 z3
              replace zl := cell_lt z0
              clear hnv hx3
              have hJ : Hid (J = x) := Lib.hid (hbadx.out k x hxk.out (by unfold badJ; rw [hq]; rfl))
              clear hbadx hgood hput hno hab hwo hxm hR6
              have rz0 : _ = some (Value.int .i64 0) := (hM.box 0 rfl).facts.1 0
              have rz1 : _ = some (Value.int .i64 0) := (hM.box 0 rfl).facts.1 1
              have rz2 : _ = some (Value.slice none 0 0) := (hM.box 0 rfl).facts.1 2
              have rz3 : _ = some (Value.slice none 0 0) := (hM.box 0 rfl).facts.1 3
              obtain ⟨-, rzf⟩ := (hM.box 0 rfl).facts
              have rzl := (hM.box 0 rfl).lt
              have hM8 := hM.set4 0 rfl (.int .i64 x.op) (.int .i64 x.n) (.slice k3 x.inn.length m3) (.slice k4 x.kids.length m4)
              simp only [List.set_cons_zero, List.set_cons_succ] at hM8
              clear hM
              go_wp2_with fail
              generalize World.setCell _ _ _ = w9 at *
              obtain ⟨rq', -⟩ := (hM8.box 0 rfl).facts
              have rq0 : _ = some ((.int .i64 x.op) : Value) := rq' 0
              have rq1 : _ = some ((.int .i64 x.n) : Value) := rq' 1
              have rq2 : _ = some ((.slice k3 x.inn.length m3) : Value) := rq' 2
              have rq3 : _ = some ((.slice k4 x.kids.length m4) : Value) := rq' 3
              refine bodyPost_ret (v := .agg #[(.int .i64 x.op), (.int .i64 x.n), (.slice k3 x.inn.length m3), (.slice k4 x.kids.length m4)]) (by simp [results, Tryz.results113, go_sem, rq0, rq1, rq2, rq3]) rfl ?_
              exact ⟨k3, m3, k4, m4, by rw [hJ.out], hM8.ex, by rw [hJ.out]; exact mono_FmR _ _ _ _ hM8.ub hE⟩
            · rw [Bool.not_eq_true] at hq
              have hbf : Hid (badJ 4 x = false) := Lib.hid (by unfold badJ; rw [hq]; simp)
              rw [hq] at hnv
              replace hq := Lib.hid hq
              go_wp2_with fail
              refine RetV_at (hnv.out _ (Ext.rfl' _)) ?_
              intro w3 hx3
              replace hM := hM.ext hx3
              replace z0 := (hx3).cell1 z0
              replace z1 := (hx3).cell1 z1
              replace z2 := (hx3).cell1 z2
              replace z3 := (hx3).cell1 z3
              replace zl := cell_lt z0
              clear hnv hx3
              by_cases hx0 : x.op = 0
              · have bx : (x.op != 0) = false := by simp [hx0]
                have bx2 : (x.op == 0) = true := by simp [hx0]
                replace hx0 := Lib.hid hx0
                clear hE
                go_wp2_with fail
                go_roundw
                case rel =>
                  refine ⟨k + 1, H', by omega, by go_num, hM, by rw [putF_skip hxk.out hx0.out]; exact hput, hlH, Lib.hid fun j y hj hjk => ?_⟩
                  by_cases e : j = k
                  · subst e; rw [hxk.out] at hj; cases hj; exact hbf.out
                  · exact hno.out j y hj (by omega)
                case measure => simp [intOf]; omega
              · have bx : (x.op != 0) = true := by simp [hx0]
                have bx2 : (x.op == 0) = false := by simp [hx0]
                replace hx0 := Lib.hid hx0
                have hP := rput_c (H := H') (putF out k) x _ _ w3 hM.ple hput hE hxb hxm.out (by omega)
                simp only [fmC] at hP
                go_wp2_with fail
                refine hP.mono ?_
                rintro e w4 ⟨v', rfl, hx4, hR4⟩
                have hM4 := hM.up hx4
                have hl4 : PLe H' (up H' w3 w4) := ple_up hM.ple
                generalize up H' w3 w4 = H4 at *
                clear hP hM z0 z1 z2 z3 zl hE hput
                go_wp2_with fail
                go_roundw
                case rel =>
                  refine ⟨k + 1, H4, by omega, by go_num, hM4, by rw [putF_put hxk.out hx0.out]; exact hR4, hlH.trans hl4, Lib.hid fun j y hj hjk => ?_⟩
                  by_cases e : j = k
                  · subst e; rw [hxk.out] at hj; cases hj; exact hbf.out
                  · exact hno.out j y hj (by omega)
                case measure => simp [intOf]; omega
          · have n4 : ((5 : Int) == 4) = false := rfl
            have n5 : ((5 : Int) == 5) = true := rfl
            clear hnv
            by_cases hx0 : x.op = 0
            · have bx : (x.op != 0) = false := by simp [hx0]
              have bx2 : (x.op == 0) = true := by simp [hx0]
              have hbt : badJ 5 x = true := by unfold badJ; simp [hx0]
              replace hx0 := Lib.hid hx0
              have hJ : Hid (J = x) := Lib.hid (hbadx.out k x hxk.out hbt)
              clear hbadx hgood hput hno hab hwo hxm hR6
              have rz0 : _ = some (Value.int .i64 0) := (hM.box 0 rfl).facts.1 0
              have rz1 : _ = some (Value.int .i64 0) := (hM.box 0 rfl).facts.1 1
              have rz2 : _ = some (Value.slice none 0 0) := (hM.box 0 rfl).facts.1 2
              have rz3 : _ = some (Value.slice none 0 0) := (hM.box 0 rfl).facts.1 3
              obtain ⟨-, rzf⟩ := (hM.box 0 rfl).facts
              have rzl := (hM.box 0 rfl).lt
              have hM8 := hM.set4 0 rfl (.int .i64 x.op) (.int .i64 x.n) (.slice k3 x.inn.length m3) (.slice k4 x.kids.length m4)
              simp only [List.set_cons_zero, List.set_cons_succ] at hM8
              clear hM
              go_wp2_with fail
              generalize World.setCell _ _ _ = w9 at *
              obtain ⟨rq', -⟩ := (hM8.box 0 rfl).facts
              have rq0 : _ = some ((.int .i64 x.op) : Value) := rq' 0
              have rq1 : _ = some ((.int .i64 x.n) : Value) := rq' 1
              have rq2 : _ = some ((.slice k3 x.inn.length m3) : Value) := rq' 2
              have rq3 : _ = some ((.slice k4 x.kids.length m4) : Value) := rq' 3
              refine bodyPost_ret (v := .agg #[(.int .i64 x.op), (.int .i64 x.n), (.slice k3 x.inn.length m3), (.slice k4 x.kids.length m4)]) (by simp [results, Tryz.results113, go_sem, rq0, rq1, rq2, rq3]) rfl ?_
              exact ⟨k3, m3, k4, m4, by rw [hJ.out], hM8.ex, by rw [hJ.out]; exact mono_FmR _ _ _ _ hM8.ub hE⟩
            · have bx : (x.op != 0) = true := by simp [hx0]
              have bx2 : (x.op == 0) = false := by simp [hx0]
              have hbf : Hid (badJ 5 x = false) := Lib.hid (by unfold badJ; simp [hx0])
              replace hx0 := Lib.hid hx0
              have hP := rput_c (H := H') (putF out k) x _ _ wr hM.ple hput hE hxb hxm.out (by omega)
              simp only [fmC] at hP
              go_wp2_with fail
              refine hP.mono ?_
              rintro e w4 ⟨v', rfl, hx4, hR4⟩
              have hM4 := hM.up hx4
              have hl4 : PLe H' (up H' wr w4) := ple_up hM.ple
              generalize up H' wr w4 = H4 at *
              clear hP hM z0 z1 z2 z3 zl hE hput
              go_wp2_with fail
              go_roundw
              case rel =>
                refine ⟨k + 1, H4, by omega, by go_num, hM4, by rw [putF_put hxk.out hx0.out]; exact hR4, hlH.trans hl4, Lib.hid fun j y hj hjk => ?_⟩
                by_cases e : j = k
                · subst e; rw [hxk.out] at hj; cases hj; exact hbf.out
                · exact hno.out j y hj (by omega)
              case measure => simp [intOf]; omega
        · obtain rfl : k = out.length := by omega
          have hJ := Lib.hid (hgood.out fun x hx => by
            obtain ⟨j, hj, e⟩ := List.getElem_of_mem hx
            exact hno.out j x (by rw [← e]; exact List.getElem?_eq_getElem hj) hj)
          clear hbadx hgood hno hab hwo hR6 hlt
          generalize putF out out.length = R at *
          by_cases h1 : R.length = 1
          · obtain ⟨x, rfl⟩ : ∃ x, R = [x] := List.length_eq_one_iff.1 h1
            have b1 : ((([x] : List Fm).length : Int) == 1) = true := rfl
            obtain ⟨kb, ko, k3, m3, k4, m4, ek, z0, z1, z2, z3, hE, zl⟩ := FmsR.atH hput hM.ple 0 (by simp)
            cases ek
            simp only [Nat.zero_mul, Nat.add_zero, List.getElem_cons_zero] at z0 z1 z2 z3 hE
            replace hJ : Hid (J = x) := Lib.hid hJ.out
            clear hput h1
            have rz0 : _ = some (Value.int .i64 0) := (hM.box 0 rfl).facts.1 0
            have rz1 : _ = some (Value.int .i64 0) := (hM.box 0 rfl).facts.1 1
            have rz2 : _ = some (Value.slice none 0 0) := (hM.box 0 rfl).facts.1 2
            have rz3 : _ = some (Value.slice none 0 0) := (hM.box 0 rfl).facts.1 3
            obtain ⟨-, rzf⟩ := (hM.box 0 rfl).facts
            have rzl := (hM.box 0 rfl).lt
            have hM8 := hM.set4 0 rfl (.int .i64 x.op) (.int .i64 x.n) (.slice k3 x.inn.length m3) (.slice k4 x.kids.length m4)
            simp only [List.set_cons_zero, List.set_cons_succ] at hM8
            clear hM
            go_wp2_with fail
            generalize World.setCell _ _ _ = w9 at *
            obtain ⟨rq', -⟩ := (hM8.box 0 rfl).facts
            have rq0 : _ = some ((.int .i64 x.op) : Value) := rq' 0
            have rq1 : _ = some ((.int .i64 x.n) : Value) := rq' 1
            have rq2 : _ = some ((.slice k3 x.inn.length m3) : Value) := rq' 2
            have rq3 : _ = some ((.slice k4 x.kids.length m4) : Value) := rq' 3
            refine bodyPost_ret (v := .agg #[(.int .i64 x.op), (.int .i64 x.n), (.slice k3 x.inn.length m3), (.slice k4 x.kids.length m4)]) (by simp [results, Tryz.results113, go_sem, rq0, rq1, rq2, rq3]) rfl ?_
            exact ⟨k3, m3, k4, m4, by rw [hJ.out], hM8.ex, by rw [hJ.out]; exact mono_FmR _ _ _ _ hM8.ub hE⟩
          · have b1 : ((R.length : Int) == 1) = false := by simp; omega
            rcases hop with rfl | rfl
            · have n4 : ((4 : Int) == 4) = true := rfl
              by_cases h2 : R.length = 0
              · have b2 : ((R.length : Int) == 0) = true := by simp [h2]
                obtain rfl : R = [] := List.length_eq_zero_iff.1 h2
                replace hJ : Hid (J = noF) := Lib.hid hJ.out
                clear hput h1
                have rz0 : _ = some (Value.int .i64 0) := (hM.box 0 rfl).facts.1 0
                have rz1 : _ = some (Value.int .i64 0) := (hM.box 0 rfl).facts.1 1
                have rz2 : _ = some (Value.slice none 0 0) := (hM.box 0 rfl).facts.1 2
                have rz3 : _ = some (Value.slice none 0 0) := (hM.box 0 rfl).facts.1 3
                obtain ⟨-, rzf⟩ := (hM.box 0 rfl).facts
                have rzl := (hM.box 0 rfl).lt
                have hM8 := hM.set4 0 rfl (.int .i64 0) (.int .i64 0) (.slice none 0 0) (.slice none 0 0)
                simp only [List.set_cons_zero, List.set_cons_succ] at hM8
                clear hM
                go_wp2_with fail
                generalize World.setCell _ _ _ = w9 at *
                obtain ⟨rq', -⟩ := (hM8.box 0 rfl).facts
                have rq0 : _ = some ((.int .i64 0) : Value) := rq' 0
                have rq1 : _ = some ((.int .i64 0) : Value) := rq' 1
                have rq2 : _ = some ((.slice none 0 0) : Value) := rq' 2
                have rq3 : _ = some ((.slice none 0 0) : Value) := rq' 3
                refine bodyPost_ret (v := .agg #[(.int .i64 0), (.int .i64 0), (.slice none 0 0), (.slice none 0 0)]) (by simp [results, Tryz.results113, go_sem, rq0, rq1, rq2, rq3]) rfl ?_
                exact ⟨none, 0, none, 0, by rw [hJ.out]; rfl, hM8.ex, by rw [hJ.out]; exact noF_R _⟩
              · have b2 : ((R.length : Int) == 0) = false := by rw [beq_eq_false_iff_ne]; omega
                rw [endJ_many h1 (fun e => absurd e h2)] at hJ
                clear h1 h2
                have hFR : FmR H' (fmC (.mk 4 0 [] R) none 0 ua uc) (.mk 4 0 [] R) := FmR.of (f := .mk 4 0 [] R) (by simp [I64, Fm.op]) (by simp [I64, Fm.n]) (SliceRep.nil _ _ _) hput
                clear hput
                generalize hN0 : R.length = N at *
                have hRN := Lib.hid hN0
                clear hN0
                have rz0 : _ = some (Value.int .i64 0) := (hM.box 0 rfl).facts.1 0
                have rz1 : _ = some (Value.int .i64 0) := (hM.box 0 rfl).facts.1 1
                have rz2 : _ = some (Value.slice none 0 0) := (hM.box 0 rfl).facts.1 2
                have rz3 : _ = some (Value.slice none 0 0) := (hM.box 0 rfl).facts.1 3
                obtain ⟨-, rzf⟩ := (hM.box 0 rfl).facts
                have rzl := (hM.box 0 rfl).lt
                have hM8 := hM.set4 0 rfl (.int .i64 4) (.int .i64 0) (.slice none 0 0) (.slice ua N uc)
                simp only [List.set_cons_zero, List.set_cons_succ] at hM8
                clear hM
                go_wp2_with fail
                generalize World.setCell _ _ _ = w9 at *
                obtain ⟨rq', -⟩ := (hM8.box 0 rfl).facts
                have rq0 : _ = some ((.int .i64 4) : Value) := rq' 0
                have rq1 : _ = some ((.int .i64 0) : Value) := rq' 1
                have rq2 : _ = some ((.slice none 0 0) : Value) := rq' 2
                have rq3 : _ = some ((.slice ua N uc) : Value) := rq' 3
                refine bodyPost_ret (v := .agg #[(.int .i64 4), (.int .i64 0), (.slice none 0 0), (.slice ua N uc)]) (by simp [results, Tryz.results113, go_sem, rq0, rq1, rq2, rq3]) rfl ?_
                exact ⟨none, 0, ua, uc, by rw [hJ.out, ← hRN.out]; rfl, hM8.ex, by rw [hJ.out]; exact mono_FmR _ _ _ _ hM8.ub hFR⟩
            · have n4 : ((5 : Int) == 4) = false := rfl
              rw [endJ_many h1 (fun e => by decide)] at hJ
              clear h1
              by_cases h2 : R.length = 0
              · have b2 : ((R.length : Int) == 0) = true := by simp [h2]
                clear h2
                have hFR : FmR H' (fmC (.mk 5 0 [] R) none 0 ua uc) (.mk 5 0 [] R) := FmR.of (f := .mk 5 0 [] R) (by simp [I64, Fm.op]) (by simp [I64, Fm.n]) (SliceRep.nil _ _ _) hput
                clear hput
                generalize hN0 : R.length = N at *
                have hRN := Lib.hid hN0
                clear hN0
                have rz0 : _ = some (Value.int .i64 0) := (hM.box 0 rfl).facts.1 0
                have rz1 : _ = some (Value.int .i64 0) := (hM.box 0 rfl).facts.1 1
                have rz2 : _ = some (Value.slice none 0 0) := (hM.box 0 rfl).facts.1 2
                have rz3 : _ = some (Value.slice none 0 0) := (hM.box 0 rfl).facts.1 3
                obtain ⟨-, rzf⟩ := (hM.box 0 rfl).facts
                have rzl := (hM.box 0 rfl).lt
                have hM8 := hM.set4 0 rfl (.int .i64 5) (.int .i64 0) (.slice none 0 0) (.slice ua N uc)
                simp only [List.set_cons_zero, List.set_cons_succ] at hM8
                clear hM
                go_wp2_with fail
                generalize World.setCell _ _ _ = w9 at *
                obtain ⟨rq', -⟩ := (hM8.box 0 rfl).facts
                have rq0 : _ = some ((.int .i64 5) : Value) := rq' 0
                have rq1 : _ = some ((.int .i64 0) : Value) := rq' 1
                have rq2 : _ = some ((.slice none 0 0) : Value) := rq' 2
                have rq3 : _ = some ((.slice ua N uc) : Value) := rq' 3
                refine bodyPost_ret (v := .agg #[(.int .i64 5), (.int .i64 0), (.slice none 0 0), (.slice ua N uc)]) (by simp [results, Tryz.results113, go_sem, rq0, rq1, rq2, rq3]) rfl ?_
                exact ⟨none, 0, ua, uc, by rw [hJ.out, ← hRN.out]; rfl, hM8.ex, by rw [hJ.out]; exact mono_FmR _ _ _ _ hM8.ub hFR⟩
              · have b2 : ((R.length : Int) == 0) = false := by rw [beq_eq_false_iff_ne]; omega
                clear h2
                have hFR : FmR H' (fmC (.mk 5 0 [] R) none 0 ua uc) (.mk 5 0 [] R) := FmR.of (f := .mk 5 0 [] R) (by simp [I64, Fm.op]) (by simp [I64, Fm.n]) (SliceRep.nil _ _ _) hput
                clear hput
                generalize hN0 : R.length = N at *
                have hRN := Lib.hid hN0
                clear hN0
                have rz0 : _ = some (Value.int .i64 0) := (hM.box 0 rfl).facts.1 0
                have rz1 : _ = some (Value.int .i64 0) := (hM.box 0 rfl).facts.1 1
                have rz2 : _ = some (Value.slice none 0 0) := (hM.box 0 rfl).facts.1 2
                have rz3 : _ = some (Value.slice none 0 0) := (hM.box 0 rfl).facts.1 3
                obtain ⟨-, rzf⟩ := (hM.box 0 rfl).facts
                have rzl := (hM.box 0 rfl).lt
                have hM8 := hM.set4 0 rfl (.int .i64 5) (.int .i64 0) (.slice none 0 0) (.slice ua N uc)
                simp only [List.set_cons_zero, List.set_cons_succ] at hM8
                clear hM
                go_wp2_with fail
                generalize World.setCell _ _ _ = w9 at *
                obtain ⟨rq', -⟩ := (hM8.box 0 rfl).facts
                have rq0 : _ = some ((.int .i64 5) : Value) := rq' 0
                have rq1 : _ = some ((.int .i64 0) : Value) := rq' 1
                have rq2 : _ = some ((.slice none 0 0) : Value) := rq' 2
                have rq3 : _ = some ((.slice ua N uc) : Value) := rq' 3
                refine bodyPost_ret (v := .agg #[(.int .i64 5), (.int .i64 0), (.slice none 0 0), (.slice ua N uc)]) (by simp [results, Tryz.results113, go_sem, rq0, rq1, rq2, rq3]) rfl ?_
                exact ⟨none, 0, ua, uc, by rw [hJ.out, ← hRN.out]; rfl, hM8.ex, by rw [hJ.out]; exact mono_FmR _ _ _ _ hM8.ub hFR⟩
set_option maxRecDepth 100000 in
set_option maxHeartbeats 16000000 in
theorem reduced_c (f : Fm) : ∀ (H : PH) (cs : List Value) (w : World), PLe H (ph w) → FmR H cs f → wholeB f = true → f.bulk ≤ 400000 → Calls Tryz.prog 66 #[.agg cs.toArray] w (NewF w H (simpF f)) := by
  induction f using Fm.ind with
  | h f ih =>
    intro H cs w hl hr hw hb
    obtain ⟨a3, c3, a4, c4, rfl, i1, i2, -, -, hfi, hfk⟩ := hr.form
    have hbe := f.bulk_eq
    have hkl := f.kids_le
    have hwk : ∀ x ∈ f.kids, wholeB x = true := fun x hx => by
      have h2 := hw
      rw [wholeB_eq, Bool.and_eq_true, List.all_eq_true] at h2
      exact h2.2 x hx
    have HI := Lib.hid (fun x (hx : x ∈ f.kids) H' cs' wr hl' hr' => ih x hx H' cs' wr hl' hr' (hwk x hx) (by have := Fm.kid_le hx; omega))
    clear ih
    have hsum := sumN_map_mono (m := Fm.bulk) (g := simpF) f.kids fun x _ => simp_bulk x
    have hfo : formed1 f = true := by rw [wholeB_eq, Bool.and_eq_true] at hw; exact hw.1
    have hKl : (f.kids.map simpF).length = f.kids.length := List.length_map _
    have hKw : ∀ x ∈ f.kids.map simpF, wholeN 64 x = true := fun x hx => by
      obtain ⟨y, hy, rfl⟩ := List.mem_map.1 hx
      exact simp_whole y (wholeN_64 (hwk y hy))
    have hJ0 := simpF_eq f
    unfold fmC at *
    clear hr hw hwk
    have hM0 := ((Mem.start w H hl).new' #[.int .i64 f.op, .int .i64 f.n, .slice a3 f.inn.length c3, .slice a4 f.kids.length c4] 29 (n := w.heap.size) rfl).new' #[.int .i64 0, .int .i64 0, .slice none 0 0, .slice none 0 0] 29 (n := w.heap.size + 1) (by simp)
    simp only [List.cons_append, List.nil_append] at hM0
    have hM2 := hM0.nil mono_FmR 4 29
    simp only [List.cons_append, List.nil_append] at hM2
    replace hsum := Lib.hid hsum
    replace hKl := Lib.hid hKl
    replace hJ0 := Lib.hid hJ0
    clear hM0
    go_enter Tryz.func66, Tryz.ntmps66
    go_upto_region 1 with (fail)
    generalize World.alloc _ _ = w1 at *
    generalize hg4 : w.heap.size + 1 = g2 at *
    generalize hg3 : w.heap.size = g1 at *
    go_wp2_with fail
    go_loopw [3, 4] (fun v i wr => ∃ (k : Nat) (out : List Fm) (H' : PH), k ≤ f.kids.length ∧ i = .int .i64 k ∧ Mem w H [box g1 #[.int .i64 f.op, .int .i64 f.n, .slice a3 f.inn.length c3, .slice a4 f.kids.length c4] 29, box g2 #[.int .i64 0, .int .i64 0, .slice none 0 0, .slice none 0 0] 29, own mono_FmR 4 29 v out] H' wr ∧ Hid (out = (f.kids.take k).map simpF) ∧ out.length ≤ 1000000) (fun _ i _ => f.kids.length - (intOf i).toNat)
    case atStart => exact ⟨0, [], H, by omega, rfl, hM2, Lib.hid (by simp), by simp⟩
    case round =>
      clear hM2
      obtain ⟨k, out, H', hk2, rfl, hM, hout, hol⟩ := hrel
      obtain ⟨va, vc, rfl, -⟩ := hM.form 2 rfl
      have u3 : wr.cell? ⟨g1, 3, none⟩ = some (.slice a4 f.kids.length c4) := (hM.box 0 rfl).facts.1 3
      have ul := (hM.box 0 rfl).lt
      by_cases hlt : k < f.kids.length
      · obtain ⟨kb, ko, k3, m3, k4, m4, ek, z0, z1, z2, z3, hE, zl⟩ := FmsR.atH hfk (hM.le.trans hM.ple) k hlt
        cases ek
        have htk : Hid ((f.kids.take (k + 1)).map simpF = (f.kids.take k).map simpF ++ [simpF f.kids[k]]) := by
          show _ = _
          rw [List.take_succ_eq_append_getElem hlt, List.map_append]; rfl
        have hHx := HI.out f.kids[k] (List.getElem_mem hlt)
        generalize f.kids[k] = x at *
        have hH2 := hHx H' _ wr hM.ple (mono_FmR _ _ _ _ hM.le hE)
        unfold fmC at hH2
        clear hHx hE
        go_wp2_with fail
        refine hH2.mono ?_
        rintro e w4 ⟨p3, q3, p4, q4, rfl, hx4, hQ⟩
        have hM4 := hM.up hx4
        generalize up H' wr w4 = H4 at *
        clear hM hx4 hH2 u3 ul z0 z1 z2 z3 zl
        generalize simpF x = g at *
        unfold fmC at hQ
        have hM5 := hM4.ext (Ext.new w4 (.cells #[.int .i64 g.op, .int .i64 g.n, .slice p3 g.inn.length q3, .slice p4 g.kids.length q4] 29))
        have hS := Src.lit1 (E := FmR) (H := H4) (w := w4.alloc (.cells #[.int .i64 g.op, .int .i64 g.n, .slice p3 g.inn.length q3, .slice p4 g.kids.length q4] 29)) (b := w4.heap.size) (sz := 4) hQ rfl (fun j => by rw [(Proofs.YtbpilielamjnoaaGreat.Own.new w4 #[.int .i64 g.op, .int .i64 g.n, .slice p3 g.inn.length q3, .slice p4 g.kids.length q4] 29).facts.1 j]; simp)
        clear hM4
        go_wp2_with (first | (at_builtin; refine wpList_append_M 2 rfl _ _ 23 rfl Tryz.underlying23 infoFm rfl rfl rfl hM5 rfl hS one_FmR (by simp; omega) (by simp; omega) ?c5))
        case c5 =>
        intro v' w' hM6
        try simp only [List.set_cons_zero, List.set_cons_succ] at hM6
        clear hM5 hS
        obtain ⟨na, nc, rfl, -⟩ := hM6.form 2 rfl
        have hol2 : out.length = k := by rw [hout.out, List.length_map, List.length_take]; omega
        go_wp2_with fail
        go_roundw
        case rel => exact ⟨k + 1, out ++ [g], H4, by omega, by go_num, hM6, Lib.hid (by rw [htk.out, hout.out]), by simp; omega⟩
        case measure => simp [intOf]; omega
      · obtain rfl : k = f.kids.length := by omega
        have e3 := (hM.box 0 rfl).facts.2 3
        obtain ⟨H1, hl1, hM5, hFK⟩ := hM.freezeS 2 rfl
        replace hM5 := hM5.pick [0, 1] (by decide)
        simp only [List.set_cons_succ, List.set_cons_zero, List.map_cons, List.map_nil, List.getElem?_cons_zero, List.getElem?_cons_succ, Option.getD_some] at hM5
        have hout' : out = f.kids.map simpF := by rw [hout.out, List.take_length]
        have hfi5 := hfi.mono mono_ItvR hM5.le
        clear hM hout hol hlt
        replace hsum := hsum.out
        replace hKl := hKl.out
        replace hJ0 := hJ0.out
        rw [← hout'] at hsum hKl hKw hJ0
        clear hout' HI
        have hM7 := hM5.set 0 rfl 3 (.slice va out.length vc)
        simp only [List.set_cons_zero, List.setIfInBounds_toArray, List.set_cons_succ] at hM7
        clear hM5
        generalize out = K at *
        have hF : FmR H1 (fmC (.mk f.op f.n f.inn K) a3 c3 va vc) (.mk f.op f.n f.inn K) := FmR.of (f := .mk f.op f.n f.inn K) i1 i2 hfi5 hFK
        generalize simpF f = J at *
        have hb4 : sumN Fm.bulk K ≤ 400000 := by omega
        clear hb hbe hkl hsum
        have hfo2 : (f.op = 3 ∨ f.op = 6) → ∃ g, K = [g] := fun h => by
          obtain ⟨g, hg⟩ := formed_one hfo h
          rw [hg] at hKl
          match K, hKl with
          | [x], _ => exact ⟨x, rfl⟩
        clear hKl hfo i1 i2 hfk hfi hfi5
        replace hJ0 := Lib.hid hJ0
        go_upto_region 7 with (fail)
        generalize World.setCell _ _ _ = w3 at *
        replace hJ0 := hJ0.out
        generalize f.op = op at *
        generalize f.n = n at *
        generalize f.inn = inn at *
        generalize f.kids = fk at *
        clear u3 ul e3
        rename Mem w H _ H1 w3 => hM3
        generalize a3 = p3 at *
        generalize c3 = q3 at *
        generalize va = p4 at *
        generalize vc = q4 at *
        have u0 : w3.cell? ⟨g1, 0, none⟩ = some (.int .i64 op) := (hM3.box 0 rfl).facts.1 0
        have u1 : w3.cell? ⟨g1, 1, none⟩ = some (.int .i64 n) := (hM3.box 0 rfl).facts.1 1
        have u2 : w3.cell? ⟨g1, 2, none⟩ = some (.slice p3 inn.length q3) := (hM3.box 0 rfl).facts.1 2
        have u3 : w3.cell? ⟨g1, 3, none⟩ = some (.slice p4 K.length q4) := (hM3.box 0 rfl).facts.1 3
        have ul := (hM3.box 0 rfl).lt
        by_cases h2 : op = 2
        · have b2 : (op == 2) = true := by simpa using h2
          by_cases hi0 : inn = []
          · have hJ : Hid (J = neverF) := by show _ = _; rw [hJ0]; unfold nodeS; rw [if_pos h2, if_pos hi0]
            have b0 : ((inn.length : Int) == 0) = true := by rw [hi0]; rfl
            clear hJ0 h2 hfo2 hKw hi0
            skip
            have rz0 : _ = some (Value.int .i64 0) := (hM3.box 1 rfl).facts.1 0
            have rz1 : _ = some (Value.int .i64 0) := (hM3.box 1 rfl).facts.1 1
            have rz2 : _ = some (Value.slice none 0 0) := (hM3.box 1 rfl).facts.1 2
            have rz3 : _ = some (Value.slice none 0 0) := (hM3.box 1 rfl).facts.1 3
            obtain ⟨-, rzf⟩ := (hM3.box 1 rfl).facts
            have rzl := (hM3.box 1 rfl).lt
            have hM8 := hM3.set4 1 rfl (.int .i64 5) (.int .i64 0) (.slice none 0 0) (.slice none 0 0)
            simp only [List.set_cons_zero, List.set_cons_succ] at hM8
            clear hM3
            go_wp2_with fail
            generalize World.setCell _ _ _ = w9 at *
            obtain ⟨rq', -⟩ := (hM8.box 1 rfl).facts
            have rq0 : _ = some ((.int .i64 5) : Value) := rq' 0
            have rq1 : _ = some ((.int .i64 0) : Value) := rq' 1
            have rq2 : _ = some ((.slice none 0 0) : Value) := rq' 2
            have rq3 : _ = some ((.slice none 0 0) : Value) := rq' 3
            refine bodyPost_ret (v := .agg #[(.int .i64 5), (.int .i64 0), (.slice none 0 0), (.slice none 0 0)]) (by simp [results, Tryz.results66, go_sem, rq0, rq1, rq2, rq3]) rfl ?_
            exact ⟨none, 0, none, 0, by rw [hJ.out]; rfl, hM8.ex, by rw [hJ.out]; exact neverF_R _⟩
          · have hJ : Hid (J = .mk op n inn K) := by show _ = _; rw [hJ0]; unfold nodeS; rw [if_pos h2, if_neg hi0]
            have b0 : ((inn.length : Int) == 0) = false := by
              rw [beq_eq_false_iff_ne]; intro e; exact hi0 (List.length_eq_zero_iff.1 (by omega))
            clear hJ0 h2 hfo2 hKw hi0
            have rz0 : _ = some (Value.int .i64 0) := (hM3.box 1 rfl).facts.1 0
            have rz1 : _ = some (Value.int .i64 0) := (hM3.box 1 rfl).facts.1 1
            have rz2 : _ = some (Value.slice none 0 0) := (hM3.box 1 rfl).facts.1 2
            have rz3 : _ = some (Value.slice none 0 0) := (hM3.box 1 rfl).facts.1 3
            obtain ⟨-, rzf⟩ := (hM3.box 1 rfl).facts
            have rzl := (hM3.box 1 rfl).lt
            have hM8 := hM3.set4 1 rfl (.int .i64 op) (.int .i64 n) (.slice p3 inn.length q3) (.slice p4 K.length q4)
            simp only [List.set_cons_zero, List.set_cons_succ] at hM8
            clear hM3
            go_wp2_with fail
            generalize World.setCell _ _ _ = w9 at *
            obtain ⟨rq', -⟩ := (hM8.box 1 rfl).facts
            have rq0 : _ = some ((.int .i64 op) : Value) := rq' 0
            have rq1 : _ = some ((.int .i64 n) : Value) := rq' 1
            have rq2 : _ = some ((.slice p3 inn.length q3) : Value) := rq' 2
            have rq3 : _ = some ((.slice p4 K.length q4) : Value) := rq' 3
            refine bodyPost_ret (v := .agg #[(.int .i64 op), (.int .i64 n), (.slice p3 inn.length q3), (.slice p4 K.length q4)]) (by simp [results, Tryz.results66, go_sem, rq0, rq1, rq2, rq3]) rfl ?_
            exact ⟨p3, q3, p4, q4, by rw [hJ.out]; rfl, hM8.ex, by rw [hJ.out]; exact mono_FmR _ _ _ _ hM8.ub hF⟩
        have b2 : (op == 2) = false := by simpa using h2
        by_cases h3 : op = 3
        · have b3 : (op == 3) = true := by simpa using h3
          obtain ⟨g, rfl⟩ := hfo2 (.inl h3)
          obtain ⟨kb, ko, k3, m3, k4, m4, ek, z0, z1, z2, z3, hE, zl⟩ := FmsR.atH hFK hM3.ple 0 (by simp)
          cases ek
          simp only [List.getElem_cons_zero, Nat.zero_mul, Nat.add_zero] at z0 z1 z2 z3 hE
          have hnv := fun W (e : Ext w3 W) => rnever_c g _ W (mono_FmR _ _ _ _ (hM3.ple.trans e.ple) hE)
          unfold fmC at hnv
          cases hn : neverB g with
          | true =>
            have hJ : Hid (J = neverF) := by
              show _ = _; rw [hJ0]; unfold nodeS; rw [if_neg h2, if_pos h3, if_pos (by exact hn)]
            have hJg : Hid (J = g) := Lib.hid (hJ.out.trans (never_eq (wholeN_B (hKw g (by simp))) hn).symm)
            clear hJ
            have hJ := hJg
            clear hJg
            rw [hn] at hnv
            replace hnv := Lib.hid hnv
            clear hJ0 h2 h3 hfo2 hKw hn
            go_wp2_with fail
            refine RetV_at (hnv.out _ xE) ?_
            intro w4 hx4
            have hM4 := hM3.ext hx4
            replace z0 := hx4.cell1 z0
            replace z1 := hx4.cell1 z1
            replace z2 := hx4.cell1 z2
            replace z3 := hx4.cell1 z3
            replace zl := cell_lt z0
            clear hM3 hx4 hnv u0 u1 u2 u3 ul
            have rz0 : _ = some (Value.int .i64 0) := (hM4.box 1 rfl).facts.1 0
            have rz1 : _ = some (Value.int .i64 0) := (hM4.box 1 rfl).facts.1 1
            have rz2 : _ = some (Value.slice none 0 0) := (hM4.box 1 rfl).facts.1 2
            have rz3 : _ = some (Value.slice none 0 0) := (hM4.box 1 rfl).facts.1 3
            obtain ⟨-, rzf⟩ := (hM4.box 1 rfl).facts
            have rzl := (hM4.box 1 rfl).lt
            have hM8 := hM4.set4 1 rfl (.int .i64 g.op) (.int .i64 g.n) (.slice k3 g.inn.length m3) (.slice k4 g.kids.length m4)
            simp only [List.set_cons_zero, List.set_cons_succ] at hM8
            clear hM4
            go_wp2_with fail
            generalize World.setCell _ _ _ = w9 at *
            obtain ⟨rq', -⟩ := (hM8.box 1 rfl).facts
            have rq0 : _ = some ((.int .i64 g.op) : Value) := rq' 0
            have rq1 : _ = some ((.int .i64 g.n) : Value) := rq' 1
            have rq2 : _ = some ((.slice k3 g.inn.length m3) : Value) := rq' 2
            have rq3 : _ = some ((.slice k4 g.kids.length m4) : Value) := rq' 3
            refine bodyPost_ret (v := .agg #[(.int .i64 g.op), (.int .i64 g.n), (.slice k3 g.inn.length m3), (.slice k4 g.kids.length m4)]) (by simp [results, Tryz.results66, go_sem, rq0, rq1, rq2, rq3]) rfl ?_
            exact ⟨k3, m3, k4, m4, by rw [hJ.out], hM8.ex, by rw [hJ.out]; exact mono_FmR _ _ _ _ hM8.ub hE⟩
          | false =>
            have hJ : Hid (J = .mk op n inn [g]) := by
              show _ = _; rw [hJ0]; unfold nodeS; rw [if_neg h2, if_pos h3, if_neg (by rw [show neverB ([g].headD noF) = false from hn]; simp)]
            rw [hn] at hnv
            replace hnv := Lib.hid hnv
            clear hJ0 h2 h3 hfo2 hKw hn
            go_wp2_with fail
            refine RetV_at (hnv.out _ xE) ?_
            intro w4 hx4
            have hM4 := hM3.ext hx4
            clear hM3 hx4 hnv z0 z1 z2 z3 zl u0 u1 u2 u3 ul
            generalize (some ⟨kb, ko, none⟩ : Option Addr) = p4 at *
            obtain ⟨N1, hN1⟩ : ∃ N, Hid (N = ([g] : List Fm).length) := ⟨_, rfl⟩
            rw [← hN1.out] at hM4
            have u0 : w4.cell? ⟨g1, 0, none⟩ = some (.int .i64 op) := (hM4.box 0 rfl).facts.1 0
            have u1 : w4.cell? ⟨g1, 1, none⟩ = some (.int .i64 n) := (hM4.box 0 rfl).facts.1 1
            have u2 : w4.cell? ⟨g1, 2, none⟩ = some (.slice p3 inn.length q3) := (hM4.box 0 rfl).facts.1 2
            have u3 : w4.cell? ⟨g1, 3, none⟩ = some (.slice p4 N1 q4) := (hM4.box 0 rfl).facts.1 3
            have ul := (hM4.box 0 rfl).lt
            have rz0 : _ = some (Value.int .i64 0) := (hM4.box 1 rfl).facts.1 0
            have rz1 : _ = some (Value.int .i64 0) := (hM4.box 1 rfl).facts.1 1
            have rz2 : _ = some (Value.slice none 0 0) := (hM4.box 1 rfl).facts.1 2
            have rz3 : _ = some (Value.slice none 0 0) := (hM4.box 1 rfl).facts.1 3
            obtain ⟨-, rzf⟩ := (hM4.box 1 rfl).facts
            have rzl := (hM4.box 1 rfl).lt
            have hM8 := hM4.set4 1 rfl (.int .i64 op) (.int .i64 n) (.slice p3 inn.length q3) (.slice p4 N1 q4)
            simp only [List.set_cons_zero, List.set_cons_succ] at hM8
            clear hM4
            go_wp2_with fail
            generalize World.setCell _ _ _ = w9 at *
            obtain ⟨rq', -⟩ := (hM8.box 1 rfl).facts
            have rq0 : _ = some ((.int .i64 op) : Value) := rq' 0
            have rq1 : _ = some ((.int .i64 n) : Value) := rq' 1
            have rq2 : _ = some ((.slice p3 inn.length q3) : Value) := rq' 2
            have rq3 : _ = some ((.slice p4 N1 q4) : Value) := rq' 3
            refine bodyPost_ret (v := .agg #[(.int .i64 op), (.int .i64 n), (.slice p3 inn.length q3), (.slice p4 N1 q4)]) (by simp [results, Tryz.results66, go_sem, rq0, rq1, rq2, rq3]) rfl ?_
            exact ⟨p3, q3, p4, q4, by rw [hJ.out, hN1.out]; rfl, hM8.ex, by rw [hJ.out]; exact mono_FmR _ _ _ _ hM8.ub hF⟩
        have b3 : (op == 3) = false := by simpa using h3
        by_cases h6 : op = 6
        · have b6 : (op == 6) = true := by simpa using h6
          obtain ⟨g, rfl⟩ := hfo2 (.inr h6)
          obtain ⟨kb, ko, k3, m3, k4, m4, ek, z0, z1, z2, z3, hE, zl⟩ := FmsR.atH hFK hM3.ple 0 (by simp)
          cases ek
          simp only [List.getElem_cons_zero, Nat.zero_mul, Nat.add_zero] at z0 z1 z2 z3 hE
          have hgw := hKw g (by simp)
          have hM4 := hM3
          clear hM3
          by_cases h0 : g.op = 0
          · have c0 : (g.op == 0) = true := by simpa using h0
            have hJ : Hid (J = neverF) := by
              show _ = _; rw [hJ0]; unfold nodeS; rw [if_neg h2, if_neg h3, if_pos h6, if_pos (by exact h0)]
            clear hJ0 h2 h3 h6 h0
            have rz0 : _ = some (Value.int .i64 0) := (hM4.box 1 rfl).facts.1 0
            have rz1 : _ = some (Value.int .i64 0) := (hM4.box 1 rfl).facts.1 1
            have rz2 : _ = some (Value.slice none 0 0) := (hM4.box 1 rfl).facts.1 2
            have rz3 : _ = some (Value.slice none 0 0) := (hM4.box 1 rfl).facts.1 3
            obtain ⟨-, rzf⟩ := (hM4.box 1 rfl).facts
            have rzl := (hM4.box 1 rfl).lt
            have hM8 := hM4.set4 1 rfl (.int .i64 5) (.int .i64 0) (.slice none 0 0) (.slice none 0 0)
            simp only [List.set_cons_zero, List.set_cons_succ] at hM8
            clear hM4
            go_wp2_with fail
            generalize World.setCell _ _ _ = w9 at *
            obtain ⟨rq', -⟩ := (hM8.box 1 rfl).facts
            have rq0 : _ = some ((.int .i64 5) : Value) := rq' 0
            have rq1 : _ = some ((.int .i64 0) : Value) := rq' 1
            have rq2 : _ = some ((.slice none 0 0) : Value) := rq' 2
            have rq3 : _ = some ((.slice none 0 0) : Value) := rq' 3
            refine bodyPost_ret (v := .agg #[(.int .i64 5), (.int .i64 0), (.slice none 0 0), (.slice none 0 0)]) (by simp [results, Tryz.results66, go_sem, rq0, rq1, rq2, rq3]) rfl ?_
            exact ⟨none, 0, none, 0, by rw [hJ.out]; rfl, hM8.ex, by rw [hJ.out]; exact neverF_R _⟩
          have c0 : (g.op == 0) = false := by simpa using h0
          have hnv := fun W (e : Ext w3 W) => rnever_c g _ W (mono_FmR _ _ _ _ (hM4.ple.trans e.ple) hE)
          unfold fmC at hnv
          cases hn : neverB g with
          | true =>
            have hJ : Hid (J = noF) := by
              show _ = _; rw [hJ0]; unfold nodeS; rw [if_neg h2, if_neg h3, if_pos h6, if_neg (by exact h0), if_pos (by exact hn)]
            rw [hn] at hnv
            replace hnv := Lib.hid hnv
            clear hJ0 h2 h3 h6 h0 hn
            go_wp2_with fail
            refine RetV_at (hnv.out _ xE) ?_
            intro w5 hx5
            have hM5 := hM4.ext hx5
            clear hM4 hx5 hnv
            have rz0 : _ = some (Value.int .i64 0) := (hM5.box 1 rfl).facts.1 0
            have rz1 : _ = some (Value.int .i64 0) := (hM5.box 1 rfl).facts.1 1
            have rz2 : _ = some (Value.slice none 0 0) := (hM5.box 1 rfl).facts.1 2
            have rz3 : _ = some (Value.slice none 0 0) := (hM5.box 1 rfl).facts.1 3
            obtain ⟨-, rzf⟩ := (hM5.box 1 rfl).facts
            have rzl := (hM5.box 1 rfl).lt
            have hM8 := hM5.set4 1 rfl (.int .i64 0) (.int .i64 0) (.slice none 0 0) (.slice none 0 0)
            simp only [List.set_cons_zero, List.set_cons_succ] at hM8
            clear hM5
            go_wp2_with fail
            generalize World.setCell _ _ _ = w9 at *
            obtain ⟨rq', -⟩ := (hM8.box 1 rfl).facts
            have rq0 : _ = some ((.int .i64 0) : Value) := rq' 0
            have rq1 : _ = some ((.int .i64 0) : Value) := rq' 1
            have rq2 : _ = some ((.slice none 0 0) : Value) := rq' 2
            have rq3 : _ = some ((.slice none 0 0) : Value) := rq' 3
            refine bodyPost_ret (v := .agg #[(.int .i64 0), (.int .i64 0), (.slice none 0 0), (.slice none 0 0)]) (by simp [results, Tryz.results66, go_sem, rq0, rq1, rq2, rq3]) rfl ?_
            exact ⟨none, 0, none, 0, by rw [hJ.out]; rfl, hM8.ex, by rw [hJ.out]; exact noF_R _⟩
          | false =>
            rw [hn] at hnv
            replace hnv := Lib.hid hnv
            go_wp2_with fail
            refine RetV_at (hnv.out _ xE) ?_
            intro w5 hx5
            have hM5 := hM4.ext hx5
            clear hM4 hnv
            replace z0 := hx5.cell1 z0
            replace z1 := hx5.cell1 z1
            replace z2 := hx5.cell1 z2
            replace z3 := hx5.cell1 z3
            replace zl := cell_lt z0
            replace u0 := hx5.cell1 u0
            replace u1 := hx5.cell1 u1
            replace u2 := hx5.cell1 u2
            replace u3 := hx5.cell1 u3
            replace ul := cell_lt u0
            clear hx5
            by_cases h66 : g.op = 6
            · have c6 : (g.op == 6) = true := by simpa using h66
              obtain ⟨g', hg'⟩ := formed_one (wholeN_formed hgw) (.inr h66)
              have hGK : FmsR H1 (.slice k4 g.kids.length m4) g.kids := FmR.kids_rep hE
              have hJ : Hid (J = g') := by
                show _ = _; rw [hJ0]; unfold nodeS; rw [if_neg h2, if_neg h3, if_pos h6, if_neg (by exact h0), if_neg (by rw [show neverB ([g].headD noF) = false from hn]; simp), if_pos (by exact h66)]
                show g.kids.headD noF = g'
                rw [hg']; rfl
              rw [hg'] at hGK
              have hl1 : g.kids.length = 1 := by rw [hg']; rfl
              rw [hl1] at z3
              obtain ⟨jb, jo, j3, n3, j4, n4, ej, x0, x1, x2, x3, hE', xl⟩ := FmsR.atH hGK hM5.ple 0 (by simp)
              cases ej
              simp only [List.getElem_cons_zero, Nat.zero_mul, Nat.add_zero] at x0 x1 x2 x3 hE'
              clear hJ0 h2 h3 h6 h0 hn h66 hg' hl1 hGK
              have rz0 : _ = some (Value.int .i64 0) := (hM5.box 1 rfl).facts.1 0
              have rz1 : _ = some (Value.int .i64 0) := (hM5.box 1 rfl).facts.1 1
              have rz2 : _ = some (Value.slice none 0 0) := (hM5.box 1 rfl).facts.1 2
              have rz3 : _ = some (Value.slice none 0 0) := (hM5.box 1 rfl).facts.1 3
              obtain ⟨-, rzf⟩ := (hM5.box 1 rfl).facts
              have rzl := (hM5.box 1 rfl).lt
              have hM8 := hM5.set4 1 rfl (.int .i64 g'.op) (.int .i64 g'.n) (.slice j3 g'.inn.length n3) (.slice j4 g'.kids.length n4)
              simp only [List.set_cons_zero, List.set_cons_succ] at hM8
              clear hM5
              go_wp2_with fail
              generalize World.setCell _ _ _ = w9 at *
              obtain ⟨rq', -⟩ := (hM8.box 1 rfl).facts
              have rq0 : _ = some ((.int .i64 g'.op) : Value) := rq' 0
              have rq1 : _ = some ((.int .i64 g'.n) : Value) := rq' 1
              have rq2 : _ = some ((.slice j3 g'.inn.length n3) : Value) := rq' 2
              have rq3 : _ = some ((.slice j4 g'.kids.length n4) : Value) := rq' 3
              refine bodyPost_ret (v := .agg #[(.int .i64 g'.op), (.int .i64 g'.n), (.slice j3 g'.inn.length n3), (.slice j4 g'.kids.length n4)]) (by simp [results, Tryz.results66, go_sem, rq0, rq1, rq2, rq3]) rfl ?_
              exact ⟨j3, n3, j4, n4, by rw [hJ.out], hM8.ex, by rw [hJ.out]; exact mono_FmR _ _ _ _ hM8.ub hE'⟩
            · have c6 : (g.op == 6) = false := by simpa using h66
              have hJ : Hid (J = .mk op n inn [g]) := by
                show _ = _; rw [hJ0]; unfold nodeS; rw [if_neg h2, if_neg h3, if_pos h6, if_neg (by exact h0), if_neg (by rw [show neverB ([g].headD noF) = false from hn]; simp), if_neg (by exact h66)]
              clear hJ0 h2 h3 h6 h0 hn h66
              go_upto_region 24 with (fail)
              clear z0 z1 z2 z3 zl u0 u1 u2 u3 ul
              generalize (some ⟨kb, ko, none⟩ : Option Addr) = p4 at *
              obtain ⟨N1, hN1⟩ : ∃ N, Hid (N = ([g] : List Fm).length) := ⟨_, rfl⟩
              rw [← hN1.out] at hM5
              have u0 : w5.cell? ⟨g1, 0, none⟩ = some (.int .i64 op) := (hM5.box 0 rfl).facts.1 0
              have u1 : w5.cell? ⟨g1, 1, none⟩ = some (.int .i64 n) := (hM5.box 0 rfl).facts.1 1
              have u2 : w5.cell? ⟨g1, 2, none⟩ = some (.slice p3 inn.length q3) := (hM5.box 0 rfl).facts.1 2
              have u3 : w5.cell? ⟨g1, 3, none⟩ = some (.slice p4 N1 q4) := (hM5.box 0 rfl).facts.1 3
              have ul := (hM5.box 0 rfl).lt
              have rz0 : _ = some (Value.int .i64 0) := (hM5.box 1 rfl).facts.1 0
              have rz1 : _ = some (Value.int .i64 0) := (hM5.box 1 rfl).facts.1 1
              have rz2 : _ = some (Value.slice none 0 0) := (hM5.box 1 rfl).facts.1 2
              have rz3 : _ = some (Value.slice none 0 0) := (hM5.box 1 rfl).facts.1 3
              obtain ⟨-, rzf⟩ := (hM5.box 1 rfl).facts
              have rzl := (hM5.box 1 rfl).lt
              have hM8 := hM5.set4 1 rfl (.int .i64 op) (.int .i64 n) (.slice p3 inn.length q3) (.slice p4 N1 q4)
              simp only [List.set_cons_zero, List.set_cons_succ] at hM8
              clear hM5
              go_wp2_with fail
              generalize World.setCell _ _ _ = w9 at *
              obtain ⟨rq', -⟩ := (hM8.box 1 rfl).facts
              have rq0 : _ = some ((.int .i64 op) : Value) := rq' 0
              have rq1 : _ = some ((.int .i64 n) : Value) := rq' 1
              have rq2 : _ = some ((.slice p3 inn.length q3) : Value) := rq' 2
              have rq3 : _ = some ((.slice p4 N1 q4) : Value) := rq' 3
              refine bodyPost_ret (v := .agg #[(.int .i64 op), (.int .i64 n), (.slice p3 inn.length q3), (.slice p4 N1 q4)]) (by simp [results, Tryz.results66, go_sem, rq0, rq1, rq2, rq3]) rfl ?_
              exact ⟨p3, q3, p4, q4, by rw [hJ.out, hN1.out]; rfl, hM8.ex, by rw [hJ.out]; exact mono_FmR _ _ _ _ hM8.ub hF⟩
        have b6 : (op == 6) = false := by simpa using h6
        by_cases h45 : op = 4 ∨ op = 5
        · have hJ : Hid (J = joinF op K) := by
            show _ = _; rw [hJ0]; unfold nodeS; rw [if_neg h2, if_neg h3, if_neg h6, if_pos h45]
          have hcj := rjoined_c op K (.slice p4 K.length q4) w3 hM3.ple hFK h45 hb4 (fun x hx => wholeN_B (hKw x hx))
          rw [← hJ.out] at hcj
          clear hJ0 h2 h3 h6 hKw hfo2 hFK hF hb4
          have b45 : (op == 4) = true ∨ ((op == 4) = false ∧ (op == 5) = true) := by
            rcases h45 with rfl | rfl
            · exact .inl rfl
            · exact .inr ⟨rfl, rfl⟩
          clear h45 hJ
          replace hcj := Lib.hid hcj
          rcases b45 with b4 | ⟨b4, b5⟩
          all_goals
            go_wp2_with fail
            refine hcj.out.mono ?_
            rintro e w4 ⟨r3, s3, r4, s4, rfl, hx4, hQ⟩
            have hM4 := hM3.up hx4
            generalize up H1 w3 w4 = H4 at *
            clear hM3 hx4 hcj u0 u1 u2 u3 ul
            have rz0 : _ = some (Value.int .i64 0) := (hM4.box 1 rfl).facts.1 0
            have rz1 : _ = some (Value.int .i64 0) := (hM4.box 1 rfl).facts.1 1
            have rz2 : _ = some (Value.slice none 0 0) := (hM4.box 1 rfl).facts.1 2
            have rz3 : _ = some (Value.slice none 0 0) := (hM4.box 1 rfl).facts.1 3
            obtain ⟨-, rzf⟩ := (hM4.box 1 rfl).facts
            have rzl := (hM4.box 1 rfl).lt
            have hM8 := hM4.set4 1 rfl (.int .i64 J.op) (.int .i64 J.n) (.slice r3 J.inn.length s3) (.slice r4 J.kids.length s4)
            simp only [List.set_cons_zero, List.set_cons_succ] at hM8
            clear hM4
            go_wp2_with fail
            generalize World.setCell _ _ _ = w9 at *
            obtain ⟨rq', -⟩ := (hM8.box 1 rfl).facts
            have rq0 : _ = some ((.int .i64 J.op) : Value) := rq' 0
            have rq1 : _ = some ((.int .i64 J.n) : Value) := rq' 1
            have rq2 : _ = some ((.slice r3 J.inn.length s3) : Value) := rq' 2
            have rq3 : _ = some ((.slice r4 J.kids.length s4) : Value) := rq' 3
            refine bodyPost_ret (v := .agg #[(.int .i64 J.op), (.int .i64 J.n), (.slice r3 J.inn.length s3), (.slice r4 J.kids.length s4)]) (by simp [results, Tryz.results66, go_sem, rq0, rq1, rq2, rq3]) rfl ?_
            exact ⟨r3, s3, r4, s4, rfl, hM8.ex, mono_FmR _ _ _ _ hM8.ub hQ⟩
        · have hJ : Hid (J = .mk op n inn K) := by
            show _ = _; rw [hJ0]; unfold nodeS; rw [if_neg h2, if_neg h3, if_neg h6, if_neg h45]
          have b4 : (op == 4) = false := by rw [beq_eq_false_iff_ne]; omega
          have b5 : (op == 5) = false := by rw [beq_eq_false_iff_ne]; omega
          clear hJ0 h2 h3 h6 h45 hKw hfo2 hFK hb4
          have rz0 : _ = some (Value.int .i64 0) := (hM3.box 1 rfl).facts.1 0
          have rz1 : _ = some (Value.int .i64 0) := (hM3.box 1 rfl).facts.1 1
          have rz2 : _ = some (Value.slice none 0 0) := (hM3.box 1 rfl).facts.1 2
          have rz3 : _ = some (Value.slice none 0 0) := (hM3.box 1 rfl).facts.1 3
          obtain ⟨-, rzf⟩ := (hM3.box 1 rfl).facts
          have rzl := (hM3.box 1 rfl).lt
          have hM8 := hM3.set4 1 rfl (.int .i64 op) (.int .i64 n) (.slice p3 inn.length q3) (.slice p4 K.length q4)
          simp only [List.set_cons_zero, List.set_cons_succ] at hM8
          clear hM3
          go_wp2_with fail
          generalize World.setCell _ _ _ = w9 at *
          obtain ⟨rq', -⟩ := (hM8.box 1 rfl).facts
          have rq0 : _ = some ((.int .i64 op) : Value) := rq' 0
          have rq1 : _ = some ((.int .i64 n) : Value) := rq' 1
          have rq2 : _ = some ((.slice p3 inn.length q3) : Value) := rq' 2
          have rq3 : _ = some ((.slice p4 K.length q4) : Value) := rq' 3
          refine bodyPost_ret (v := .agg #[(.int .i64 op), (.int .i64 n), (.slice p3 inn.length q3), (.slice p4 K.length q4)]) (by simp [results, Tryz.results66, go_sem, rq0, rq1, rq2, rq3]) rfl ?_
          exact ⟨p3, q3, p4, q4, by rw [hJ.out]; rfl, hM8.ex, by rw [hJ.out]; exact mono_FmR _ _ _ _ hM8.ub hF⟩
set_option maxRecDepth 100000 in
set_option maxHeartbeats 8000000 in
theorem rsimple7_c (f : Fm) (cs : List Value) (w : World) (hr : FmR (ph w) cs f) (hb : f.bulk ≤ 400000) : Calls Tryz.prog 27 #[.agg cs.toArray] w (PushQ w (simpleE f)) := by
  have hr0 := hr
  obtain ⟨a3, c3, a4, c4, rfl, -⟩ := hr.form
  by_cases hf : validF f = 0
  · have hw := (validF_0 hf).2.2
    have hres : simpleE f = (simpF f, 0) := by unfold simpleE; rw [if_pos hf]
    rw [hres]
    have n0 : ((0 : Int) != 0) = false := rfl
    have hM := ((Mem.start w (ph w) (fun _ _ h => h)).new' #[.int .i64 f.op, .int .i64 f.n, .slice a3 f.inn.length c3, .slice a4 f.kids.length c4] 29 (n := w.heap.size) rfl).new' #[.int .i64 0, .int .i64 0, .slice none 0 0, .slice none 0 0] 29 (n := w.heap.size + 1) (by simp)
    simp only [List.cons_append, List.nil_append] at hM
    unfold fmC at hr ⊢
    go_enter Tryz.func27, Tryz.ntmps27
    go_upto_region 1 with (fail)
    generalize World.alloc _ _ = w1 at *
    generalize hg4 : w.heap.size + 1 = g2 at *
    generalize hg3 : w.heap.size = g1 at *
    have u0 : w1.cell? ⟨g1, 0, none⟩ = some (.int .i64 f.op) := (hM.box 0 rfl).facts.1 0
    have u1 : w1.cell? ⟨g1, 1, none⟩ = some (.int .i64 f.n) := (hM.box 0 rfl).facts.1 1
    have u2 : w1.cell? ⟨g1, 2, none⟩ = some (.slice a3 f.inn.length c3) := (hM.box 0 rfl).facts.1 2
    have u3 : w1.cell? ⟨g1, 3, none⟩ = some (.slice a4 f.kids.length c4) := (hM.box 0 rfl).facts.1 3
    have ul := (hM.box 0 rfl).lt
    have hv := rfvalid_c f (fmC f a3 c3 a4 c4) w1 (mono_FmR _ _ _ _ hM.ple hr0) (by omega)
    rw [hf] at hv
    go_wp2_with fail
    refine RetV_at hv ?_
    intro w2 hx2
    replace hM := hM.ext hx2
    clear u0 u1 u2 u3 ul hv hx2
    have u0 : w2.cell? ⟨g1, 0, none⟩ = some (.int .i64 f.op) := (hM.box 0 rfl).facts.1 0
    have u1 : w2.cell? ⟨g1, 1, none⟩ = some (.int .i64 f.n) := (hM.box 0 rfl).facts.1 1
    have u2 : w2.cell? ⟨g1, 2, none⟩ = some (.slice a3 f.inn.length c3) := (hM.box 0 rfl).facts.1 2
    have u3 : w2.cell? ⟨g1, 3, none⟩ = some (.slice a4 f.kids.length c4) := (hM.box 0 rfl).facts.1 3
    have ul := (hM.box 0 rfl).lt
    have hcall := reduced_c f (ph w) (fmC f a3 c3 a4 c4) w2 hM.ple hr0 hw hb
    unfold fmC at hcall
    generalize simpF f = R at *
    go_wp2_with fail
    refine hcall.mono ?_
    rintro e w4 ⟨p3, q3, p4, q4, rfl, hx4, hQ⟩
    have hM4 := hM.up hx4
    generalize up (ph w) w2 w4 = H4 at *
    clear hM hcall u0 u1 u2 u3 ul hx4
    have rz0 : _ = some (Value.int .i64 0) := (hM4.box 1 rfl).facts.1 0
    have rz1 : _ = some (Value.int .i64 0) := (hM4.box 1 rfl).facts.1 1
    have rz2 : _ = some (Value.slice none 0 0) := (hM4.box 1 rfl).facts.1 2
    have rz3 : _ = some (Value.slice none 0 0) := (hM4.box 1 rfl).facts.1 3
    obtain ⟨-, rzf⟩ := (hM4.box 1 rfl).facts
    have rzl := (hM4.box 1 rfl).lt
    have hM8 := hM4.set4 1 rfl (.int .i64 R.op) (.int .i64 R.n) (.slice p3 R.inn.length q3) (.slice p4 R.kids.length q4)
    simp only [List.set_cons_zero, List.set_cons_succ] at hM8
    clear hM4
    go_wp2_with fail
    generalize World.setCell _ _ _ = w9 at *
    obtain ⟨rq', -⟩ := (hM8.box 1 rfl).facts
    have rq0 : _ = some ((.int .i64 R.op) : Value) := rq' 0
    have rq1 : _ = some ((.int .i64 R.n) : Value) := rq' 1
    have rq2 : _ = some ((.slice p3 R.inn.length q3) : Value) := rq' 2
    have rq3 : _ = some ((.slice p4 R.kids.length q4) : Value) := rq' 3
    refine bodyPost_ret (v := .tuple #[.agg #[(.int .i64 R.op), (.int .i64 R.n), (.slice p3 R.inn.length q3), (.slice p4 R.kids.length q4)], .int .i64 0]) (by simp [results, Tryz.results27, go_sem, rq0, rq1, rq2, rq3]) rfl ?_
    exact ⟨p3, q3, p4, q4, rfl, hM8.ex, mono_FmR _ _ _ _ hM8.ple hQ⟩
  · have hres : simpleE f = (noF, validF f) := by unfold simpleE; rw [if_neg hf]
    rw [hres]
    obtain ⟨z, hz⟩ : ∃ z, validF f = z := ⟨_, rfl⟩
    rw [hz] at hf ⊢
    have n0 : (z != 0) = true := by simpa using hf
    clear hf
    have hf := hz
    clear hz hres
    have hM := ((Mem.start w (ph w) (fun _ _ h => h)).new' #[.int .i64 f.op, .int .i64 f.n, .slice a3 f.inn.length c3, .slice a4 f.kids.length c4] 29 (n := w.heap.size) rfl).new' #[.int .i64 0, .int .i64 0, .slice none 0 0, .slice none 0 0] 29 (n := w.heap.size + 1) (by simp)
    simp only [List.cons_append, List.nil_append] at hM
    unfold fmC at hr ⊢
    go_enter Tryz.func27, Tryz.ntmps27
    go_upto_region 1 with (fail)
    generalize World.alloc _ _ = w1 at *
    generalize hg4 : w.heap.size + 1 = g2 at *
    generalize hg3 : w.heap.size = g1 at *
    have u0 : w1.cell? ⟨g1, 0, none⟩ = some (.int .i64 f.op) := (hM.box 0 rfl).facts.1 0
    have u1 : w1.cell? ⟨g1, 1, none⟩ = some (.int .i64 f.n) := (hM.box 0 rfl).facts.1 1
    have u2 : w1.cell? ⟨g1, 2, none⟩ = some (.slice a3 f.inn.length c3) := (hM.box 0 rfl).facts.1 2
    have u3 : w1.cell? ⟨g1, 3, none⟩ = some (.slice a4 f.kids.length c4) := (hM.box 0 rfl).facts.1 3
    have ul := (hM.box 0 rfl).lt
    have hv := rfvalid_c f (fmC f a3 c3 a4 c4) w1 (mono_FmR _ _ _ _ hM.ple hr0) (by omega)
    rw [hf] at hv
    clear hf
    go_wp2_with fail
    refine RetV_at hv ?_
    intro w2 hx2
    replace hM := hM.ext hx2
    clear u0 u1 u2 u3 ul hv hx2
    have rz0 : _ = some (Value.int .i64 0) := (hM.box 1 rfl).facts.1 0
    have rz1 : _ = some (Value.int .i64 0) := (hM.box 1 rfl).facts.1 1
    have rz2 : _ = some (Value.slice none 0 0) := (hM.box 1 rfl).facts.1 2
    have rz3 : _ = some (Value.slice none 0 0) := (hM.box 1 rfl).facts.1 3
    obtain ⟨-, rzf⟩ := (hM.box 1 rfl).facts
    have rzl := (hM.box 1 rfl).lt
    have hM8 := hM.set4 1 rfl (.int .i64 0) (.int .i64 0) (.slice none 0 0) (.slice none 0 0)
    simp only [List.set_cons_zero, List.set_cons_succ] at hM8
    clear hM
    go_wp2_with fail
    generalize World.setCell _ _ _ = w9 at *
    obtain ⟨rq', -⟩ := (hM8.box 1 rfl).facts
    have rq0 : _ = some ((.int .i64 0) : Value) := rq' 0
    have rq1 : _ = some ((.int .i64 0) : Value) := rq' 1
    have rq2 : _ = some ((.slice none 0 0) : Value) := rq' 2
    have rq3 : _ = some ((.slice none 0 0) : Value) := rq' 3
    refine bodyPost_ret (v := .tuple #[.agg #[(.int .i64 0), (.int .i64 0), (.slice none 0 0), (.slice none 0 0)], .int .i64 z]) (by simp [results, Tryz.results27, go_sem, rq0, rq1, rq2, rq3]) rfl ?_
    exact ⟨none, 0, none, 0, rfl, hM8.ex, noF_R _⟩
theorem pushE_bulk (f : Fm) (h : f.bulk ≤ 15000) : (pushE f).1.bulk ≤ 400000 := by
  unfold pushE
  have := (push_bulk f).1
  split
  · split
    · dsimp only; omega
    · simp [noF, Fm.bulk, fbulks]
  · simp [noF, Fm.bulk, fbulks]
theorem simpleE_bulk (f : Fm) (h : f.bulk ≤ 15000) : (simpleE f).1.bulk ≤ 400000 := by
  unfold simpleE
  have := simp_bulk f
  split
  · dsimp only; omega
  · simp [noF, Fm.bulk, fbulks]
set_option maxRecDepth 100000 in
set_option maxHeartbeats 8000000 in
theorem formulaFormsLaw (vl : Value) (l : List Int) (at' how by' : Int) (w : World) (hl : IntsR (ph w) vl l) (_ : l.length ≤ 140737488355328) (i1 : I64 at') (i2 : I64 how) (i3 : I64 by') :
    Calls Tryz.prog 5 #[vl, .int .i64 at', .int .i64 how, .int .i64 by'] w (RetV w (.bool true)) := by
  have hs := fun W (e : Ext w W) => some7F_c l vl 6 at' how by' W (hl.mono mono_IntR e.ple) (by omega) (by omega) i1 i2 i3
  obtain ⟨xa, xc, rfl, -, -⟩ := hl.form
  go_enter Tryz.func5, Tryz.ntmps5
  go_wp2_with fail
  refine (hs w (Ext.rfl' w)).mono ?_
  rintro e w1 ⟨v, f, g, h, rfl, hx, ⟨hL, -⟩, hv, hw, hgb, hhb, ht, hsg, hsh⟩
  have hb := valid_bulk hv
  go_wp2_with fail
  refine (hs w1 hx).mono ?_
  rintro e w2 ⟨v2, f2, g2, h2, rfl, hx2, ⟨hL2, -⟩, -, -, -, -, ht2, hsg2, hsh2⟩
  obtain rfl : f = f2 := ht.symm.trans ht2
  obtain rfl : g = g2 := hsg.fn hsg2
  obtain rfl : h = h2 := hsh.fn hsh2
  replace hL := hL.mono mono_FmR hx2.ple
  replace hx := hx.then hx2
  obtain ⟨a, c, rfl, -, hL⟩ := hL.form
  obtain ⟨a2, c2, rfl, -, hL2⟩ := hL2.form
  have hall : ∀ x ∈ [f, g, h], x.bulk ≤ 15000 := by
    intro x hx
    simp only [List.mem_cons, List.not_mem_nil, or_false] at hx
    rcases hx with rfl | rfl | rfl <;> omega
  have hl3 : [f, g, h].length ≤ 3 := by simp
  generalize hLe : [f, g, h] = L at *
  clear hLe hv hw hgb hhb hb hs hl ht hsg hsh ht2 hsg2 hsh2 hx2
  go_wp2_with fail
  go_loopw [11] (fun i wr => ∃ k : Nat, k ≤ L.length ∧ i = .int .i64 k ∧ Ext w2 wr) (fun i _ => L.length - (intOf i).toNat)
  case atStart => exact ⟨0, by omega, rfl, Ext.rfl' _⟩
  case round =>
    obtain ⟨k, hk, rfl, hr⟩ := hrel
    by_cases hlt : k < L.length
    · obtain ⟨jb, jo, e3, f3, e4, f4, ej, x0, x1, x2, x3, hE, xl⟩ := FmsR.at (hL.mono mono_FmR hr.ple) k hlt
      cases ej
      obtain ⟨kb, ko, m3, n3, m4, n4, ek, s0, s1, s2, s3, hE2, sl⟩ := FmsR.at (hL2.mono mono_FmR hr.ple) k hlt
      cases ek
      have hbx := hall _ (List.getElem_mem hlt)
      have hd1 : decide (k < L.length) = true := decide_eq_true hlt
      generalize L[k] = x at *
      have k1 := fun W (h : FmR (ph W) (fmC x e3 f3 e4 f4) x) => fpush_c x _ W h (by omega)
      have k2 := fun W (h : FmR (ph W) (fmC x e3 f3 e4 f4) x) => rpush7_c x _ W h (by omega)
      have k3 := fun W (h : FmR (ph W) (fmC x e3 f3 e4 f4) x) => fsimple_c x _ W h (by omega)
      have k4 := fun W (h : FmR (ph W) (fmC x e3 f3 e4 f4) x) => rsimple7_c x _ W h (by omega)
      have hb1 := pushE_bulk x hbx
      have hb2 := simpleE_bulk x hbx
      generalize pushE x = pe at *
      generalize simpleE x = se at *
      obtain ⟨p, z⟩ := pe
      obtain ⟨s, y⟩ := se
      have c3 := Lib.hid (fun W (e : Ext wr W) => rsameB_c x x _ _ W (mono_FmR _ _ _ _ e.ple hE) (mono_FmR _ _ _ _ e.ple hE2) (by omega) (by omega))
      rw [show B (x = x) = true from B_t rfl] at c3
      have z1 : (z != z) = false := by simp
      have z2 : (y != y) = false := by simp
      dsimp only at hb1 hb2
      unfold fmC at k1 k2 k3 k4 c3
      clear hE2 hbx
      have hxw := Ext.rfl' wr
      go_wp2_with fail
      refine (k1 _ (mono_FmR _ _ _ _ hxw.ple hE)).mono ?_
      rintro e w5 ⟨p3, q3, p4, q4, rfl, hx5, hP⟩
      dsimp only at hP ⊢
      have e5 := Ext.new w5 (.cells #[.int .i64 (p).op, .int .i64 (p).n, .slice p3 (p).inn.length q3, .slice p4 (p).kids.length q4] 29)
      have o12 := Proofs.YtbpilielamjnoaaGreat.Own.new w5 #[.int .i64 (p).op, .int .i64 (p).n, .slice p3 (p).inn.length q3, .slice p4 (p).kids.length q4] 29
      replace hx5 := hx5.then e5
      replace hP := mono_FmR _ _ _ _ e5.ple hP
      go_upto_region 7 with (fail)
      generalize (w5).alloc _ = v5 at *
      generalize (w5).heap.size = g12 at *
      replace x0 := hx5.cell1 x0
      replace x1 := hx5.cell1 x1
      replace x2 := hx5.cell1 x2
      replace x3 := hx5.cell1 x3
      replace xl := cell_lt x0
      replace hxw := hxw.then hx5
      clear e5
      have hP1 := hP
      clear hP hx5
      go_wp2_with fail
      refine (k2 _ (mono_FmR _ _ _ _ hxw.ple hE)).mono ?_
      rintro e w6 ⟨r3, t3, r4, t4, rfl, hx5, hP⟩
      dsimp only at hP ⊢
      have e5 := Ext.new w6 (.cells #[.int .i64 (p).op, .int .i64 (p).n, .slice r3 (p).inn.length t3, .slice r4 (p).kids.length t4] 29)
      have o14 := Proofs.YtbpilielamjnoaaGreat.Own.new w6 #[.int .i64 (p).op, .int .i64 (p).n, .slice r3 (p).inn.length t3, .slice r4 (p).kids.length t4] 29
      replace hx5 := hx5.then e5
      replace hP := mono_FmR _ _ _ _ e5.ple hP
      go_upto_region 8 with (fail)
      generalize (w6).alloc _ = v6 at *
      generalize (w6).heap.size = g14 at *
      replace x0 := hx5.cell1 x0
      replace x1 := hx5.cell1 x1
      replace x2 := hx5.cell1 x2
      replace x3 := hx5.cell1 x3
      replace xl := cell_lt x0
      replace hxw := hxw.then hx5
      clear e5
      have hP2 := hP
      replace hP1 := mono_FmR _ _ _ _ hx5.ple hP1
      replace o12 := o12.keep hx5
      clear hP hx5
      go_wp2_with fail
      refine (k3 _ (mono_FmR _ _ _ _ hxw.ple hE)).mono ?_
      rintro e w7 ⟨u3, v3, u4, v4, rfl, hx5, hP⟩
      dsimp only at hP ⊢
      have e5 := Ext.new w7 (.cells #[.int .i64 (s).op, .int .i64 (s).n, .slice u3 (s).inn.length v3, .slice u4 (s).kids.length v4] 29)
      have o16 := Proofs.YtbpilielamjnoaaGreat.Own.new w7 #[.int .i64 (s).op, .int .i64 (s).n, .slice u3 (s).inn.length v3, .slice u4 (s).kids.length v4] 29
      replace hx5 := hx5.then e5
      replace hP := mono_FmR _ _ _ _ e5.ple hP
      go_upto_region 9 with (fail)
      generalize (w7).alloc _ = v7 at *
      generalize (w7).heap.size = g16 at *
      replace x0 := hx5.cell1 x0
      replace x1 := hx5.cell1 x1
      replace x2 := hx5.cell1 x2
      replace x3 := hx5.cell1 x3
      replace xl := cell_lt x0
      replace hxw := hxw.then hx5
      clear e5
      have hP3 := hP
      replace hP1 := mono_FmR _ _ _ _ hx5.ple hP1
      replace hP2 := mono_FmR _ _ _ _ hx5.ple hP2
      replace o12 := o12.keep hx5
      replace o14 := o14.keep hx5
      clear hP hx5
      go_wp2_with fail
      refine (k4 _ (mono_FmR _ _ _ _ hxw.ple hE)).mono ?_
      rintro e w8 ⟨y3, i3, y4, i4, rfl, hx5, hP⟩
      dsimp only at hP ⊢
      have e5 := Ext.new w8 (.cells #[.int .i64 (s).op, .int .i64 (s).n, .slice y3 (s).inn.length i3, .slice y4 (s).kids.length i4] 29)
      have o18 := Proofs.YtbpilielamjnoaaGreat.Own.new w8 #[.int .i64 (s).op, .int .i64 (s).n, .slice y3 (s).inn.length i3, .slice y4 (s).kids.length i4] 29
      replace hx5 := hx5.then e5
      replace hP := mono_FmR _ _ _ _ e5.ple hP
      go_upto_region 10 with (fail)
      generalize (w8).alloc _ = W at *
      generalize (w8).heap.size = g18 at *
      replace x0 := hx5.cell1 x0
      replace x1 := hx5.cell1 x1
      replace x2 := hx5.cell1 x2
      replace x3 := hx5.cell1 x3
      replace xl := cell_lt x0
      replace hxw := hxw.then hx5
      clear e5
      replace hP1 := mono_FmR _ _ _ _ hx5.ple hP1
      replace hP2 := mono_FmR _ _ _ _ hx5.ple hP2
      replace hP3 := mono_FmR _ _ _ _ hx5.ple hP3
      replace o12 := o12.keep hx5
      replace o14 := o14.keep hx5
      replace o16 := o16.keep hx5
      have c1 := Lib.hid (fun V (e : Ext W V) => rsameB_c p p _ _ V (mono_FmR _ _ _ _ e.ple hP1) (mono_FmR _ _ _ _ e.ple hP2) hb1 hb1)
      have c2 := Lib.hid (fun V (e : Ext W V) => rsameB_c s s _ _ V (mono_FmR _ _ _ _ e.ple hP3) (mono_FmR _ _ _ _ e.ple hP) hb2 hb2)
      replace c3 := Lib.hid (fun V (e : Ext W V) => c3.out V (hxw.then e))
      replace s0 := hxw.cell1 s0
      replace s1 := hxw.cell1 s1
      replace s2 := hxw.cell1 s2
      replace s3 := hxw.cell1 s3
      replace sl := cell_lt s0
      rw [show B (p = p) = true from B_t rfl] at c1
      rw [show B (s = s) = true from B_t rfl] at c2
      unfold fmC at c1 c2
      have da0 : (W).cell? ⟨g12, 0, none⟩ = some (.int .i64 (p).op) := (o12).facts.1 0
      have da1 : (W).cell? ⟨g12, 1, none⟩ = some (.int .i64 (p).n) := (o12).facts.1 1
      have da2 : (W).cell? ⟨g12, 2, none⟩ = some (.slice p3 (p).inn.length q3) := (o12).facts.1 2
      have da3 : (W).cell? ⟨g12, 3, none⟩ = some (.slice p4 (p).kids.length q4) := (o12).facts.1 3
      have dal := (o12).lt
      have db0 : (W).cell? ⟨g14, 0, none⟩ = some (.int .i64 (p).op) := (o14).facts.1 0
      have db1 : (W).cell? ⟨g14, 1, none⟩ = some (.int .i64 (p).n) := (o14).facts.1 1
      have db2 : (W).cell? ⟨g14, 2, none⟩ = some (.slice r3 (p).inn.length t3) := (o14).facts.1 2
      have db3 : (W).cell? ⟨g14, 3, none⟩ = some (.slice r4 (p).kids.length t4) := (o14).facts.1 3
      have dbl := (o14).lt
      have dc0 : (W).cell? ⟨g16, 0, none⟩ = some (.int .i64 (s).op) := (o16).facts.1 0
      have dc1 : (W).cell? ⟨g16, 1, none⟩ = some (.int .i64 (s).n) := (o16).facts.1 1
      have dc2 : (W).cell? ⟨g16, 2, none⟩ = some (.slice u3 (s).inn.length v3) := (o16).facts.1 2
      have dc3 : (W).cell? ⟨g16, 3, none⟩ = some (.slice u4 (s).kids.length v4) := (o16).facts.1 3
      have dcl := (o16).lt
      have dd0 : (W).cell? ⟨g18, 0, none⟩ = some (.int .i64 (s).op) := (o18).facts.1 0
      have dd1 : (W).cell? ⟨g18, 1, none⟩ = some (.int .i64 (s).n) := (o18).facts.1 1
      have dd2 : (W).cell? ⟨g18, 2, none⟩ = some (.slice y3 (s).inn.length i3) := (o18).facts.1 2
      have dd3 : (W).cell? ⟨g18, 3, none⟩ = some (.slice y4 (s).kids.length i4) := (o18).facts.1 3
      have ddl := (o18).lt
      clear hP hP1 hP2 hP3 hx5 k1 k2 k3 k4 hE
      (refine wp_region_I 32 (by kernel_rfl) (by kernel_rfl) ?_; simp only [List.toList_toArray, List.take_succ_cons, List.take_zero, List.drop_succ_cons, List.drop_zero])
      iterate 4 (refine walkI_is (u := ?_) rfl (by simp) rfl ?_ ?_; rotate_left; (focus (intro A w' hS hA K hK; (simp only [List.map_cons, List.map_nil, knows, Is, Op.operands, Call.operands, List.lookup_cons, List.lookup_nil, Nat.reduceBEq, Bool.false_eq_true, if_false, if_true, Act.eval, Array.getD_eq_getD_getElem?, List.getElem?_toArray, List.getElem?_cons_succ, List.getElem?_cons_zero, Option.getD_some, and_true, true_and, List.append_toArray, List.nil_append, List.cons_append, List.toList_toArray, Array.toList_append, Option.toArray, List.append_nil] at hA); (obtain ⟨hSc, hSf, hSs⟩ := hS.cells; go_simp; exact hK _ xN))); (try simp only [List.nil_append, List.cons_append]))
      iterate 3 (refine walkI_yesis (u := ?_) rfl (by simp) rfl rfl rfl ?_ ?_; rotate_left; (focus (intro A w' hS hA K hK; (simp only [List.map_cons, List.map_nil, knows, Is, Op.operands, Call.operands, List.lookup_cons, List.lookup_nil, Nat.reduceBEq, Bool.false_eq_true, if_false, if_true, Act.eval, Array.getD_eq_getD_getElem?, List.getElem?_toArray, List.getElem?_cons_succ, List.getElem?_cons_zero, Option.getD_some, and_true, true_and, List.append_toArray, List.nil_append, List.cons_append, List.toList_toArray, Array.toList_append, Option.toArray, List.append_nil] at hA); (obtain ⟨hSc, hSf, hSs⟩ := hS.cells; go_simp; exact hK _ xN))); (try simp only [List.nil_append, List.cons_append]))
      iterate 2 (refine walkI_is (u := ?_) rfl (by simp) rfl ?_ ?_; rotate_left; (focus (intro A w' hS hA K hK; (simp only [List.map_cons, List.map_nil, knows, Is, Op.operands, Call.operands, List.lookup_cons, List.lookup_nil, Nat.reduceBEq, Bool.false_eq_true, if_false, if_true, Act.eval, Array.getD_eq_getD_getElem?, List.getElem?_toArray, List.getElem?_cons_succ, List.getElem?_cons_zero, Option.getD_some, and_true, true_and, List.append_toArray, List.nil_append, List.cons_append, List.toList_toArray, Array.toList_append, Option.toArray, List.append_nil] at hA); (obtain ⟨hSc, hSf, hSs⟩ := hS.cells; go_simp; exact hK _ xN))); (try simp only [List.nil_append, List.cons_append]))
      iterate 2 (refine walkI_yesis (u := ?_) rfl (by simp) rfl rfl rfl ?_ ?_; rotate_left; (focus (intro A w' hS hA K hK; (simp only [List.map_cons, List.map_nil, knows, Is, Op.operands, Call.operands, List.lookup_cons, List.lookup_nil, Nat.reduceBEq, Bool.false_eq_true, if_false, if_true, Act.eval, Array.getD_eq_getD_getElem?, List.getElem?_toArray, List.getElem?_cons_succ, List.getElem?_cons_zero, Option.getD_some, and_true, true_and, List.append_toArray, List.nil_append, List.cons_append, List.toList_toArray, Array.toList_append, Option.toArray, List.append_nil] at hA); (obtain ⟨hSc, hSf, hSs⟩ := hS.cells; go_simp; exact hK _ xN))); (try simp only [List.nil_append, List.cons_append]))
      (refine walkI_yesis (u := ?_) rfl (by simp) rfl rfl rfl ?_ ?_; rotate_left; (focus (intro A w' hS hA K hK; (simp only [List.map_cons, List.map_nil, knows, Is, Op.operands, Call.operands, List.lookup_cons, List.lookup_nil, Nat.reduceBEq, Bool.false_eq_true, if_false, if_true, Act.eval, Array.getD_eq_getD_getElem?, List.getElem?_toArray, List.getElem?_cons_succ, List.getElem?_cons_zero, Option.getD_some, and_true, true_and, List.append_toArray, List.nil_append, List.cons_append, List.toList_toArray, Array.toList_append, Option.toArray, List.append_nil] at hA); first | (go_simp; refine RetV_at (c1.out _ hS) ?_; intro w'' hx''; exact hK _ hx'') | (obtain ⟨hSc, hSf, hSs⟩ := hS.cells; go_simp; exact hK _ xN))); (try simp only [List.nil_append, List.cons_append]))
      (refine walkI_yesis (u := ?_) rfl (by simp) rfl rfl rfl ?_ ?_; rotate_left; (focus (intro A w' hS hA K hK; (simp only [List.map_cons, List.map_nil, knows, Is, Op.operands, Call.operands, List.lookup_cons, List.lookup_nil, Nat.reduceBEq, Bool.false_eq_true, if_false, if_true, Act.eval, Array.getD_eq_getD_getElem?, List.getElem?_toArray, List.getElem?_cons_succ, List.getElem?_cons_zero, Option.getD_some, and_true, true_and, List.append_toArray, List.nil_append, List.cons_append, List.toList_toArray, Array.toList_append, Option.toArray, List.append_nil] at hA); (obtain ⟨hSc, hSf, hSs⟩ := hS.cells; go_simp; exact hK _ xN))); (try simp only [List.nil_append, List.cons_append]))
      iterate 2 (refine walkI_is (u := ?_) rfl (by simp) rfl ?_ ?_; rotate_left; (focus (intro A w' hS hA K hK; (simp only [List.map_cons, List.map_nil, knows, Is, Op.operands, Call.operands, List.lookup_cons, List.lookup_nil, Nat.reduceBEq, Bool.false_eq_true, if_false, if_true, Act.eval, Array.getD_eq_getD_getElem?, List.getElem?_toArray, List.getElem?_cons_succ, List.getElem?_cons_zero, Option.getD_some, and_true, true_and, List.append_toArray, List.nil_append, List.cons_append, List.toList_toArray, Array.toList_append, Option.toArray, List.append_nil] at hA); (obtain ⟨hSc, hSf, hSs⟩ := hS.cells; go_simp; exact hK _ xN))); (try simp only [List.nil_append, List.cons_append]))
      iterate 2 (refine walkI_yesis (u := ?_) rfl (by simp) rfl rfl rfl ?_ ?_; rotate_left; (focus (intro A w' hS hA K hK; (simp only [List.map_cons, List.map_nil, knows, Is, Op.operands, Call.operands, List.lookup_cons, List.lookup_nil, Nat.reduceBEq, Bool.false_eq_true, if_false, if_true, Act.eval, Array.getD_eq_getD_getElem?, List.getElem?_toArray, List.getElem?_cons_succ, List.getElem?_cons_zero, Option.getD_some, and_true, true_and, List.append_toArray, List.nil_append, List.cons_append, List.toList_toArray, Array.toList_append, Option.toArray, List.append_nil] at hA); (obtain ⟨hSc, hSf, hSs⟩ := hS.cells; go_simp; exact hK _ xN))); (try simp only [List.nil_append, List.cons_append]))
      (refine walkI_yesis (u := ?_) rfl (by simp) rfl rfl rfl ?_ ?_; rotate_left; (focus (intro A w' hS hA K hK; (simp only [List.map_cons, List.map_nil, knows, Is, Op.operands, Call.operands, List.lookup_cons, List.lookup_nil, Nat.reduceBEq, Bool.false_eq_true, if_false, if_true, Act.eval, Array.getD_eq_getD_getElem?, List.getElem?_toArray, List.getElem?_cons_succ, List.getElem?_cons_zero, Option.getD_some, and_true, true_and, List.append_toArray, List.nil_append, List.cons_append, List.toList_toArray, Array.toList_append, Option.toArray, List.append_nil] at hA); first | (go_simp; refine RetV_at (c2.out _ hS) ?_; intro w'' hx''; exact hK _ hx'') | (obtain ⟨hSc, hSf, hSs⟩ := hS.cells; go_simp; exact hK _ xN))); (try simp only [List.nil_append, List.cons_append]))
      (refine walkI_yesis (u := ?_) rfl (by simp) rfl rfl rfl ?_ ?_; rotate_left; (focus (intro A w' hS hA K hK; (simp only [List.map_cons, List.map_nil, knows, Is, Op.operands, Call.operands, List.lookup_cons, List.lookup_nil, Nat.reduceBEq, Bool.false_eq_true, if_false, if_true, Act.eval, Array.getD_eq_getD_getElem?, List.getElem?_toArray, List.getElem?_cons_succ, List.getElem?_cons_zero, Option.getD_some, and_true, true_and, List.append_toArray, List.nil_append, List.cons_append, List.toList_toArray, Array.toList_append, Option.toArray, List.append_nil] at hA); (obtain ⟨hSc, hSf, hSs⟩ := hS.cells; go_simp; exact hK _ xN))); (try simp only [List.nil_append, List.cons_append]))
      iterate 2 (refine walkI_is (u := ?_) rfl (by simp) rfl ?_ ?_; rotate_left; (focus (intro A w' hS hA K hK; (simp only [List.map_cons, List.map_nil, knows, Is, Op.operands, Call.operands, List.lookup_cons, List.lookup_nil, Nat.reduceBEq, Bool.false_eq_true, if_false, if_true, Act.eval, Array.getD_eq_getD_getElem?, List.getElem?_toArray, List.getElem?_cons_succ, List.getElem?_cons_zero, Option.getD_some, and_true, true_and, List.append_toArray, List.nil_append, List.cons_append, List.toList_toArray, Array.toList_append, Option.toArray, List.append_nil] at hA); (obtain ⟨hSc, hSf, hSs⟩ := hS.cells; go_simp; exact hK _ xN))); (try simp only [List.nil_append, List.cons_append]))
      iterate 8 (refine walkI_yesis (u := ?_) rfl (by simp) rfl rfl rfl ?_ ?_; rotate_left; (focus (intro A w' hS hA K hK; (simp only [List.map_cons, List.map_nil, knows, Is, Op.operands, Call.operands, List.lookup_cons, List.lookup_nil, Nat.reduceBEq, Bool.false_eq_true, if_false, if_true, Act.eval, Array.getD_eq_getD_getElem?, List.getElem?_toArray, List.getElem?_cons_succ, List.getElem?_cons_zero, Option.getD_some, and_true, true_and, List.append_toArray, List.nil_append, List.cons_append, List.toList_toArray, Array.toList_append, Option.toArray, List.append_nil] at hA); (obtain ⟨hSc, hSf, hSs⟩ := hS.cells; go_simp; exact hK _ xN))); (try simp only [List.nil_append, List.cons_append]))
      (refine walkI_yesis (u := ?_) rfl (by simp) rfl rfl rfl ?_ ?_; rotate_left; (focus (intro A w' hS hA K hK; (simp only [List.map_cons, List.map_nil, knows, Is, Op.operands, Call.operands, List.lookup_cons, List.lookup_nil, Nat.reduceBEq, Bool.false_eq_true, if_false, if_true, Act.eval, Array.getD_eq_getD_getElem?, List.getElem?_toArray, List.getElem?_cons_succ, List.getElem?_cons_zero, Option.getD_some, and_true, true_and, List.append_toArray, List.nil_append, List.cons_append, List.toList_toArray, Array.toList_append, Option.toArray, List.append_nil] at hA); first | (go_simp; refine RetV_at (c3.out _ hS) ?_; intro w'' hx''; exact hK _ hx'') | (obtain ⟨hSc, hSf, hSs⟩ := hS.cells; go_simp; exact hK _ xN))); (try simp only [List.nil_append, List.cons_append]))
      (refine walkI_yesis (u := ?_) rfl (by simp) rfl rfl rfl ?_ ?_; rotate_left; (focus (intro A w' hS hA K hK; (simp only [List.map_cons, List.map_nil, knows, Is, Op.operands, Call.operands, List.lookup_cons, List.lookup_nil, Nat.reduceBEq, Bool.false_eq_true, if_false, if_true, Act.eval, Array.getD_eq_getD_getElem?, List.getElem?_toArray, List.getElem?_cons_succ, List.getElem?_cons_zero, Option.getD_some, and_true, true_and, List.append_toArray, List.nil_append, List.cons_append, List.toList_toArray, Array.toList_append, Option.toArray, List.append_nil] at hA); (obtain ⟨hSc, hSf, hSs⟩ := hS.cells; go_simp; exact hK _ xN))); (try simp only [List.nil_append, List.cons_append]))
      (refine walkI_is (u := ?_) rfl (by simp) rfl ?_ ?_; rotate_left; (focus (intro A w' hS hA K hK; (simp only [List.map_cons, List.map_nil, knows, Is, Op.operands, Call.operands, List.lookup_cons, List.lookup_nil, Nat.reduceBEq, Bool.false_eq_true, if_false, if_true, Act.eval, Array.getD_eq_getD_getElem?, List.getElem?_toArray, List.getElem?_cons_succ, List.getElem?_cons_zero, Option.getD_some, and_true, true_and, List.append_toArray, List.nil_append, List.cons_append, List.toList_toArray, Array.toList_append, Option.toArray, List.append_nil] at hA); (obtain ⟨hSc, hSf, hSs⟩ := hS.cells; go_simp; exact hK _ xN))); (try simp only [List.nil_append, List.cons_append]))
      (refine walkI_nil ?_; simp only [List.nil_append, List.cons_append, fins, Is, forall_eq, Act.put, List.setIfInBounds_toArray, List.set_cons_zero, List.set_cons_succ])
      intro w9 hx9
      replace hr := (hr.then hxw).then hx9
      clear c1 c2 c3 z1 z2 hx9 hxw
      go_wp2_with fail
      go_roundw
      case rel => exact ⟨k + 1, by omega, by go_num, hr⟩
      case measure => simp [intOf]; omega
    · obtain rfl : k = L.length := by omega
      have hd1 : decide (L.length < L.length) = false := by simp
      go_wp2_with fail
      refine RetV_at (lives07_c _) ?_
      intro w9 hx9
      go_wp2_with fail
      go_ret
      exact ⟨rfl, (hx.then hr).then hx9⟩
end Go.Proofs.YtbpilielamjnoaaGreat
