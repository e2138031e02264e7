/- plain laws of dependences of claims.; layings of slices.Clone, Contains, Sort at ints, written by the kit's lay-plain (tools/sortlay4.sh) for this dump.; Alone of package claims and of the reference.; priorartref01.SameInts.; slices.Clone, slices.Contains, slices.Sort at []int; Has of priorartref01.; Depends of package claims and of the reference.; Depends of the reference. -/
import Derived.Test.YtdpdpjimmfajgaaClL
import Derived.Shelf.Slices.Clone
import Derived.Shelf.Slices.Turned
import Derived.Shelf.Slices.In.SortNone
import Derived.Shelf.Sort.Plain
import Derived.Sort.OwnSortedInts
import Derived.Test.YtdpdpjimmfajgaaProg
import Derived.Test.YtdpdpjimmfajgaaClV
import Derived.Test.YtdpdpjimmfajgaaOwnS
import Derived.Test.YtdpdpjimmfajgaaCalmA
import Derived.Test.YtdpdpjimmfajgaaRets
namespace Go.Proofs.Ytdpdpjimmfajgaa
open Go.RowKit
set_option linter.unusedSimpArgs false
set_option linter.unusedVariables false
def depAdd : List Int → List Int → List Int
  | all, [] => all
  | all, r :: rs => depAdd (if r ∈ all then all else all ++ [r]) rs
def refsAt (l : List Cl) (r : Int) : List Int := match l[r.toNat]? with | some c => c.refs | none => []
def depGo (l : List Cl) : Nat → Nat → List Int → List Int
  | 0, _, all => all
  | n + 1, k, all => match all[k]? with | some r => depGo l n (k + 1) (depAdd all (refsAt l r)) | none => all
/-- numbers below i, each once -/
def DepI (i : Nat) (all : List Int) : Prop := all.Nodup ∧ ∀ r ∈ all, 0 ≤ r ∧ r < (i : Int)
theorem nodup_bound : ∀ {i : Nat} {all : List Int}, DepI i all → all.length ≤ i := by
  intro i
  induction i with
  | zero =>
    intro all h
    cases all with
    | nil => exact Nat.le_refl _
    | cons x xs => have := h.2 x (by simp); omega
  | succ i ih =>
    intro all h
    have h1 : DepI i (all.erase (i : Int)) := by
      refine ⟨h.1.erase _, fun r hr => ?_⟩
      have h2 := (h.1.mem_erase_iff).1 hr
      have := h.2 r h2.2
      have := h2.1
      omega
    have h2 := ih h1
    have h3 := List.length_erase (a := (i : Int)) (l := all)
    split at h3 <;> omega
theorem DepI.add {i : Nat} {all : List Int} (h : DepI i all) {r : Int} (h0 : 0 ≤ r) (h1 : r < i) : DepI i (if r ∈ all then all else all ++ [r]) := by
  split
  · exact h
  · rename_i hn
    refine ⟨?_, fun x hx => ?_⟩
    · rw [List.nodup_append]
      exact ⟨h.1, by simp, fun x hx y hy e => by rw [List.mem_singleton.1 hy] at e; subst e; exact hn hx⟩
    · rcases List.mem_append.1 hx with hx | hx
      · exact h.2 x hx
      · rw [List.mem_singleton.1 hx]; exact ⟨h0, h1⟩
theorem depAdd_I {i : Nat} : ∀ {rs all : List Int}, DepI i all → (∀ r ∈ rs, 0 ≤ r ∧ r < (i : Int)) → DepI i (depAdd all rs)
  | [], all, h, _ => h
  | r :: rs, all, h, hr => by
    rw [depAdd]
    exact depAdd_I (h.add (hr r (by simp)).1 (hr r (by simp)).2) fun x hx => hr x (by simp [hx])
theorem depAdd_take {all rs : List Int} (k : Nat) (h : k < rs.length) : depAdd all (rs.take (k + 1)) = (if rs[k] ∈ depAdd all (rs.take k) then depAdd all (rs.take k) else depAdd all (rs.take k) ++ [rs[k]]) := by
  induction rs generalizing all k with
  | nil => simp at h
  | cons x xs ih =>
    cases k with
    | zero => simp [depAdd]
    | succ k =>
      simp only [List.take_succ_cons, depAdd, List.getElem_cons_succ]
      exact ih k (by simpa using h)
theorem depGo_end {l : List Cl} {n k : Nat} {all : List Int} (h : all.length ≤ k) : depGo l n k all = all := by
  cases n with
  | zero => rfl
  | succ n => rw [depGo, List.getElem?_eq_none h]
theorem depGo_step {l : List Cl} {n k : Nat} {all : List Int} (h : k < all.length) : depGo l (n + 1) k all = depGo l n (k + 1) (depAdd all (refsAt l all[k])) := by
  rw [depGo, List.getElem?_eq_getElem h]
def depC (l : List Cl) (i : Nat) : List Int := depGo l (i + 1) 0 (refsAt l i)
/-- in increasing order -/
def depS (l : List Cl) (i : Nat) : List Int := ((List.range i).map fun (k : Nat) => (k : Int)).filter fun k => decide (k ∈ depC l i)
theorem asc_uniq : ∀ {a b : List Int}, a.Pairwise (· < ·) → b.Pairwise (· < ·) → (∀ x, x ∈ a ↔ x ∈ b) → a = b
  | [], [], _, _, _ => rfl
  | [], y :: ys, _, _, h => by have := (h y).2 (by simp); cases this
  | x :: xs, [], _, _, h => by have := (h x).1 (by simp); cases this
  | x :: xs, y :: ys, ha, hb, h => by
    obtain ⟨a1, a2⟩ := List.pairwise_cons.1 ha
    obtain ⟨b1, b2⟩ := List.pairwise_cons.1 hb
    have hxy : x = y := by
      rcases List.mem_cons.1 ((h x).1 (by simp)) with h1 | h1
      · exact h1
      · rcases List.mem_cons.1 ((h y).2 (by simp)) with h2 | h2
        · exact h2.symm
        · have := b1 x h1; have := a1 y h2; omega
    subst hxy
    congr 1
    refine asc_uniq a2 b2 fun z => ?_
    constructor
    · intro hz
      rcases List.mem_cons.1 ((h z).1 (by simp [hz])) with rfl | h1
      · have := a1 z hz; omega
      · exact h1
    · intro hz
      rcases List.mem_cons.1 ((h z).2 (by simp [hz])) with rfl | h1
      · have := b1 z hz; omega
      · exact h1
theorem range_asc (i : Nat) : ((List.range i).map fun (k : Nat) => (k : Int)).Pairwise (· < ·) := by
  rw [List.pairwise_map]
  exact List.pairwise_lt_range.imp fun h => by omega
theorem asc_of_le_nodup {a : List Int} (h : a.Pairwise (· ≤ ·)) (hn : a.Nodup) : a.Pairwise (· < ·) := by
  have := List.Pairwise.and h hn
  exact this.imp fun h => by have := h.1; have := h.2; omega
/-- sorted, the dependences are the numbers below i that are among them -/
theorem sorted_dep {i : Nat} {all s : List Int} (h : DepI i all) (hs : s.Pairwise (· ≤ ·)) (hp : s.Perm all) : s = ((List.range i).map fun (k : Nat) => (k : Int)).filter fun k => decide (k ∈ all) := by
  refine asc_uniq (asc_of_le_nodup hs (hp.nodup_iff.2 h.1)) ((range_asc i).filter _) fun x => ?_
  rw [hp.mem_iff, List.mem_filter, List.mem_map]
  simp only [decide_eq_true_eq]
  constructor
  · intro hx
    have := h.2 x hx
    exact ⟨⟨x.toNat, List.mem_range.2 (by omega), by omega⟩, hx⟩
  · exact fun h => h.2
theorem refsAt_I {l : List Cl} (hv : validC l = 0) {i : Nat} (hi : i < l.length) {r : Int} (h0 : 0 ≤ r) (h1 : r ≤ i) : ∀ x ∈ refsAt l r, 0 ≤ x ∧ x < (i : Int) := by
  intro x hx
  have hr : r.toNat < l.length := by omega
  unfold refsAt at hx
  rw [List.getElem?_eq_getElem hr] at hx
  have := refsB_mem ((validC_0 hv).2 r.toNat hr).2.1 x hx
  omega
theorem refsAt_asc {l : List Cl} (hv : validC l = 0) {r : Int} : (refsAt l r).Pairwise (· < ·) := by
  unfold refsAt
  split
  · rename_i c hc
    obtain ⟨h, rfl⟩ := List.getElem?_eq_some_iff.1 hc
    exact refsB_asc ((validC_0 hv).2 _ h).2.1
  · exact .nil
theorem start_I {l : List Cl} (hv : validC l = 0) {i : Nat} (hi : i < l.length) : DepI i (refsAt l i) :=
  ⟨(refsAt_asc hv).imp fun h => by omega, refsAt_I hv hi (by omega) (by omega)⟩
theorem depAdd_congr_len (all rs : List Int) : all.length ≤ (depAdd all rs).length := by
  induction rs generalizing all with
  | nil => exact Nat.le_refl _
  | cons r rs ih =>
    rw [depAdd]
    refine Nat.le_trans ?_ (ih _)
    split
    · exact Nat.le_refl _
    · simp
theorem depGo_app {l m : List Cl} (hv : validC l = 0) {i : Nat} (hi : i < l.length) : ∀ {n k : Nat} {all : List Int}, DepI i all → depGo (l ++ m) n k all = depGo l n k all
  | 0, _, _, _ => rfl
  | n + 1, k, all, h => by
    by_cases hk : k < all.length
    · have hb := h.2 _ (List.getElem_mem hk)
      have e : refsAt (l ++ m) all[k] = refsAt l all[k] := by
        unfold refsAt
        rw [List.getElem?_append_left (by omega)]
      rw [depGo_step hk, depGo_step hk, e]
      exact depGo_app hv hi (depAdd_I h (refsAt_I hv hi hb.1 (by omega)))
    · rw [depGo_end (by omega), depGo_end (by omega)]
theorem depS_app {l m : List Cl} (hv : validC l = 0) {i : Nat} (hi : i < l.length) : depS (l ++ m) i = depS l i := by
  have e : refsAt (l ++ m) i = refsAt l i := by
    unfold refsAt
    rw [List.getElem?_append_left (by omega)]
  unfold depS depC
  rw [e, depGo_app hv hi (start_I hv hi)]
/-- the claims without references -/
def aloneC (l : List Cl) : List Int := ((List.range l.length).filter fun (i : Nat) => decide (refsAt l (i : Int) = [])).map fun (k : Nat) => (k : Int)
end Go.Proofs.Ytdpdpjimmfajgaa
namespace Go.Proofs.Ytdpdpjimmfajgaa
open Go.Shelf
def clInt_ren : Go.Shelf.Ren := ⟨fun | 15 => 38 | n => n, fun | 22 => 22 | 3 => 3 | 4 => 4 | n => n, fun | n => n⟩
theorem clInt : Go.Proofs.Lays2.n15 Try.prog clInt_ren := {
  mixed := by kernel_rfl
  f15 := Try.func38.trans (congrArg some (by kernel_rfl))
  t3 := Try.underlying3
  a3 := Try.isAgg3
  z3 := Try.sizeOf3
  v3 := Try.zeroValue3
  t4 := Try.underlying4
  a4 := Try.isAgg4
  z4 := Try.sizeOf4
  v4 := Try.zeroValue4
  t22 := Try.underlying22
  a22 := Try.isAgg22
  z22 := Try.sizeOf22
  v22 := Try.zeroValue22
  i3 := by kernel_rfl }
def ctInt_ren : Go.Shelf.Ren := ⟨fun | 107 => 39 | 108 => 57 | n => n, fun | 28 => 22 | 3 => 3 | 4 => 4 | 0 => 0 | n => n, fun | n => n⟩
theorem ctInt : Go.Proofs.Lays.n107 Try.prog ctInt_ren := {
  mixed := by kernel_rfl
  f107 := Try.func39.trans (congrArg some (by kernel_rfl))
  f108 := Try.func57.trans (congrArg some (by kernel_rfl))
  t0 := Try.underlying0
  a0 := Try.isAgg0
  z0 := Try.sizeOf0
  v0 := Try.zeroValue0
  t3 := Try.underlying3
  a3 := Try.isAgg3
  z3 := Try.sizeOf3
  v3 := Try.zeroValue3
  t4 := Try.underlying4
  a4 := Try.isAgg4
  z4 := Try.sizeOf4
  v4 := Try.zeroValue4
  t28 := Try.underlying22
  a28 := Try.isAgg22
  z28 := Try.sizeOf22
  v28 := Try.zeroValue22 }
def soInt_ren : Go.Shelf.Ren := ⟨fun | 189 => 40 | 125 => 59 | 257 => 58 | 128 => 83 | 129 => 84 | 294 => 74 | 295 => 75 | 296 => 76 | 297 => 77 | 298 => 78 | 299 => 79 | 216 => 80 | 300 => 81 | 301 => 82 | 328 => 91 | 329 => 92 | 330 => 93 | 331 => 94 | 332 => 95 | 215 => 96 | 343 => 100 | n => n, fun | 28 => 22 | 3 => 3 | 46 => 50 | 0 => 0 | 51 => 104 | 53 => 106 | 4 => 4 | 183 => 96 | 182 => 95 | 131 => 101 | 5 => 5 | 9 => 9 | 218 => 114 | 222 => 118 | 228 => 123 | 229 => 124 | n => n, fun | n => n⟩
theorem soInt : Go.Proofs.Lays.n189 Try.prog soInt_ren := {
  mixed := by kernel_rfl
  f125 := Try.func59.trans (congrArg some (by kernel_rfl))
  f128 := Try.func83.trans (congrArg some (by kernel_rfl))
  f129 := Try.func84.trans (congrArg some (by kernel_rfl))
  f189 := Try.func40.trans (congrArg some (by kernel_rfl))
  f215 := Try.func96.trans (congrArg some (by kernel_rfl))
  f216 := Try.func80.trans (congrArg some (by kernel_rfl))
  f257 := Try.func58.trans (congrArg some (by kernel_rfl))
  f294 := Try.func74.trans (congrArg some (by kernel_rfl))
  f295 := Try.func75.trans (congrArg some (by kernel_rfl))
  f296 := Try.func76.trans (congrArg some (by kernel_rfl))
  f297 := Try.func77.trans (congrArg some (by kernel_rfl))
  f298 := Try.func78.trans (congrArg some (by kernel_rfl))
  f299 := Try.func79.trans (congrArg some (by kernel_rfl))
  f300 := Try.func81.trans (congrArg some (by kernel_rfl))
  f301 := Try.func82.trans (congrArg some (by kernel_rfl))
  f328 := Try.func91.trans (congrArg some (by kernel_rfl))
  f329 := Try.func92.trans (congrArg some (by kernel_rfl))
  f330 := Try.func93.trans (congrArg some (by kernel_rfl))
  f331 := Try.func94.trans (congrArg some (by kernel_rfl))
  f332 := Try.func95.trans (congrArg some (by kernel_rfl))
  f343 := Try.func100.trans (congrArg some (by kernel_rfl))
  t0 := Try.underlying0
  a0 := Try.isAgg0
  z0 := Try.sizeOf0
  v0 := Try.zeroValue0
  t3 := Try.underlying3
  a3 := Try.isAgg3
  z3 := Try.sizeOf3
  v3 := Try.zeroValue3
  t4 := Try.underlying4
  a4 := Try.isAgg4
  z4 := Try.sizeOf4
  v4 := Try.zeroValue4
  t5 := Try.underlying5
  a5 := Try.isAgg5
  z5 := Try.sizeOf5
  v5 := Try.zeroValue5
  t9 := Try.underlying9
  a9 := Try.isAgg9
  z9 := Try.sizeOf9
  v9 := Try.zeroValue9
  t28 := Try.underlying22
  a28 := Try.isAgg22
  z28 := Try.sizeOf22
  v28 := Try.zeroValue22
  t46 := Try.underlying50
  a46 := Try.isAgg50
  z46 := Try.sizeOf50
  v46 := Try.zeroValue50
  t51 := Try.underlying104
  a51 := Try.isAgg104
  z51 := Try.sizeOf104
  v51 := Try.zeroValue104
  t53 := Try.underlying106
  a53 := Try.isAgg106
  z53 := Try.sizeOf106
  v53 := Try.zeroValue106
  t131 := Try.underlying101
  a131 := Try.isAgg101
  z131 := Try.sizeOf101
  v131 := Try.zeroValue101
  t182 := Try.underlying95
  a182 := Try.isAgg95
  z182 := Try.sizeOf95
  v182 := Try.zeroValue95
  t183 := Try.underlying96
  a183 := Try.isAgg96
  z183 := Try.sizeOf96
  v183 := Try.zeroValue96
  t218 := Try.underlying114
  a218 := Try.isAgg114
  z218 := Try.sizeOf114
  v218 := Try.zeroValue114
  t222 := Try.underlying118
  a222 := Try.isAgg118
  z222 := Try.sizeOf118
  v222 := Try.zeroValue118
  t228 := Try.underlying123
  a228 := Try.isAgg123
  z228 := Try.sizeOf123
  v228 := Try.zeroValue123
  t229 := Try.underlying124
  a229 := Try.isAgg124
  z229 := Try.sizeOf124
  v229 := Try.zeroValue124 }
end Go.Proofs.Ytdpdpjimmfajgaa
namespace Go.Proofs.Ytdpdpjimmfajgaa
open Go.RowKit
set_option linter.unusedSimpArgs false
set_option linter.unusedVariables false
/-- a list of ints and an error -/
def IntE (w : World) (r : List Int × Int) (e : Ending) (w' : World) : Prop := ∃ v, e = .returned (.tuple #[v, .int .i64 r.2]) ∧ Ext w w' ∧ IntsR (ph w') v r.1
theorem IntE_at {f : FuncId} {args : Array Value} {w : World} {r : List Int × Int} {K : Ending → World → Prop} (h : Calls Try.prog f args w (IntE w r)) (hK : ∀ v w', Ext w w' → IntsR (ph w') v r.1 → K (.returned (.tuple #[v, .int .i64 r.2])) w') : Calls Try.prog f args w K :=
  h.mono fun e w' ⟨v, he, hx, hi⟩ => he ▸ hK v w' hx hi
def aloneK (l : List Cl) (k : Nat) : List Int := ((List.range k).filter fun (i : Nat) => decide (refsAt l (i : Int) = [])).map fun (k : Nat) => (k : Int)
theorem aloneK_0 (l : List Cl) : aloneK l 0 = [] := rfl
theorem aloneK_len (l : List Cl) (k : Nat) : (aloneK l k).length ≤ k := by
  unfold aloneK
  rw [List.length_map]
  exact Nat.le_trans (List.length_filter_le _ _) (by simp)
theorem aloneK_s (l : List Cl) (k : Nat) (h : k < l.length) : aloneK l (k + 1) = if l[k].refs.length = 0 then aloneK l k ++ [(k : Int)] else aloneK l k := by
  have e : refsAt l (k : Int) = l[k].refs := by
    unfold refsAt
    rw [Int.toNat_natCast, List.getElem?_eq_getElem h]
  unfold aloneK
  rw [List.range_succ, List.filter_append, List.map_append]
  by_cases h0 : l[k].refs = []
  · rw [if_pos (by simp [h0])]
    simp [e, h0]
  · rw [if_neg (by simpa using h0)]
    simp [e, h0]
def aloneE (l : List Cl) : List Int × Int := if validC l ≠ 0 then ([], validC l) else (aloneC l, 0)
theorem validC_len {l : List Cl} (h : validC l = 0) : l.length ≤ 32 := (validC_0 h).1
set_option maxHeartbeats 1000000 in
theorem calone_c (v : Value) (l : List Cl) (w : World) (hr : ClsR (ph w) v l) (hs : ∀ c ∈ l, c.body.bulk ≤ 900000) : Calls Try.prog 21 #[v] w (IntE w (aloneE l)) := by
  have hr' := hr
  obtain ⟨a, c, rfl, hlen, hr⟩ := hr.form
  go_enter Try.func21, Try.ntmps21
  go_wp2_with fail
  refine RetV_at (cvalid_c _ l _ (hr'.mono mono_ClR (Ext.ple (by repeat (first | (with_reducible assumption) | (with_reducible exact Ext.rfl' _) | (with_reducible exact Ext.new _ _) | (with_reducible refine Ext.alloc' ?_ _) | (with_reducible refine Ext.drew' ?_) | (with_reducible refine Ext.drewN' ?_ _) | (with_reducible refine Ext.set' ?_ ?_ _; rotate_left; (focus (first | omega | (simp; done) | (simp; omega)))) | (with_reducible refine Ext.then (b := ?_) ?_ ?_; rotate_left; rotate_left; (with_reducible assumption)))))) hs) ?_
  intro w1 hx1
  have hc : Hid (aloneE l = if validC l ≠ 0 then ([], validC l) else (aloneC l, 0)) := Lib.hid rfl
  have h32 : validC l = 0 → l.length ≤ 32 := validC_len
  generalize validC l = e at *
  clear hr'
  by_cases he : e = 0
  · subst he
    replace h32 := h32 rfl
    have hc2 : Hid (aloneE l = (aloneC l, 0)) := by show _ = _; rw [hc.out]; rfl
    clear hc
    go_wp2_with fail
    go_loopw [5, 15] (fun r i wr => ∃ k : Nat, k ≤ l.length ∧ i = .int .i64 k ∧ OwnI w.heap.size wr r (aloneK l k) ∧ Ext w wr) (fun _ i _ => l.length - (intOf i).toNat)
    case atStart => exact ⟨0, Nat.zero_le _, rfl, OwnS.nil _ _ _ _ _ _, (by repeat (first | (with_reducible assumption) | (with_reducible exact Ext.rfl' _) | (with_reducible exact Ext.new _ _) | (with_reducible refine Ext.alloc' ?_ _) | (with_reducible refine Ext.drew' ?_) | (with_reducible refine Ext.drewN' ?_ _) | (with_reducible refine Ext.set' ?_ ?_ _; rotate_left; (focus (first | omega | (simp; done) | (simp; omega)))) | (with_reducible refine Ext.then (b := ?_) ?_ ?_; rotate_left; rotate_left; (with_reducible assumption))))⟩
    case round =>
      obtain ⟨k, hk, rfl, hl, hb⟩ := hrel
      by_cases hlt : k < l.length
      · have hp' := hr.mono mono_ClR hb.ple
        obtain ⟨b, o, a1, c1, a3, c3, a4, c4, rfl, h0, h1, h2, h3, h4, hbl, hrl, hri, hE⟩ := ClsR.at hp' k hlt
        have hd := Lib.hid (aloneK_s l k hlt)
        have hkl := Lib.hid (aloneK_len l k)
        generalize l[k] = x at *
        clear hp' hr hri hE
        by_cases h8 : x.refs.length = 0
        · have b2 : ((x.refs.length : Int) == 0) = true := by rw [beq_iff_eq]; omega
          have hn : Hid (aloneK l (k + 1) = aloneK l k ++ [(k : Int)]) := by show _ = _; rw [hd.out, if_pos h8]
          clear hd h8
          go_wp2_with (at_builtin; refine wpList_append_S (E := IntR) (H := noH) (base := w.heap.size) (ys := [(k : Int)]) rfl _ _ 22 3 rfl (.int .i64 0) 8 Try.underlying22 infoInt rfl rfl rfl (hl.keep (by repeat (first | (with_reducible assumption) | (with_reducible exact Ext.rfl' _) | (with_reducible exact Ext.new _ _) | (with_reducible refine Ext.alloc' ?_ _) | (with_reducible refine Ext.drew' ?_) | (with_reducible refine Ext.drewN' ?_ _) | (with_reducible refine Ext.set' ?_ ?_ _; rotate_left; (focus (first | omega | (simp; done) | (simp; omega)))) | (with_reducible refine Ext.then (b := ?_) ?_ ?_; rotate_left; rotate_left; (with_reducible assumption))))) ?c1 (noH_le _) ?c2 one_IntR ?c3 ?c4 ?c5)
          case c1 => exact Src.lit1 ⟨rfl, by unfold I64; omega⟩ rfl (fun j => by simp [go_sem])
          case c2 => simp; have := hb.size; omega
          case c3 => simp; have := hkl.out; omega
          case c4 => simp; have := hkl.out; omega
          case c5 =>
            intro l' w2 hl2 hg2 hn2
            have hne := hl.lt
            have hb2 : Ext w w2 := Ext.grown (by repeat (first | (with_reducible assumption) | (with_reducible exact Ext.rfl' _) | (with_reducible exact Ext.new _ _) | (with_reducible refine Ext.alloc' ?_ _) | (with_reducible refine Ext.drew' ?_) | (with_reducible refine Ext.drewN' ?_ _) | (with_reducible refine Ext.set' ?_ ?_ _; rotate_left; (focus (first | omega | (simp; done) | (simp; omega)))) | (with_reducible refine Ext.then (b := ?_) ?_ ?_; rotate_left; rotate_left; (with_reducible assumption)))) hg2 (fun k e => by have := hne _ e; omega)
            rw [← hn.out] at hl2
            clear hg2 hn2 hl hn hkl
            go_wp2_with fail
            go_roundw
            case rel => exact ⟨k + 1, by omega, by go_num, hl2, (by repeat (first | (with_reducible assumption) | (with_reducible exact Ext.rfl' _) | (with_reducible exact Ext.new _ _) | (with_reducible refine Ext.alloc' ?_ _) | (with_reducible refine Ext.drew' ?_) | (with_reducible refine Ext.drewN' ?_ _) | (with_reducible refine Ext.set' ?_ ?_ _; rotate_left; (focus (first | omega | (simp; done) | (simp; omega)))) | (with_reducible refine Ext.then (b := ?_) ?_ ?_; rotate_left; rotate_left; (with_reducible assumption))))⟩
            case measure => simp [intOf]; omega
        · have b2 : ((x.refs.length : Int) == 0) = false := by rw [beq_eq_false_iff_ne]; omega
          have hn : Hid (aloneK l (k + 1) = aloneK l k) := by show _ = _; rw [hd.out, if_neg h8]
          clear hd
          go_wp2_with fail
          go_roundw
          case rel => exact ⟨k + 1, by omega, by go_num, by rw [hn.out]; exact hl.keep (by repeat (first | (with_reducible assumption) | (with_reducible exact Ext.rfl' _) | (with_reducible exact Ext.new _ _) | (with_reducible refine Ext.alloc' ?_ _) | (with_reducible refine Ext.drew' ?_) | (with_reducible refine Ext.drewN' ?_ _) | (with_reducible refine Ext.set' ?_ ?_ _; rotate_left; (focus (first | omega | (simp; done) | (simp; omega)))) | (with_reducible refine Ext.then (b := ?_) ?_ ?_; rotate_left; rotate_left; (with_reducible assumption)))), (by repeat (first | (with_reducible assumption) | (with_reducible exact Ext.rfl' _) | (with_reducible exact Ext.new _ _) | (with_reducible refine Ext.alloc' ?_ _) | (with_reducible refine Ext.drew' ?_) | (with_reducible refine Ext.drewN' ?_ _) | (with_reducible refine Ext.set' ?_ ?_ _; rotate_left; (focus (first | omega | (simp; done) | (simp; omega)))) | (with_reducible refine Ext.then (b := ?_) ?_ ?_; rotate_left; rotate_left; (with_reducible assumption))))⟩
          case measure => simp [intOf]; omega
      · have hn : Hid (aloneK l k = aloneC l) := by
          have : k = l.length := by omega
          subst this; exact rfl
        rw [hn.out] at hl
        clear hr hn
        go_wp2_with fail
        go_ret2
        rw [hc2.out]
        exact ⟨_, rfl, (by repeat (first | (with_reducible assumption) | (with_reducible exact Ext.rfl' _) | (with_reducible exact Ext.new _ _) | (with_reducible refine Ext.alloc' ?_ _) | (with_reducible refine Ext.drew' ?_) | (with_reducible refine Ext.drewN' ?_ _) | (with_reducible refine Ext.set' ?_ ?_ _; rotate_left; (focus (first | omega | (simp; done) | (simp; omega)))) | (with_reducible refine Ext.then (b := ?_) ?_ ?_; rotate_left; rotate_left; (with_reducible assumption)))), (hl.keep (by repeat (first | (with_reducible assumption) | (with_reducible exact Ext.rfl' _) | (with_reducible exact Ext.new _ _) | (with_reducible refine Ext.alloc' ?_ _) | (with_reducible refine Ext.drew' ?_) | (with_reducible refine Ext.drewN' ?_ _) | (with_reducible refine Ext.set' ?_ ?_ _; rotate_left; (focus (first | omega | (simp; done) | (simp; omega)))) | (with_reducible refine Ext.then (b := ?_) ?_ ?_; rotate_left; rotate_left; (with_reducible assumption))))).rep mono_IntR (noH_le _)⟩
  · have hn : Hid (aloneE l = ([], e)) := by show _ = _; rw [hc.out, if_pos he]
    have b3 : (e == 0) = false := by simpa using he
    have b4 : (e != 0) = true := by simpa using he
    go_wp2_with fail
    go_ret2
    rw [hn.out]
    exact ⟨_, rfl, (by repeat (first | (with_reducible assumption) | (with_reducible exact Ext.rfl' _) | (with_reducible exact Ext.new _ _) | (with_reducible refine Ext.alloc' ?_ _) | (with_reducible refine Ext.drew' ?_) | (with_reducible refine Ext.drewN' ?_ _) | (with_reducible refine Ext.set' ?_ ?_ _; rotate_left; (focus (first | omega | (simp; done) | (simp; omega)))) | (with_reducible refine Ext.then (b := ?_) ?_ ?_; rotate_left; rotate_left; (with_reducible assumption)))), SliceRep.nil _ _ _⟩
set_option maxHeartbeats 1000000 in
theorem ralone_c (v : Value) (l : List Cl) (w : World) (hr : ClsR (ph w) v l) (hs : ∀ c ∈ l, c.body.bulk ≤ 900000) : Calls Try.prog 22 #[v] w (IntE w (aloneE l)) := by
  have hr' := hr
  obtain ⟨a, c, rfl, hlen, hr⟩ := hr.form
  go_enter Try.func22, Try.ntmps22
  go_wp2_with fail
  refine RetV_at (rcvalid_c _ l _ (hr'.mono mono_ClR (Ext.ple (by repeat (first | (with_reducible assumption) | (with_reducible exact Ext.rfl' _) | (with_reducible exact Ext.new _ _) | (with_reducible refine Ext.alloc' ?_ _) | (with_reducible refine Ext.drew' ?_) | (with_reducible refine Ext.drewN' ?_ _) | (with_reducible refine Ext.set' ?_ ?_ _; rotate_left; (focus (first | omega | (simp; done) | (simp; omega)))) | (with_reducible refine Ext.then (b := ?_) ?_ ?_; rotate_left; rotate_left; (with_reducible assumption)))))) hs) ?_
  intro w1 hx1
  have hc : Hid (aloneE l = if validC l ≠ 0 then ([], validC l) else (aloneC l, 0)) := Lib.hid rfl
  have h32 : validC l = 0 → l.length ≤ 32 := validC_len
  generalize validC l = e at *
  clear hr'
  by_cases he : e = 0
  · subst he
    replace h32 := h32 rfl
    have hc2 : Hid (aloneE l = (aloneC l, 0)) := by show _ = _; rw [hc.out]; rfl
    clear hc
    go_wp2_with fail
    go_loopw [5, 6] (fun r i wr => ∃ k : Nat, k ≤ l.length ∧ i = .int .i64 k ∧ OwnI w.heap.size wr r (aloneK l k) ∧ Ext w wr) (fun _ i _ => l.length - (intOf i).toNat)
    case atStart => exact ⟨0, Nat.zero_le _, rfl, OwnS.nil _ _ _ _ _ _, (by repeat (first | (with_reducible assumption) | (with_reducible exact Ext.rfl' _) | (with_reducible exact Ext.new _ _) | (with_reducible refine Ext.alloc' ?_ _) | (with_reducible refine Ext.drew' ?_) | (with_reducible refine Ext.drewN' ?_ _) | (with_reducible refine Ext.set' ?_ ?_ _; rotate_left; (focus (first | omega | (simp; done) | (simp; omega)))) | (with_reducible refine Ext.then (b := ?_) ?_ ?_; rotate_left; rotate_left; (with_reducible assumption))))⟩
    case round =>
      obtain ⟨k, hk, rfl, hl, hb⟩ := hrel
      by_cases hlt : k < l.length
      · have hp' := hr.mono mono_ClR hb.ple
        obtain ⟨b, o, a1, c1, a3, c3, a4, c4, rfl, h0, h1, h2, h3, h4, hbl, hrl, hri, hE⟩ := ClsR.at hp' k hlt
        have hd := Lib.hid (aloneK_s l k hlt)
        have hkl := Lib.hid (aloneK_len l k)
        generalize l[k] = x at *
        clear hp' hr hri hE
        by_cases h8 : x.refs.length = 0
        · have b2 : ((x.refs.length : Int) == 0) = true := by rw [beq_iff_eq]; omega
          have hn : Hid (aloneK l (k + 1) = aloneK l k ++ [(k : Int)]) := by show _ = _; rw [hd.out, if_pos h8]
          clear hd h8
          go_wp2_with (at_builtin; refine wpList_append_S (E := IntR) (H := noH) (base := w.heap.size) (ys := [(k : Int)]) rfl _ _ 22 3 rfl (.int .i64 0) 8 Try.underlying22 infoInt rfl rfl rfl (hl.keep (by repeat (first | (with_reducible assumption) | (with_reducible exact Ext.rfl' _) | (with_reducible exact Ext.new _ _) | (with_reducible refine Ext.alloc' ?_ _) | (with_reducible refine Ext.drew' ?_) | (with_reducible refine Ext.drewN' ?_ _) | (with_reducible refine Ext.set' ?_ ?_ _; rotate_left; (focus (first | omega | (simp; done) | (simp; omega)))) | (with_reducible refine Ext.then (b := ?_) ?_ ?_; rotate_left; rotate_left; (with_reducible assumption))))) ?c1 (noH_le _) ?c2 one_IntR ?c3 ?c4 ?c5)
          case c1 => exact Src.lit1 ⟨rfl, by unfold I64; omega⟩ rfl (fun j => by simp [go_sem])
          case c2 => simp; have := hb.size; omega
          case c3 => simp; have := hkl.out; omega
          case c4 => simp; have := hkl.out; omega
          case c5 =>
            intro l' w2 hl2 hg2 hn2
            have hne := hl.lt
            have hb2 : Ext w w2 := Ext.grown (by repeat (first | (with_reducible assumption) | (with_reducible exact Ext.rfl' _) | (with_reducible exact Ext.new _ _) | (with_reducible refine Ext.alloc' ?_ _) | (with_reducible refine Ext.drew' ?_) | (with_reducible refine Ext.drewN' ?_ _) | (with_reducible refine Ext.set' ?_ ?_ _; rotate_left; (focus (first | omega | (simp; done) | (simp; omega)))) | (with_reducible refine Ext.then (b := ?_) ?_ ?_; rotate_left; rotate_left; (with_reducible assumption)))) hg2 (fun k e => by have := hne _ e; omega)
            rw [← hn.out] at hl2
            clear hg2 hn2 hl hn hkl
            go_wp2_with fail
            go_roundw
            case rel => exact ⟨k + 1, by omega, by go_num, hl2, (by repeat (first | (with_reducible assumption) | (with_reducible exact Ext.rfl' _) | (with_reducible exact Ext.new _ _) | (with_reducible refine Ext.alloc' ?_ _) | (with_reducible refine Ext.drew' ?_) | (with_reducible refine Ext.drewN' ?_ _) | (with_reducible refine Ext.set' ?_ ?_ _; rotate_left; (focus (first | omega | (simp; done) | (simp; omega)))) | (with_reducible refine Ext.then (b := ?_) ?_ ?_; rotate_left; rotate_left; (with_reducible assumption))))⟩
            case measure => simp [intOf]; omega
        · have b2 : ((x.refs.length : Int) == 0) = false := by rw [beq_eq_false_iff_ne]; omega
          have hn : Hid (aloneK l (k + 1) = aloneK l k) := by show _ = _; rw [hd.out, if_neg h8]
          clear hd
          go_wp2_with fail
          go_roundw
          case rel => exact ⟨k + 1, by omega, by go_num, by rw [hn.out]; exact hl.keep (by repeat (first | (with_reducible assumption) | (with_reducible exact Ext.rfl' _) | (with_reducible exact Ext.new _ _) | (with_reducible refine Ext.alloc' ?_ _) | (with_reducible refine Ext.drew' ?_) | (with_reducible refine Ext.drewN' ?_ _) | (with_reducible refine Ext.set' ?_ ?_ _; rotate_left; (focus (first | omega | (simp; done) | (simp; omega)))) | (with_reducible refine Ext.then (b := ?_) ?_ ?_; rotate_left; rotate_left; (with_reducible assumption)))), (by repeat (first | (with_reducible assumption) | (with_reducible exact Ext.rfl' _) | (with_reducible exact Ext.new _ _) | (with_reducible refine Ext.alloc' ?_ _) | (with_reducible refine Ext.drew' ?_) | (with_reducible refine Ext.drewN' ?_ _) | (with_reducible refine Ext.set' ?_ ?_ _; rotate_left; (focus (first | omega | (simp; done) | (simp; omega)))) | (with_reducible refine Ext.then (b := ?_) ?_ ?_; rotate_left; rotate_left; (with_reducible assumption))))⟩
          case measure => simp [intOf]; omega
      · have hn : Hid (aloneK l k = aloneC l) := by
          have : k = l.length := by omega
          subst this; exact rfl
        rw [hn.out] at hl
        clear hr hn
        go_wp2_with fail
        go_ret2
        rw [hc2.out]
        exact ⟨_, rfl, (by repeat (first | (with_reducible assumption) | (with_reducible exact Ext.rfl' _) | (with_reducible exact Ext.new _ _) | (with_reducible refine Ext.alloc' ?_ _) | (with_reducible refine Ext.drew' ?_) | (with_reducible refine Ext.drewN' ?_ _) | (with_reducible refine Ext.set' ?_ ?_ _; rotate_left; (focus (first | omega | (simp; done) | (simp; omega)))) | (with_reducible refine Ext.then (b := ?_) ?_ ?_; rotate_left; rotate_left; (with_reducible assumption)))), (hl.keep (by repeat (first | (with_reducible assumption) | (with_reducible exact Ext.rfl' _) | (with_reducible exact Ext.new _ _) | (with_reducible refine Ext.alloc' ?_ _) | (with_reducible refine Ext.drew' ?_) | (with_reducible refine Ext.drewN' ?_ _) | (with_reducible refine Ext.set' ?_ ?_ _; rotate_left; (focus (first | omega | (simp; done) | (simp; omega)))) | (with_reducible refine Ext.then (b := ?_) ?_ ?_; rotate_left; rotate_left; (with_reducible assumption))))).rep mono_IntR (noH_le _)⟩
  · have hn : Hid (aloneE l = ([], e)) := by show _ = _; rw [hc.out, if_pos he]
    have b3 : (e == 0) = false := by simpa using he
    have b4 : (e != 0) = true := by simpa using he
    go_wp2_with fail
    go_ret2
    rw [hn.out]
    exact ⟨_, rfl, (by repeat (first | (with_reducible assumption) | (with_reducible exact Ext.rfl' _) | (with_reducible exact Ext.new _ _) | (with_reducible refine Ext.alloc' ?_ _) | (with_reducible refine Ext.drew' ?_) | (with_reducible refine Ext.drewN' ?_ _) | (with_reducible refine Ext.set' ?_ ?_ _; rotate_left; (focus (first | omega | (simp; done) | (simp; omega)))) | (with_reducible refine Ext.then (b := ?_) ?_ ?_; rotate_left; rotate_left; (with_reducible assumption)))), SliceRep.nil _ _ _⟩
end Go.Proofs.Ytdpdpjimmfajgaa
namespace Go.Proofs.Ytdpdpjimmfajgaa
open Go.RowKit
set_option linter.unusedSimpArgs false
set_option linter.unusedVariables false
set_option maxHeartbeats 400000 in
theorem sameInts_c (va vb : Value) (l m : List Int) (w : World) (ha : IntsR (ph w) va l) (hb : IntsR (ph w) vb m) :
    Calls Try.prog 19 #[va, vb] w (RetV w (.bool (B (l = m)))) := by
  obtain ⟨a, c, rfl, hlen, ha⟩ := ha.form
  obtain ⟨a', c', rfl, hlen', hb⟩ := hb.form
  by_cases hl : l.length = m.length
  · have HL := Lib.hid hl
    have hlb : ((l.length : Int) == (m.length : Int)) = true := by simp [hl]
    clear hl
    go_enter Try.func19, Try.ntmps19
    go_wp2_with fail
    go_loopw [5] (fun i wr => ∃ k : Nat, k ≤ l.length ∧ i = .int .i64 k ∧ Hid (l.take k = m.take k) ∧ Ext w wr) (fun i _ => l.length - (intOf i).toNat)
    case atStart => exact ⟨0, Nat.zero_le _, rfl, Lib.hid (by simp), (by repeat (first | (with_reducible assumption) | (with_reducible exact Ext.rfl' _) | (with_reducible exact Ext.new _ _) | (with_reducible refine Ext.alloc' ?_ _) | (with_reducible refine Ext.drew' ?_) | (with_reducible refine Ext.drewN' ?_ _) | (with_reducible refine Ext.set' ?_ ?_ _; rotate_left; (focus (first | omega | (simp; done) | (simp; omega)))) | (with_reducible refine Ext.then (b := ?_) ?_ ?_; rotate_left; rotate_left; (with_reducible assumption))))⟩
    case round =>
      obtain ⟨k, hk, rfl, ht, hx⟩ := hrel
      by_cases hlt : k < l.length
      · have hlm : k < m.length := by have := HL.out; omega
        obtain ⟨b, o, rfl, h0, i0, hbl⟩ := IntsR.at (ha.mono mono_IntR hx.ple) k hlt
        obtain ⟨b', o', rfl, h0', i0', hbl'⟩ := IntsR.at (hb.mono mono_IntR hx.ple) k hlm
        generalize hx1 : l[k] = x at *
        generalize hx2 : m[k] = y at *
        replace hx1 := Lib.hid hx1
        replace hx2 := Lib.hid hx2
        clear ha hb
        go_wp2_with fail
        (refine wp_region_calm (S := fun w' => Ext _ w') (by kernel_rfl) (by kernel_rfl) (Ext.rfl' _).drew' ?_; (try simp only [List.toList_toArray]); (repeat (first | (refine walkF_skip ?_ ?_; (focus rfl); (try simp only [Act.put, List.setIfInBounds_toArray, List.set_cons_zero, List.set_cons_succ])) | (refine walkF_step (v := ?_) rfl ?_ ?_ ?_; rotate_left; (focus rfl); (focus (intro w' hS A hA K hK; (simp only [agrees, Op.operands, Call.operands, Act.eval, Array.getD_eq_getD_getElem?, List.getElem?_toArray, List.getElem?_cons_succ, List.getElem?_cons_zero, Option.getD_some, and_true, true_and, List.append_toArray, List.nil_append, List.cons_append, List.toList_toArray, Array.toList_append] at hA); first | fail | (obtain ⟨hSc, hSf, hSs⟩ := hS.cells; go_simp; exact hK _ hS))); (try simp only [Act.put, List.setIfInBounds_toArray, List.set_cons_zero, List.set_cons_succ])))); refine walkF_nil ?_)
        intro w2 hw2
        by_cases hxy : x = y
        · subst hxy
          go_wp2_with fail
          all_goals first
            | (exfalso; simp_all; done)
            | (go_roundw
               case rel => exact ⟨k + 1, by omega, by go_num, Lib.hid (by rw [take_snoc l k hlt, take_snoc m k hlm, ht.out, hx1.out, hx2.out]), (by repeat (first | (with_reducible assumption) | (with_reducible exact Ext.rfl' _) | (with_reducible exact Ext.new _ _) | (with_reducible refine Ext.alloc' ?_ _) | (with_reducible refine Ext.drew' ?_) | (with_reducible refine Ext.drewN' ?_ _) | (with_reducible refine Ext.set' ?_ ?_ _; rotate_left; (focus (first | omega | (simp; done) | (simp; omega)))) | (with_reducible refine Ext.then (b := ?_) ?_ ?_; rotate_left; rotate_left; (with_reducible assumption))))⟩
               case measure => simp [intOf]; omega)
        · have hn : (x == y) = false := by
            rw [beq_eq_false_iff_ne]; exact hxy
          have hn2 : (x != y) = true := by rw [bne_iff_ne]; exact hxy
          replace hxy := Lib.hid hxy
          go_wp2_with fail
          all_goals first
            | (exfalso; simp_all; done)
            | (go_ret
               refine ⟨ret_f (fun h => ?_), (by repeat (first | (with_reducible assumption) | (with_reducible exact Ext.rfl' _) | (with_reducible exact Ext.new _ _) | (with_reducible refine Ext.alloc' ?_ _) | (with_reducible refine Ext.drew' ?_) | (with_reducible refine Ext.drewN' ?_ _) | (with_reducible refine Ext.set' ?_ ?_ _; rotate_left; (focus (first | omega | (simp; done) | (simp; omega)))) | (with_reducible refine Ext.then (b := ?_) ?_ ?_; rotate_left; rotate_left; (with_reducible assumption))))⟩
               subst h
               exact hxy.out (hx1.out.symm.trans hx2.out))
      · have hkl : k = l.length := by omega
        clear ha hb
        go_wp2_with fail
        go_ret
        refine ⟨ret_t ?_, (by repeat (first | (with_reducible assumption) | (with_reducible exact Ext.rfl' _) | (with_reducible exact Ext.new _ _) | (with_reducible refine Ext.alloc' ?_ _) | (with_reducible refine Ext.drew' ?_) | (with_reducible refine Ext.drewN' ?_ _) | (with_reducible refine Ext.set' ?_ ?_ _; rotate_left; (focus (first | omega | (simp; done) | (simp; omega)))) | (with_reducible refine Ext.then (b := ?_) ?_ ?_; rotate_left; rotate_left; (with_reducible assumption))))⟩
        have h1 := ht.out
        rw [List.take_of_length_le (by omega), List.take_of_length_le (by have := HL.out; omega)] at h1
        exact h1
  · have HL : Hid (¬ l = m) := fun h => hl (by rw [h])
    have hlb : ((l.length : Int) == (m.length : Int)) = false := by rw [beq_eq_false_iff_ne]; omega
    clear hl
    go_enter Try.func19, Try.ntmps19
    go_wp2_with fail
    go_ret
    exact ⟨ret_f HL.out, (by repeat (first | (with_reducible assumption) | (with_reducible exact Ext.rfl' _) | (with_reducible exact Ext.new _ _) | (with_reducible refine Ext.alloc' ?_ _) | (with_reducible refine Ext.drew' ?_) | (with_reducible refine Ext.drewN' ?_ _) | (with_reducible refine Ext.set' ?_ ?_ _; rotate_left; (focus (first | omega | (simp; done) | (simp; omega)))) | (with_reducible refine Ext.then (b := ?_) ?_ ?_; rotate_left; rotate_left; (with_reducible assumption))))⟩
end Go.Proofs.Ytdpdpjimmfajgaa
namespace Go.Proofs.Ytdpdpjimmfajgaa
open Go.RowKit Go.Shelf Go.Sort
set_option linter.unusedSimpArgs false
set_option linter.unusedVariables false
theorem cellsI {h : PH} : ∀ (l : List Int), (∀ x ∈ l, I64 x) → Cells h IntR 1 (l.map (Value.int .i64)) l
  | [], _ => rfl
  | x :: l, hx => ⟨[.int .i64 x], l.map (Value.int .i64), rfl, rfl, ⟨rfl, hx x (by simp)⟩, cellsI l fun y hy => hx y (by simp [hy])⟩
theorem cellsD {h : PH} : ∀ {l : List Int} {c : List Value}, Cells h IntR 1 c l → c = l.map (Value.int .i64) ∧ ∀ x ∈ l, I64 x
  | [], c, hc => ⟨hc, by simp⟩
  | x :: l, c, hc => by
    obtain ⟨d, e, rfl, h1, ⟨rfl, h2⟩, h3⟩ := hc
    obtain ⟨rfl, h4⟩ := cellsD h3
    refine ⟨rfl, fun y hy => ?_⟩
    rcases List.mem_cons.1 hy with rfl | hy
    · exact h2
    · exact h4 y hy
theorem ownI_of {w : World} {base n : Nat} {v : Value} {l : List Int} (h : w.ownsRow base 3 1 v n (l.map (Value.int .i64))) (hx : ∀ x ∈ l, I64 x) : OwnI base w v l := by
  obtain ⟨h1, ⟨rfl, rfl⟩ | ⟨g, cap, cur, rfl, h2, h3, h4, h5, h6, h7⟩⟩ := h
  · exact .inl ⟨rfl, by simpa using h1⟩
  · have hn : l.length = n := by simpa using h1
    subst hn
    exact .inr ⟨g, cap, cur, rfl, h2, rfl, h3, h4, h5, h6, by rw [h7]; exact cellsI l hx⟩
theorem intsI64 {w : World} {v : Value} {xs : List Int} (hr : IntsR (ph w) v xs) : ∀ x ∈ xs, I64 x := by
  obtain ⟨a, c, rfl, hlen, hr⟩ := hr.form
  intro x hx
  obtain ⟨k, hk, rfl⟩ := List.getElem_of_mem hx
  obtain ⟨-, -, -, -, h, -⟩ := IntsR.at hr k hk
  exact h
theorem intsCells {w : World} {a : Option Addr} {c : Nat} {xs : List Int} (hr : IntsR (ph w) (.slice a xs.length c) xs) (h0 : xs ≠ []) : ∃ b o, a = some ⟨b, o, none⟩ ∧ ∀ j, j < xs.length → w.cell? ⟨b, o + j, none⟩ = some (.int .i64 (xs.getD j 0)) := by
  have hp : 0 < xs.length := List.length_pos_iff.2 h0
  obtain ⟨b, o, rfl, -⟩ := IntsR.at hr 0 hp
  refine ⟨b, o, rfl, fun j hj => ?_⟩
  obtain ⟨b', o', he, h1, -⟩ := IntsR.at hr j hj
  cases he
  rw [h1]
  simp [List.getD, hj]
theorem clone_i (xs : List Int) (v : Value) (w : World) (hr : IntsR (ph w) v xs) (hl : xs.length ≤ 1000000) : Calls Try.prog 38 #[v] w (fun e w' => ∃ v', e = .returned v' ∧ OwnI w.heap.size w' v' xs ∧ Ext w w') := by
  have hx := intsI64 hr
  obtain ⟨a, c, rfl, hlen, hr⟩ := hr.form
  by_cases h0 : xs = []
  · subst h0
    cases a with
    | none =>
      refine (Any.slices_Clone_int_nil clInt 0 c w).mono ?_
      rintro e w' ⟨rfl, rfl⟩
      exact ⟨_, rfl, OwnS.nil _ _ _ _ _ _, Ext.rfl' _⟩
    | some a =>
      refine (Any.slices_Clone_int_zero clInt a c w).mono ?_
      rintro e w' ⟨v', rfl, ho, -, hb⟩
      exact ⟨_, rfl, ownI_of (l := []) ho (by simp), hb⟩
  · obtain ⟨b, o, rfl, hc⟩ := intsCells hr h0
    refine (Any.slices_Clone_int clInt b o xs.length c xs w (Nat.le_refl _) (by omega) hc).mono ?_
    rintro e w' ⟨v', rfl, ho, -, hb⟩
    exact ⟨_, rfl, ownI_of (by rw [List.take_length] at ho; exact ho) hx, hb⟩
theorem contains_i (xs : List Int) (n : Int) (v : Value) (w : World) (hr : IntsR (ph w) v xs) : Calls Try.prog 39 #[v, .int .i64 n] w (RetP w (.bool (decide (n ∈ xs)))) := by
  obtain ⟨a, c, rfl, hlen, hr⟩ := hr.form
  by_cases h0 : xs = []
  · subst h0
    refine (Any.slices_Contains_int_empty ctInt a c n w).mono ?_
    rintro e w' ⟨rfl, rfl⟩
    exact ⟨by simp, rfl⟩
  · obtain ⟨b, o, rfl, hc⟩ := intsCells hr h0
    refine (Any.slices_Contains_int ctInt b o xs.length c xs n w (Nat.le_refl _) (by omega) hc).mono ?_
    rintro e w' ⟨rfl, rfl⟩
    refine ⟨?_, rfl⟩
    rw [List.take_length]
    exact ret_bool (by rw [Bool.eq_iff_iff]; simp)
theorem sort_i (xs : List Int) (v : Value) (base : Nat) (w : World) (h : OwnI base w v xs) (hl : xs.length ≤ 1000000) : Calls Try.prog 40 #[v] w (fun e w' => e = .returned (.tuple #[]) ∧ OwnI base w' v (xs.mergeSort fun x y => decide (x ≤ y)) ∧ w.grownBy w' v.ownBlock) := by
  rcases h with ⟨rfl, rfl⟩ | ⟨g, cap, cur, rfl, h1, h2, h3, h4, h5, h6, h7⟩
  · refine (Any.slices_Sort_int_none soInt none 0 w).mono ?_
    rintro e w' ⟨rfl, rfl⟩
    exact ⟨rfl, by rw [List.mergeSort_nil]; exact OwnS.nil _ _ _ _ _ _, rfl, rfl, rfl, Nat.le_refl _, fun _ _ _ => rfl⟩
  · obtain ⟨h8, h9⟩ := cellsD h7
    rw [Nat.mul_one] at h8
    have hlt : g < w.heap.size := (Array.getElem?_eq_some_iff.1 h3).1
    refine (Any.slices_Sort_int soInt g 0 cap xs w (holds_of_blockI h3 h8) hlt (by omega)).mono ?_
    rintro e w' ⟨rfl, n, os, rfl⟩
    refine ⟨rfl, ?_, grownBy_sortedI _⟩
    have h := ownsRow_sortedI (n := n) (os := os) (ts := xs.mergeSort fun x y => decide (x ≤ y)) (List.length_mergeSort _) h1 h3 h4 h5 h6
    exact ownI_of h fun x hx => h9 x (List.mem_mergeSort.1 hx)
set_option maxHeartbeats 1000000 in
theorem has_i (xs : List Int) (n : Int) (v : Value) (w : World) (hr : IntsR (ph w) v xs) : Calls Try.prog 43 #[v, .int .i64 n] w (RetP w (.bool (decide (n ∈ xs)))) := by
  obtain ⟨a, c, rfl, hlen, hr⟩ := hr.form
  go_enter Try.func43, Try.ntmps43
  go_wp2_with fail
  go_loopw [5] (fun i wr => ∃ k : Nat, k ≤ xs.length ∧ i = .int .i64 k ∧ Hid (∀ x ∈ xs.take k, x ≠ n) ∧ wr = w) (fun i _ => xs.length - (intOf i).toNat)
  case atStart => exact ⟨0, by omega, rfl, Lib.hid (by simp), rfl⟩
  case round =>
    obtain ⟨k, hk, rfl, hno, rfl⟩ := hrel
    by_cases hlt : k < xs.length
    · obtain ⟨gb, go, rfl, gc, gi, gl⟩ := IntsR.at hr k hlt
      have hyes : xs[k] = n → Hid (n ∈ xs) := fun h => Lib.hid (h ▸ List.getElem_mem hlt)
      have hno' : xs[k] ≠ n → Hid (∀ x ∈ xs.take (k + 1), x ≠ n) := fun h => Lib.hid (take_all (p := fun x => x ≠ n) hlt h hno.out)
      clear hno
      generalize xs[k] = x at *
      by_cases h : x = n
      · have hb : (x == n) = true := by rw [beq_iff_eq]; exact h
        have hm := hyes h
        clear hyes hno' h
        go_wp2_with fail
        go_ret
        exact ⟨ret_bool (by simp; exact hm.out), rfl⟩
      · have hb : (x == n) = false := by rw [beq_eq_false_iff_ne]; exact h
        have hm := hno' h
        clear hyes hno' h
        go_wp2_with fail
        go_roundw
        case rel => exact ⟨k + 1, by omega, rfl, hm, trivial⟩
        case measure => simp [intOf]; omega
    · have hm : Hid (n ∉ xs) := by
        show _
        intro hmem
        exact take_done (p := fun x => x ≠ n) (by omega) hno.out n hmem rfl
      clear hno
      go_wp2_with fail
      go_ret
      exact ⟨ret_bool (by simp; exact hm.out), rfl⟩
end Go.Proofs.Ytdpdpjimmfajgaa
namespace Go.Proofs.Ytdpdpjimmfajgaa
open Go.RowKit
set_option linter.unusedSimpArgs false
set_option linter.unusedVariables false
def depE (l : List Cl) (i : Int) : List Int × Int := if checkC l i ≠ 0 then ([], checkC l i) else (depS l i.toNat, 0)
theorem depE_len (l : List Cl) (i : Nat) : (depS l i).length ≤ i := by
  unfold depS
  exact Nat.le_trans (List.length_filter_le _ _) (by simp)
def depK (l : List Cl) (i k : Nat) : List Int := ((List.range k).map fun (k : Nat) => (k : Int)).filter fun k => decide (k ∈ depC l i)
theorem depK_len (l : List Cl) (i k : Nat) : (depK l i k).length ≤ k := by
  unfold depK
  exact Nat.le_trans (List.length_filter_le _ _) (by simp)
theorem depK_s (l : List Cl) (i k : Nat) : depK l i (k + 1) = if (k : Int) ∈ depC l i then depK l i k ++ [(k : Int)] else depK l i k := by
  unfold depK
  rw [List.range_succ, List.map_append, List.filter_append]
  by_cases h : (k : Int) ∈ depC l i
  · rw [if_pos h]; simp [h]
  · rw [if_neg h]; simp [h]
theorem sort_depC {l : List Cl} {i : Nat} (h : DepI i (depC l i)) : ((depC l i).mergeSort fun x y => decide (x ≤ y)) = depS l i := by
  refine sorted_dep h ?_ (List.mergeSort_perm _ _)
  have := List.pairwise_mergeSort (le := fun (x y : Int) => decide (x ≤ y)) (fun a b c h1 h2 => by simp only [decide_eq_true_eq] at *; omega) (fun a b => by simp only [Bool.or_eq_true, decide_eq_true_eq]; omega) (depC l i)
  exact this.imp fun h => by simpa using h
/-- the state of the outer loop -/
structure DepA (l : List Cl) (n k : Nat) (all : List Int) : Prop where
  I : DepI n all
  le : k ≤ all.length
  go : depGo l (n + 1 - k) k all = depC l n
theorem DepA.start {l : List Cl} {n : Nat} (hv : validC l = 0) (hn : n < l.length) : DepA l n 0 (refsAt l n) := ⟨start_I hv hn, Nat.zero_le _, rfl⟩
theorem DepA.step {l : List Cl} {n k : Nat} {all : List Int} (hv : validC l = 0) (hn : n < l.length) (h : DepA l n k all) (hk : k < all.length) : DepA l n (k + 1) (depAdd all (refsAt l all[k])) := by
  have hb := h.I.2 _ (List.getElem_mem hk)
  have hl := nodup_bound h.I
  refine ⟨depAdd_I h.I (refsAt_I hv hn hb.1 (by omega)), ?_, ?_⟩
  · have := depAdd_congr_len all (refsAt l all[k]); omega
  · have h1 := h.go
    have e : n + 1 - k = (n + 1 - (k + 1)) + 1 := by omega
    rw [e, depGo_step hk] at h1
    exact h1
theorem DepA.fin {l : List Cl} {n k : Nat} {all : List Int} (h : DepA l n k all) (hk : ¬ k < all.length) : all = depC l n := by
  have h1 := h.go
  rw [depGo_end (by omega)] at h1
  exact h1
theorem refsAt_n {l : List Cl} {n : Nat} (h : n < l.length) : refsAt l (n : Int) = l[n].refs := by
  unfold refsAt
  rw [Int.toNat_natCast, List.getElem?_eq_getElem h]
theorem depAdd_lenI {n : Nat} {all rs : List Int} (h : DepI n all) (hr : ∀ r ∈ rs, 0 ≤ r ∧ r < (n : Int)) (q : Nat) : (depAdd all (rs.take q)).length ≤ n :=
  nodup_bound (depAdd_I h fun r hx => hr r (List.mem_of_mem_take hx))
set_option maxHeartbeats 1000000 in
theorem cdepends_c (v : Value) (l : List Cl) (i : Int) (w : World) (hr : ClsR (ph w) v l) (hs : ∀ c ∈ l, c.body.bulk ≤ 900000) : Calls Try.prog 18 #[v, .int .i64 i] w (IntE w (depE l i)) := by
  have hr' := hr
  obtain ⟨a, c, rfl, hlen, hr⟩ := hr.form
  go_enter Try.func18, Try.ntmps18
  go_wp2_with fail
  refine RetV_at (ccheck_c _ l i _ hr' hs) ?_
  intro w1 hx1
  by_cases he : checkC l i = 0
  · obtain ⟨hv, h0, h1⟩ := checkC_0 he
    have hm : Hid (depE l i = (depS l i.toNat, 0)) := by show _ = _; unfold depE; rw [if_neg (by simpa using he)]
    obtain ⟨n, rfl⟩ : ∃ n : Nat, i = (n : Int) := ⟨i.toNat, by omega⟩
    have hn : n < l.length := by omega
    have h32 := (validC_0 hv).1
    rw [he]
    rw [Int.toNat_natCast] at hm
    clear he hr'
    have hp' := hr.mono mono_ClR hx1.ple
    obtain ⟨b, o, a1, c1, a3, c3, a4, c4, rfl, h0, h1, h2, h3, h4, hbl, hrl, hri, hE⟩ := ClsR.at hp' n hn
    have h8 := ((validC_0 hv).2 n hn).1
    have hA := DepA.start hv hn
    rw [refsAt_n hn] at hA
    generalize l[n] = x at *
    clear hp' hE
    go_wp2_with fail
    refine (clone_i x.refs _ _ (hri.mono mono_IntR (Ext.ple (by repeat (first | (with_reducible assumption) | (with_reducible exact Ext.rfl' _) | (with_reducible exact Ext.new _ _) | (with_reducible refine Ext.alloc' ?_ _) | (with_reducible refine Ext.drew' ?_) | (with_reducible refine Ext.drewN' ?_ _) | (with_reducible refine Ext.set' ?_ ?_ _; rotate_left; (focus (first | omega | (simp; done) | (simp; omega)))) | (with_reducible refine Ext.then (b := ?_) ?_ ?_; rotate_left; rotate_left; (with_reducible assumption)))))) (by omega)).mono ?_
    rintro e w2 ⟨v', rfl, hl, hx2⟩
    have hx2' : Ext w w2 := (by repeat (first | (with_reducible assumption) | (with_reducible exact Ext.rfl' _) | (with_reducible exact Ext.new _ _) | (with_reducible refine Ext.alloc' ?_ _) | (with_reducible refine Ext.drew' ?_) | (with_reducible refine Ext.drewN' ?_ _) | (with_reducible refine Ext.set' ?_ ?_ _; rotate_left; (focus (first | omega | (simp; done) | (simp; omega)))) | (with_reducible refine Ext.then (b := ?_) ?_ ?_; rotate_left; rotate_left; (with_reducible assumption))))
    have hl : OwnI w.heap.size w2 v' x.refs := by
      have := hx1.size
      rcases hl with h | ⟨g, cap, cur, h1, h2, h3⟩
      · exact .inl h
      · exact .inr ⟨g, cap, cur, h1, by omega, h3⟩
    clear h0 h1 h2 h3 h4 hrl hri hx1 hx2
    generalize x.refs = xs at *
    clear x h8
    go_wp2_with fail
    go_loopw [7, 8] (fun r i wr => ∃ (k : Nat) (all : List Int), i = .int .i64 k ∧ OwnI w.heap.size wr r all ∧ Hid (DepA l n k all) ∧ Ext w wr) (fun _ i _ => n + 1 - (intOf i).toNat)
    case atStart => exact ⟨0, xs, rfl, hl, Lib.hid hA, hx2'⟩
    case round =>
      clear hl hA hx2'
      obtain ⟨k, all, rfl, hl, hA, hb⟩ := hrel
      obtain ⟨va, vc, rfl, hal⟩ := hl.form
      have hbd := nodup_bound hA.out.I
      have hrep := hl.rep mono_IntR (noH_le _)
      by_cases hlt : k < all.length
      · obtain ⟨gb, go, hga, gc, gi, gl⟩ := IntsR.at hrep k hlt
        subst hga
        have hrb := hA.out.I.2 _ (List.getElem_mem hlt)
        have hst := Lib.hid (hA.out.step hv hn hlt)
        have hrf := refsAt_I hv hn hrb.1 (by omega)
        have hI := Lib.hid hA.out.I
        obtain ⟨m, hm0⟩ : ∃ m : Nat, all[k] = (m : Int) := ⟨all[k].toNat, by omega⟩
        rw [hm0] at gc gi hrb hst hrf
        have hml : m < l.length := by omega
        obtain ⟨b2, o2, a1, c1, a3, c3, a4, c4, e2, h0, h1, h2, h3, h4, hbl, hrl, hri, hE⟩ := ClsR.atH hr hb.ple m hml
        cases e2
        rw [refsAt_n hml] at hst hrf
        have h8 := ((validC_0 hv).2 m hml).1
        generalize l[m] = x at *
        clear hE hm0
        have hdl := Lib.hid (depAdd_lenI hI.out hrf)
        have hds : ∀ q (h : q < x.refs.length), _ := fun q h => depAdd_take (all := all) q h
        generalize x.refs = xs at *
        go_wp2_with fail
        go_loopw [7, 38] (fun r j wq => ∃ q : Nat, q ≤ xs.length ∧ j = .int .i64 q ∧ OwnI w.heap.size wq r (depAdd all (xs.take q)) ∧ Ext w wq) (fun _ j _ => xs.length - (intOf j).toNat)
        case atStart => exact ⟨0, Nat.zero_le _, rfl, hl, (by repeat (first | (with_reducible assumption) | (with_reducible exact Ext.rfl' _) | (with_reducible exact Ext.new _ _) | (with_reducible refine Ext.alloc' ?_ _) | (with_reducible refine Ext.drew' ?_) | (with_reducible refine Ext.drewN' ?_ _) | (with_reducible refine Ext.set' ?_ ?_ _; rotate_left; (focus (first | omega | (simp; done) | (simp; omega)))) | (with_reducible refine Ext.then (b := ?_) ?_ ?_; rotate_left; rotate_left; (with_reducible assumption))))⟩
        case round =>
          obtain ⟨q, hq, rfl, hlq, hbq⟩ := hrel
          by_cases hlt2 : q < xs.length
          · obtain ⟨vb, vd, rfl, hbl2⟩ := hlq.form
            obtain ⟨gb2, go2, hga2, gc2, gi2, gl2⟩ := IntsR.at (hri.mono mono_IntR hbq.ple) q hlt2
            subst hga2
            have hd1 := Lib.hid (hds q hlt2)
            have hlen2 := Lib.hid (hdl.out q)
            have hrq := hlq.rep mono_IntR (noH_le _)
            generalize depAdd all (xs.take q) = cur at *
            generalize xs[q] = y at *
            have hxq : Ext w wr := (by repeat (first | (with_reducible assumption) | (with_reducible exact Ext.rfl' _) | (with_reducible exact Ext.new _ _) | (with_reducible refine Ext.alloc' ?_ _) | (with_reducible refine Ext.drew' ?_) | (with_reducible refine Ext.drewN' ?_ _) | (with_reducible refine Ext.set' ?_ ?_ _; rotate_left; (focus (first | omega | (simp; done) | (simp; omega)))) | (with_reducible refine Ext.then (b := ?_) ?_ ?_; rotate_left; rotate_left; (with_reducible assumption))))
            go_wp2_with fail
            refine RetP_at (contains_i cur y _ _ hrq) ?_
            by_cases hmem : y ∈ cur
            · have hn1 : Hid (depAdd all (xs.take (q + 1)) = cur) := by show _ = _; rw [hd1.out, if_pos hmem]
              rw [decide_eq_true hmem]
              clear hd1 hmem hrq
              go_wp2_with fail
              go_roundw
              case rel => exact ⟨q + 1, by omega, by go_num, by rw [hn1.out]; exact hlq, (by repeat (first | (with_reducible assumption) | (with_reducible exact Ext.rfl' _) | (with_reducible exact Ext.new _ _) | (with_reducible refine Ext.alloc' ?_ _) | (with_reducible refine Ext.drew' ?_) | (with_reducible refine Ext.drewN' ?_ _) | (with_reducible refine Ext.set' ?_ ?_ _; rotate_left; (focus (first | omega | (simp; done) | (simp; omega)))) | (with_reducible refine Ext.then (b := ?_) ?_ ?_; rotate_left; rotate_left; (with_reducible assumption))))⟩
              case measure => simp [intOf]; omega
            · have hn1 : Hid (depAdd all (xs.take (q + 1)) = cur ++ [y]) := by show _ = _; rw [hd1.out, if_neg hmem]
              rw [decide_eq_false hmem]
              clear hd1 hmem hrq
              go_wp2_with (at_builtin; refine wpList_append_S (E := IntR) (H := noH) (base := w.heap.size) (ys := [y]) rfl _ _ 22 3 rfl (.int .i64 0) 8 Try.underlying22 infoInt rfl rfl rfl (hlq.keep (by repeat (first | (with_reducible assumption) | (with_reducible exact Ext.rfl' _) | (with_reducible exact Ext.new _ _) | (with_reducible refine Ext.alloc' ?_ _) | (with_reducible refine Ext.drew' ?_) | (with_reducible refine Ext.drewN' ?_ _) | (with_reducible refine Ext.set' ?_ ?_ _; rotate_left; (focus (first | omega | (simp; done) | (simp; omega)))) | (with_reducible refine Ext.then (b := ?_) ?_ ?_; rotate_left; rotate_left; (with_reducible assumption))))) ?c1 (noH_le _) ?c2 one_IntR ?c3 ?c4 ?c5)
              case c1 => exact Src.lit1 ⟨rfl, gi2⟩ rfl (fun j => by simp [go_sem])
              case c2 => simp; have := hxq.size; omega
              case c3 => simp; have := hlen2.out; omega
              case c4 => simp; have := hlen2.out; omega
              case c5 =>
                intro l' w3 hl3 hg3 hn3
                have hne := hlq.lt
                have hb3 : Ext w w3 := Ext.grown (by repeat (first | (with_reducible assumption) | (with_reducible exact Ext.rfl' _) | (with_reducible exact Ext.new _ _) | (with_reducible refine Ext.alloc' ?_ _) | (with_reducible refine Ext.drew' ?_) | (with_reducible refine Ext.drewN' ?_ _) | (with_reducible refine Ext.set' ?_ ?_ _; rotate_left; (focus (first | omega | (simp; done) | (simp; omega)))) | (with_reducible refine Ext.then (b := ?_) ?_ ?_; rotate_left; rotate_left; (with_reducible assumption)))) hg3 (fun k e => by have := hne _ e; omega)
                rw [← hn1.out] at hl3
                clear hg3 hn3 hlq hn1
                go_wp2_with fail
                go_roundw
                case rel => exact ⟨q + 1, by omega, by go_num, hl3, (by repeat (first | (with_reducible assumption) | (with_reducible exact Ext.rfl' _) | (with_reducible exact Ext.new _ _) | (with_reducible refine Ext.alloc' ?_ _) | (with_reducible refine Ext.drew' ?_) | (with_reducible refine Ext.drewN' ?_ _) | (with_reducible refine Ext.set' ?_ ?_ _; rotate_left; (focus (first | omega | (simp; done) | (simp; omega)))) | (with_reducible refine Ext.then (b := ?_) ?_ ?_; rotate_left; rotate_left; (with_reducible assumption))))⟩
                case measure => simp [intOf]; omega
          · have hn1 : Hid (depAdd all (xs.take q) = depAdd all xs) := by show _ = _; rw [List.take_of_length_le (by omega)]
            rw [hn1.out] at hlq
            clear hn1
            go_wp2_with fail
            go_roundw
            case rel => exact ⟨k + 1, depAdd all xs, by go_num, hlq, hst, (by repeat (first | (with_reducible assumption) | (with_reducible exact Ext.rfl' _) | (with_reducible exact Ext.new _ _) | (with_reducible refine Ext.alloc' ?_ _) | (with_reducible refine Ext.drew' ?_) | (with_reducible refine Ext.drewN' ?_ _) | (with_reducible refine Ext.set' ?_ ?_ _; rotate_left; (focus (first | omega | (simp; done) | (simp; omega)))) | (with_reducible refine Ext.then (b := ?_) ?_ ?_; rotate_left; rotate_left; (with_reducible assumption))))⟩
            case measure => simp [intOf]; omega
      · have hfin := hA.out.fin hlt
        have hI := hA.out.I
        clear hA
        have hsd : Hid ((all.mergeSort fun x y => decide (x ≤ y)) = depS l n) := by show _ = _; rw [hfin] at hI ⊢; exact sort_depC hI
        clear hI hrep hr hfin
        go_wp2_with fail
        refine (sort_i _ _ w.heap.size _ (hl.keep (by repeat (first | (with_reducible assumption) | (with_reducible exact Ext.rfl' _) | (with_reducible exact Ext.new _ _) | (with_reducible refine Ext.alloc' ?_ _) | (with_reducible refine Ext.drew' ?_) | (with_reducible refine Ext.drewN' ?_ _) | (with_reducible refine Ext.set' ?_ ?_ _; rotate_left; (focus (first | omega | (simp; done) | (simp; omega)))) | (with_reducible refine Ext.then (b := ?_) ?_ ?_; rotate_left; rotate_left; (with_reducible assumption))))) (by omega)).mono ?_
        rintro e w3 ⟨rfl, ho, hg⟩
        have hne := hl.lt
        have hb3 : Ext w w3 := Ext.grown (by repeat (first | (with_reducible assumption) | (with_reducible exact Ext.rfl' _) | (with_reducible exact Ext.new _ _) | (with_reducible refine Ext.alloc' ?_ _) | (with_reducible refine Ext.drew' ?_) | (with_reducible refine Ext.drewN' ?_ _) | (with_reducible refine Ext.set' ?_ ?_ _; rotate_left; (focus (first | omega | (simp; done) | (simp; omega)))) | (with_reducible refine Ext.then (b := ?_) ?_ ?_; rotate_left; rotate_left; (with_reducible assumption)))) hg (fun k e => by have := hne _ e; omega)
        rw [hsd.out] at ho
        clear hg hl
        go_wp2_with fail
        go_ret2
        rw [hm.out]
        exact ⟨_, rfl, (by repeat (first | (with_reducible assumption) | (with_reducible exact Ext.rfl' _) | (with_reducible exact Ext.new _ _) | (with_reducible refine Ext.alloc' ?_ _) | (with_reducible refine Ext.drew' ?_) | (with_reducible refine Ext.drewN' ?_ _) | (with_reducible refine Ext.set' ?_ ?_ _; rotate_left; (focus (first | omega | (simp; done) | (simp; omega)))) | (with_reducible refine Ext.then (b := ?_) ?_ ?_; rotate_left; rotate_left; (with_reducible assumption)))), ho.rep mono_IntR (noH_le _)⟩
  · have hn : Hid (depE l i = ([], checkC l i)) := by show _ = _; unfold depE; rw [if_pos he]
    generalize checkC l i = e at *
    have b3 : (e == 0) = false := by simpa using he
    have b4 : (e != 0) = true := by simpa using he
    clear hr hr'
    go_wp2_with fail
    go_ret2
    rw [hn.out]
    exact ⟨_, rfl, (by repeat (first | (with_reducible assumption) | (with_reducible exact Ext.rfl' _) | (with_reducible exact Ext.new _ _) | (with_reducible refine Ext.alloc' ?_ _) | (with_reducible refine Ext.drew' ?_) | (with_reducible refine Ext.drewN' ?_ _) | (with_reducible refine Ext.set' ?_ ?_ _; rotate_left; (focus (first | omega | (simp; done) | (simp; omega)))) | (with_reducible refine Ext.then (b := ?_) ?_ ?_; rotate_left; rotate_left; (with_reducible assumption)))), SliceRep.nil _ _ _⟩
end Go.Proofs.Ytdpdpjimmfajgaa
namespace Go.Proofs.Ytdpdpjimmfajgaa
open Go.RowKit
set_option linter.unusedSimpArgs false
set_option linter.unusedVariables false
theorem srcI {w : World} {v : Value} {xs : List Int} (h : IntsR (ph w) v xs) : Src w noH IntR 1 v xs := by
  obtain ⟨a, cap, rfl, h1, h2⟩ := Src.ofRep h (PLe.refl _)
  exact ⟨a, cap, rfl, h1, h2.imp id fun ⟨ad, c, e, hc, hh⟩ => ⟨ad, c, e, Cells.mono (h := ph w) (fun cs x (h : IntR (ph w) cs x) => (⟨h.1, h.2⟩ : IntR noH cs x)) hc, hh⟩⟩
set_option maxHeartbeats 1000000 in
theorem rdepends_c (v : Value) (l : List Cl) (i : Int) (w : World) (hr : ClsR (ph w) v l) (hs : ∀ c ∈ l, c.body.bulk ≤ 900000) : Calls Try.prog 23 #[v, .int .i64 i] w (IntE w (depE l i)) := by
  have hr' := hr
  obtain ⟨a, c, rfl, hlen, hr⟩ := hr.form
  go_enter Try.func23, Try.ntmps23
  go_wp2_with fail
  refine RetV_at (rccheck_c _ l i _ hr' hs) ?_
  intro w1 hx1
  by_cases he : checkC l i = 0
  · obtain ⟨hv, h0, h1⟩ := checkC_0 he
    have hm : Hid (depE l i = (depS l i.toNat, 0)) := by show _ = _; unfold depE; rw [if_neg (by simpa using he)]
    obtain ⟨n, rfl⟩ : ∃ n : Nat, i = (n : Int) := ⟨i.toNat, by omega⟩
    have hn : n < l.length := by omega
    have h32 := (validC_0 hv).1
    rw [he]
    rw [Int.toNat_natCast] at hm
    clear he hr'
    have hp' := hr.mono mono_ClR hx1.ple
    obtain ⟨b, o, a1, c1, a3, c3, a4, c4, rfl, h0, h1, h2, h3, h4, hbl, hrl, hri, hE⟩ := ClsR.at hp' n hn
    have h8 := ((validC_0 hv).2 n hn).1
    have hA := DepA.start hv hn
    rw [refsAt_n hn] at hA
    generalize l[n] = x at *
    clear hp' hE
    have hws := hx1.size
    generalize x.refs = xs at *
    go_wp2_with (at_builtin; refine wpList_append_S (E := IntR) (H := noH) (base := w.heap.size) (xs := []) (ys := xs) rfl _ _ 22 3 rfl (.int .i64 0) 8 Try.underlying22 infoInt rfl rfl rfl ?c0 ?c1 (noH_le _) ?c2 one_IntR ?c3 ?c4 ?c5)
    case c0 => exact OwnS.ofNew hws (heap_alloc_new _ _) rfl (Nat.zero_le _) rfl rfl
    case c1 => exact srcI (hri.mono mono_IntR (Ext.ple (by repeat (first | (with_reducible assumption) | (with_reducible exact Ext.rfl' _) | (with_reducible exact Ext.new _ _) | (with_reducible refine Ext.alloc' ?_ _) | (with_reducible refine Ext.drew' ?_) | (with_reducible refine Ext.drewN' ?_ _) | (with_reducible refine Ext.set' ?_ ?_ _; rotate_left; (focus (first | omega | (simp; done) | (simp; omega)))) | (with_reducible refine Ext.then (b := ?_) ?_ ?_; rotate_left; rotate_left; (with_reducible assumption))))))
    case c2 => simp; omega
    case c3 => simp; omega
    case c4 => simp; omega
    case c5 =>
      intro v' w2 hl hg2 hn2
      have hx2' : Ext w w2 := Ext.grown (by repeat (first | (with_reducible assumption) | (with_reducible exact Ext.rfl' _) | (with_reducible exact Ext.new _ _) | (with_reducible refine Ext.alloc' ?_ _) | (with_reducible refine Ext.drew' ?_) | (with_reducible refine Ext.drewN' ?_ _) | (with_reducible refine Ext.set' ?_ ?_ _; rotate_left; (focus (first | omega | (simp; done) | (simp; omega)))) | (with_reducible refine Ext.then (b := ?_) ?_ ?_; rotate_left; rotate_left; (with_reducible assumption)))) hg2 (fun k e => by simp [Value.ownBlock] at e; omega)
      clear h0 h1 h2 h3 h4 hrl hri hg2 hn2
      clear x h8
      go_wp2_with fail
      go_loopw [7, 8] (fun r i wr => ∃ (k : Nat) (all : List Int), i = .int .i64 k ∧ OwnI w.heap.size wr r all ∧ Hid (DepA l n k all) ∧ Ext w wr) (fun _ i _ => n + 1 - (intOf i).toNat)
      case atStart => exact ⟨0, xs, rfl, hl, Lib.hid hA, hx2'⟩
      case round =>
        clear hl hA hx2'
        obtain ⟨k, all, rfl, hl, hA, hb⟩ := hrel
        obtain ⟨va, vc, rfl, hal⟩ := hl.form
        have hbd := nodup_bound hA.out.I
        have hrep := hl.rep mono_IntR (noH_le _)
        by_cases hlt : k < all.length
        · obtain ⟨gb, go, hga, gc, gi, gl⟩ := IntsR.at hrep k hlt
          subst hga
          have hrb := hA.out.I.2 _ (List.getElem_mem hlt)
          have hst := Lib.hid (hA.out.step hv hn hlt)
          have hrf := refsAt_I hv hn hrb.1 (by omega)
          have hI := Lib.hid hA.out.I
          obtain ⟨m, hm0⟩ : ∃ m : Nat, all[k] = (m : Int) := ⟨all[k].toNat, by omega⟩
          rw [hm0] at gc gi hrb hst hrf
          have hml : m < l.length := by omega
          obtain ⟨b2, o2, a1, c1, a3, c3, a4, c4, e2, h0, h1, h2, h3, h4, hbl, hrl, hri, hE⟩ := ClsR.atH hr hb.ple m hml
          cases e2
          rw [refsAt_n hml] at hst hrf
          have h8 := ((validC_0 hv).2 m hml).1
          generalize l[m] = x at *
          clear hE hm0
          have hdl := Lib.hid (depAdd_lenI hI.out hrf)
          have hds : ∀ q (h : q < x.refs.length), _ := fun q h => depAdd_take (all := all) q h
          generalize x.refs = xs at *
          go_wp2_with fail
          go_loopw [7, 10] (fun r j wq => ∃ q : Nat, q ≤ xs.length ∧ j = .int .i64 q ∧ OwnI w.heap.size wq r (depAdd all (xs.take q)) ∧ Ext w wq) (fun _ j _ => xs.length - (intOf j).toNat)
          case atStart => exact ⟨0, Nat.zero_le _, rfl, hl, (by repeat (first | (with_reducible assumption) | (with_reducible exact Ext.rfl' _) | (with_reducible exact Ext.new _ _) | (with_reducible refine Ext.alloc' ?_ _) | (with_reducible refine Ext.drew' ?_) | (with_reducible refine Ext.drewN' ?_ _) | (with_reducible refine Ext.set' ?_ ?_ _; rotate_left; (focus (first | omega | (simp; done) | (simp; omega)))) | (with_reducible refine Ext.then (b := ?_) ?_ ?_; rotate_left; rotate_left; (with_reducible assumption))))⟩
          case round =>
            obtain ⟨q, hq, rfl, hlq, hbq⟩ := hrel
            by_cases hlt2 : q < xs.length
            · obtain ⟨vb, vd, rfl, hbl2⟩ := hlq.form
              obtain ⟨gb2, go2, hga2, gc2, gi2, gl2⟩ := IntsR.at (hri.mono mono_IntR hbq.ple) q hlt2
              subst hga2
              have hd1 := Lib.hid (hds q hlt2)
              have hlen2 := Lib.hid (hdl.out q)
              have hrq := hlq.rep mono_IntR (noH_le _)
              generalize depAdd all (xs.take q) = cur at *
              generalize xs[q] = y at *
              have hxq : Ext w wr := (by repeat (first | (with_reducible assumption) | (with_reducible exact Ext.rfl' _) | (with_reducible exact Ext.new _ _) | (with_reducible refine Ext.alloc' ?_ _) | (with_reducible refine Ext.drew' ?_) | (with_reducible refine Ext.drewN' ?_ _) | (with_reducible refine Ext.set' ?_ ?_ _; rotate_left; (focus (first | omega | (simp; done) | (simp; omega)))) | (with_reducible refine Ext.then (b := ?_) ?_ ?_; rotate_left; rotate_left; (with_reducible assumption))))
              go_wp2_with fail
              refine RetP_at (has_i cur y _ _ hrq) ?_
              by_cases hmem : y ∈ cur
              · have hn1 : Hid (depAdd all (xs.take (q + 1)) = cur) := by show _ = _; rw [hd1.out, if_pos hmem]
                rw [decide_eq_true hmem]
                clear hd1 hmem hrq
                go_wp2_with fail
                go_roundw
                case rel => exact ⟨q + 1, by omega, by go_num, by rw [hn1.out]; exact hlq, (by repeat (first | (with_reducible assumption) | (with_reducible exact Ext.rfl' _) | (with_reducible exact Ext.new _ _) | (with_reducible refine Ext.alloc' ?_ _) | (with_reducible refine Ext.drew' ?_) | (with_reducible refine Ext.drewN' ?_ _) | (with_reducible refine Ext.set' ?_ ?_ _; rotate_left; (focus (first | omega | (simp; done) | (simp; omega)))) | (with_reducible refine Ext.then (b := ?_) ?_ ?_; rotate_left; rotate_left; (with_reducible assumption))))⟩
                case measure => simp [intOf]; omega
              · have hn1 : Hid (depAdd all (xs.take (q + 1)) = cur ++ [y]) := by show _ = _; rw [hd1.out, if_neg hmem]
                rw [decide_eq_false hmem]
                clear hd1 hmem hrq
                go_wp2_with (at_builtin; refine wpList_append_S (E := IntR) (H := noH) (base := w.heap.size) (ys := [y]) rfl _ _ 22 3 rfl (.int .i64 0) 8 Try.underlying22 infoInt rfl rfl rfl (hlq.keep (by repeat (first | (with_reducible assumption) | (with_reducible exact Ext.rfl' _) | (with_reducible exact Ext.new _ _) | (with_reducible refine Ext.alloc' ?_ _) | (with_reducible refine Ext.drew' ?_) | (with_reducible refine Ext.drewN' ?_ _) | (with_reducible refine Ext.set' ?_ ?_ _; rotate_left; (focus (first | omega | (simp; done) | (simp; omega)))) | (with_reducible refine Ext.then (b := ?_) ?_ ?_; rotate_left; rotate_left; (with_reducible assumption))))) ?d1 (noH_le _) ?d2 one_IntR ?d3 ?d4 ?d5)
                case d1 => exact Src.lit1 ⟨rfl, gi2⟩ rfl (fun j => by simp [go_sem])
                case d2 => simp; have := hxq.size; omega
                case d3 => simp; have := hlen2.out; omega
                case d4 => simp; have := hlen2.out; omega
                case d5 =>
                  intro l' w3 hl3 hg3 hn3
                  have hne := hlq.lt
                  have hb3 : Ext w w3 := Ext.grown (by repeat (first | (with_reducible assumption) | (with_reducible exact Ext.rfl' _) | (with_reducible exact Ext.new _ _) | (with_reducible refine Ext.alloc' ?_ _) | (with_reducible refine Ext.drew' ?_) | (with_reducible refine Ext.drewN' ?_ _) | (with_reducible refine Ext.set' ?_ ?_ _; rotate_left; (focus (first | omega | (simp; done) | (simp; omega)))) | (with_reducible refine Ext.then (b := ?_) ?_ ?_; rotate_left; rotate_left; (with_reducible assumption)))) hg3 (fun k e => by have := hne _ e; omega)
                  rw [← hn1.out] at hl3
                  clear hg3 hn3 hlq hn1
                  go_wp2_with fail
                  go_roundw
                  case rel => exact ⟨q + 1, by omega, by go_num, hl3, (by repeat (first | (with_reducible assumption) | (with_reducible exact Ext.rfl' _) | (with_reducible exact Ext.new _ _) | (with_reducible refine Ext.alloc' ?_ _) | (with_reducible refine Ext.drew' ?_) | (with_reducible refine Ext.drewN' ?_ _) | (with_reducible refine Ext.set' ?_ ?_ _; rotate_left; (focus (first | omega | (simp; done) | (simp; omega)))) | (with_reducible refine Ext.then (b := ?_) ?_ ?_; rotate_left; rotate_left; (with_reducible assumption))))⟩
                  case measure => simp [intOf]; omega
            · have hn1 : Hid (depAdd all (xs.take q) = depAdd all xs) := by show _ = _; rw [List.take_of_length_le (by omega)]
              rw [hn1.out] at hlq
              clear hn1
              go_wp2_with fail
              go_roundw
              case rel => exact ⟨k + 1, depAdd all xs, by go_num, hlq, hst, (by repeat (first | (with_reducible assumption) | (with_reducible exact Ext.rfl' _) | (with_reducible exact Ext.new _ _) | (with_reducible refine Ext.alloc' ?_ _) | (with_reducible refine Ext.drew' ?_) | (with_reducible refine Ext.drewN' ?_ _) | (with_reducible refine Ext.set' ?_ ?_ _; rotate_left; (focus (first | omega | (simp; done) | (simp; omega)))) | (with_reducible refine Ext.then (b := ?_) ?_ ?_; rotate_left; rotate_left; (with_reducible assumption))))⟩
              case measure => simp [intOf]; omega
        · have hfin := Lib.hid (hA.out.fin hlt)
          have hds : ∀ q : Nat, Hid (depK l n (q + 1) = if (q : Int) ∈ all then depK l n q ++ [(q : Int)] else depK l n q) := fun q => by show _ = _; rw [hfin.out]; exact depK_s l n q
          clear hA hr hfin
          go_wp2_with fail
          go_loopw [11, 12] (fun r j wq => ∃ q : Nat, q ≤ n ∧ j = .int .i64 q ∧ OwnI wr.heap.size wq r (depK l n q) ∧ Ext wr wq) (fun _ j _ => n - (intOf j).toNat)
          case atStart => exact ⟨0, Nat.zero_le _, rfl, OwnS.nil _ _ _ _ _ _, (by repeat (first | (with_reducible assumption) | (with_reducible exact Ext.rfl' _) | (with_reducible exact Ext.new _ _) | (with_reducible refine Ext.alloc' ?_ _) | (with_reducible refine Ext.drew' ?_) | (with_reducible refine Ext.drewN' ?_ _) | (with_reducible refine Ext.set' ?_ ?_ _; rotate_left; (focus (first | omega | (simp; done) | (simp; omega)))) | (with_reducible refine Ext.then (b := ?_) ?_ ?_; rotate_left; rotate_left; (with_reducible assumption))))⟩
          case round =>
            clear hl
            obtain ⟨q, hq, rfl, hlq, hbq⟩ := hrel
            by_cases hlt2 : q < n
            · obtain ⟨vb, vd, rfl, hbl2⟩ := hlq.form
              have hd1 := hds q
              have hlen2 := Lib.hid (depK_len l n q)
              have hrq := hrep.mono mono_IntR hbq.ple
              generalize depK l n q = cur at *
              go_wp2_with fail
              refine RetP_at (has_i all q _ _ hrq) ?_
              by_cases hmem : (q : Int) ∈ all
              · have hn1 : Hid (depK l n (q + 1) = cur ++ [(q : Int)]) := by show _ = _; rw [hd1.out, if_pos hmem]
                rw [decide_eq_true hmem]
                clear hd1 hmem hrq
                go_wp2_with (at_builtin; refine wpList_append_S (E := IntR) (H := noH) (base := _) (ys := [(q : Int)]) rfl _ _ 22 3 rfl (.int .i64 0) 8 Try.underlying22 infoInt rfl rfl rfl (hlq.keep (by repeat (first | (with_reducible assumption) | (with_reducible exact Ext.rfl' _) | (with_reducible exact Ext.new _ _) | (with_reducible refine Ext.alloc' ?_ _) | (with_reducible refine Ext.drew' ?_) | (with_reducible refine Ext.drewN' ?_ _) | (with_reducible refine Ext.set' ?_ ?_ _; rotate_left; (focus (first | omega | (simp; done) | (simp; omega)))) | (with_reducible refine Ext.then (b := ?_) ?_ ?_; rotate_left; rotate_left; (with_reducible assumption))))) ?e1 (noH_le _) ?e2 one_IntR ?e3 ?e4 ?e5)
                case e1 => exact Src.lit1 ⟨rfl, by unfold I64; omega⟩ rfl (fun j => by simp [go_sem])
                case e2 => simp; have := hbq.size; omega
                case e3 => simp; have := hlen2.out; omega
                case e4 => simp; have := hlen2.out; omega
                case e5 =>
                  intro l' w3 hl3 hg3 hn3
                  have hne := hlq.lt
                  have hb3 := Ext.grown (hbq.alloc' _) hg3 (fun k e => by have := hne _ e; omega)
                  rw [← hn1.out] at hl3
                  clear hg3 hn3 hlq hn1
                  go_wp2_with fail
                  go_roundw
                  case rel => exact ⟨q + 1, by omega, by go_num, hl3, hb3⟩
                  case measure => simp [intOf]; omega
              · have hn1 : Hid (depK l n (q + 1) = cur) := by show _ = _; rw [hd1.out, if_neg hmem]
                rw [decide_eq_false hmem]
                clear hd1 hmem hrq
                go_wp2_with fail
                go_roundw
                case rel => exact ⟨q + 1, by omega, by go_num, by rw [hn1.out]; exact hlq, (by repeat (first | (with_reducible assumption) | (with_reducible exact Ext.rfl' _) | (with_reducible exact Ext.new _ _) | (with_reducible refine Ext.alloc' ?_ _) | (with_reducible refine Ext.drew' ?_) | (with_reducible refine Ext.drewN' ?_ _) | (with_reducible refine Ext.set' ?_ ?_ _; rotate_left; (focus (first | omega | (simp; done) | (simp; omega)))) | (with_reducible refine Ext.then (b := ?_) ?_ ?_; rotate_left; rotate_left; (with_reducible assumption))))⟩
                case measure => simp [intOf]; omega
            · have hn1 : Hid (depK l n q = depS l n) := by
                have : q = n := by omega
                subst this; exact rfl
              rw [hn1.out] at hlq
              have hxx : Ext w wr := (by repeat (first | (with_reducible assumption) | (with_reducible exact Ext.rfl' _) | (with_reducible exact Ext.new _ _) | (with_reducible refine Ext.alloc' ?_ _) | (with_reducible refine Ext.drew' ?_) | (with_reducible refine Ext.drewN' ?_ _) | (with_reducible refine Ext.set' ?_ ?_ _; rotate_left; (focus (first | omega | (simp; done) | (simp; omega)))) | (with_reducible refine Ext.then (b := ?_) ?_ ?_; rotate_left; rotate_left; (with_reducible assumption))))
              clear hn1 hrep
              go_wp2_with fail
              go_ret2
              rw [hm.out]
              exact ⟨_, rfl, (by repeat (first | (with_reducible assumption) | (with_reducible exact Ext.rfl' _) | (with_reducible exact Ext.new _ _) | (with_reducible refine Ext.alloc' ?_ _) | (with_reducible refine Ext.drew' ?_) | (with_reducible refine Ext.drewN' ?_ _) | (with_reducible refine Ext.set' ?_ ?_ _; rotate_left; (focus (first | omega | (simp; done) | (simp; omega)))) | (with_reducible refine Ext.then (b := ?_) ?_ ?_; rotate_left; rotate_left; (with_reducible assumption)))), hlq.rep mono_IntR (noH_le _)⟩
  · have hn : Hid (depE l i = ([], checkC l i)) := by show _ = _; unfold depE; rw [if_pos he]
    generalize checkC l i = e at *
    have b3 : (e == 0) = false := by simpa using he
    have b4 : (e != 0) = true := by simpa using he
    clear hr hr'
    go_wp2_with fail
    go_ret2
    rw [hn.out]
    exact ⟨_, rfl, (by repeat (first | (with_reducible assumption) | (with_reducible exact Ext.rfl' _) | (with_reducible exact Ext.new _ _) | (with_reducible refine Ext.alloc' ?_ _) | (with_reducible refine Ext.drew' ?_) | (with_reducible refine Ext.drewN' ?_ _) | (with_reducible refine Ext.set' ?_ ?_ _; rotate_left; (focus (first | omega | (simp; done) | (simp; omega)))) | (with_reducible refine Ext.then (b := ?_) ?_ ?_; rotate_left; rotate_left; (with_reducible assumption)))), SliceRep.nil _ _ _⟩
end Go.Proofs.Ytdpdpjimmfajgaa
