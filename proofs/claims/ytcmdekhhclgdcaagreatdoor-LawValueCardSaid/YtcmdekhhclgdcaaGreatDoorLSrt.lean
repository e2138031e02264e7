/- sorting acts by the order of rulings. -/
import Derived.Test.YtcmdekhhclgdcaaGreatDoorSortA
import Derived.Test.YtcmdekhhclgdcaaGreatDoorLCl2
namespace Go.Proofs.YtcmdekhhclgdcaaGreatDoor
open Go.RowKit Go.Shelf Go.Lib Go.Sort
set_option linter.unusedSimpArgs false
set_option linter.unusedVariables false
set_option linter.unusedSectionVars false
instance : Inhabited Ac := ⟨⟨0, 0, 0, 0, 0, 0, 0, 0, 0⟩⟩
/-- a ruling comes ahead of another one -/
def rlt (x y : Ac) : Prop := x.day < y.day ∨ x.day = y.day ∧ (y.known < x.known ∨ y.known = x.known ∧ y.amount < x.amount)
theorem ltA (x y : Ac) : ltOf cmpA x y = @decide (rlt x y) (by unfold rlt; exact inferInstance) := by
  have h : cmpA x y < 0 ↔ rlt x y := by
    unfold cmpA rlt orL Lib.compareInt
    simp only [orL]
    by_cases h1 : x.day < y.day
    · simp [h1]
    · by_cases h2 : y.day < x.day
      · have : ¬ x.day = y.day := by omega
        simp [h1, h2, this]
      · have e1 : x.day = y.day := by omega
        by_cases h3 : y.known < x.known
        · simp [e1, h3]
        · by_cases h4 : x.known < y.known
          · have : ¬ y.known = x.known := by omega
            simp [e1, h3, h4, this]
          · have e2 : y.known = x.known := by omega
            by_cases h5 : y.amount < x.amount
            · simp [e1, e2, h5]
            · by_cases h6 : x.amount < y.amount
              · simp [e1, e2, h5, h6]
              · simp [e1, e2, h5, h6]
  unfold ltOf
  by_cases hr : rlt x y
  · simp [h.2 hr, hr]
  · have : ¬ cmpA x y < 0 := fun hc => hr (h.1 hc)
    simp [this, hr]
theorem lt_t {x y : Ac} : ltOf cmpA x y = true ↔ rlt x y := by rw [ltA]; simp
theorem lt_f {x y : Ac} : ltOf cmpA x y = false ↔ ¬ rlt x y := by rw [ltA]; simp
theorem swoA : SWO (ltOf cmpA) where
  irrefl x := by rw [lt_f]; unfold rlt; omega
  trans x y z h1 h2 := by
    rw [lt_t] at *
    unfold rlt at *
    omega
  ntrans x y z h1 h2 := by
    rw [lt_f] at *
    unfold rlt at *
    omega
theorem actR_enc {h : PH} (cs : List Value) (x : Ac) (hr : ActR h cs x) : cs = actC x := hr.1
def SortAP (H : PH) (w : World) (v : Value) (xs : List Ac) (e : Ending) (w' : World) : Prop :=
  e = .returned (.tuple #[]) ∧ ∃ xs', xs'.Perm xs ∧ xs'.Pairwise (fun x y : Ac => ¬ rlt y x) ∧ OwnC H w' ActR 19 67 v xs' ∧ w.grownBy w' v.ownBlock
set_option maxHeartbeats 1000000 in
theorem sortAct_c (H : PH) (v : Value) (xs : List Ac) (w : World) (hO : OwnC H w ActR 19 67 v xs) (hn : xs.length ≤ 1000000) :
    Calls Tryz.prog 39 #[v, .func (.func 40) #[] #[]] w (SortAP H w v xs) := by
  rcases hO with ⟨rfl, rfl⟩ | ⟨g, cap, cur, rfl, hg, h1, h2, h3, h4⟩
  · have hS := AnyF.slices_SortFunc_none (P := Tryz.prog) (ρ := sortAct_ren) { sortAct with } none 0 (.func (.func 40) #[] #[]) w
    change Calls Tryz.prog 39 _ _ _ at hS
    refine hS.mono ?_
    rintro e w' ⟨rfl, rfl⟩
    exact ⟨rfl, [], List.Perm.refl _, List.Pairwise.nil, .inl ⟨rfl, rfl⟩, ⟨rfl, rfl, rfl, Nat.le_refl _, fun _ _ _ => rfl⟩⟩
  · have hlt : g < w.heap.size := (Array.getElem?_eq_some_iff.1 hg).1
    have hmul : xs.length * 19 ≤ cap * 19 := Nat.mul_le_mul_right _ h1
    obtain ⟨r1, r2⟩ := cells_flat actC 19 actR_enc h4
    have hH : HoldsK actC 19 w g 0 xs.toArray := by
      intro j hj
      rw [size_flatK] at hj
      have hj' : j < xs.length * 19 := by simpa using hj
      rw [Nat.zero_add]
      refine ⟨?_, by simp [World.frozen?, hg]⟩
      rw [show w.cell? ⟨g, j, none⟩ = cur[j]? by simp [World.cell?, hg]]
      have e1 : cur[j]? = (cur.toList.take (xs.length * 19))[j]? := by rw [List.getElem?_take, if_pos hj']; simp
      rw [e1, r1, flatK_eq actC 19 (fun _ => rfl), id]
      have hl : j < (xs.flatMap actC).length := by rw [flat_len actC 19 (fun _ => rfl)]; exact hj'
      simp
      rw [List.getElem?_eq_getElem hl]; rfl
    have eg : ∀ args w, (callFunc 40 args).run Tryz.prog w = .ok (.enter 40 args) w := enters_of Tryz.func40 (by kernel_rfl) rfl
    have hcon := AnyQ.slices_SortFunc sortAct 19 Tryz.isAgg67 Tryz.sizeOf67 actC (fun _ => rfl) (fun x v hv => (Array.all_eq_true_iff_forall_mem.1 (one_act x)) v (by simpa using hv)) cmpA swoA 40 #[] g 0 cap xs.toArray w eg (fun _ _ _ _ x y => rul2_c x y _) hH hlt (by simp; omega)
    change Calls Tryz.prog 39 _ _ _ at hcon
    rw [show xs.toArray.size = xs.length by simp] at hcon
    refine hcon.mono ?_
    rintro e w' ⟨rfl, d', n, os, ⟨hp1, -, hp2⟩, hs, rfl⟩
    have hp : d'.toList.Perm xs := by
      have : d'.size = xs.length := by simpa using hp1
      have e2 : (xs.toArray.extract 0 xs.length).toList = xs := by simp
      have e3 : (d'.extract 0 xs.length).toList = d'.toList := by rw [← this]; simp
      rw [e2, e3] at hp2
      exact hp2
    have hd : d'.size = xs.length := by simpa using hp.length_eq
    obtain ⟨o1, o2⟩ := sorted_own (os := os) (n := n) actC 19 (fun _ => rfl) actR_enc hg h1 h2 h3 h4 hp
    refine ⟨rfl, d'.toList, hp, ?_, o1, o2⟩
    rw [List.pairwise_iff_getElem]
    intro i j hi hj hij
    have hj' : j < d'.size := by simpa using hj
    have := hs i j (Nat.zero_le _) hij (by omega)
    rw [ltA, getElem!_pos d' j hj', getElem!_pos d' i (by omega)] at this
    simp at this
    simpa using this
end Go.Proofs.YtcmdekhhclgdcaaGreatDoor
