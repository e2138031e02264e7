/- package span: Union, Meet, Not, Normal, Within. -/
import Derived.Test.YtmbkefgmiehdiaaSpC
namespace Go.Proofs.Ytmbkefgmiehdiaa
open Go.RowKit Go.Shelf
set_option linter.unusedSimpArgs false
set_option linter.unusedVariables false
theorem setF_all : ∀ {l : List Itv} {p : Option Itv}, setF p l = true → ∀ x ∈ l, goodB x = true
  | [], p, _ => fun x hx => by cases hx
  | y :: r, p, h => by
    rw [setF_cons, Bool.and_eq_true, Bool.and_eq_true] at h
    intro x hx
    rcases List.mem_cons.1 hx with rfl | hx
    · exact h.1.1
    · exact setF_all h.2 x hx
theorem setE_0 {l : List Itv} (h : setE l = 0) : (∀ x ∈ l, goodB x = true) ∧ l.length ≤ 32 := by
  unfold setE at h
  split at h
  · cases h
  · rename_i h1
    split at h
    · cases h
    · rename_i h2
      exact ⟨setF_all (by simpa using h1), by omega⟩
theorem setsE_2 (a b : List Itv) : setsE [a, b] = if setE a ≠ 0 then setE a else setE b := by
  unfold setsE
  by_cases h1 : setE a = 0
  · by_cases h2 : setE b = 0 <;> simp [h1, h2]
  · simp [h1]
theorem setsE_20 {a b : List Itv} (h : setsE [a, b] = 0) : setE a = 0 ∧ setE b = 0 := by
  rw [setsE_2] at h
  split at h
  · rename_i h1; exact absurd h h1
  · rename_i h1; exact ⟨by simpa using h1, h⟩
theorem setsR2 {W w : World} {b : Nat} {va vb : Value} {A B : List Itv} {T : TypeId} (hO : Own w b #[va, vb] T) (hx : Ext W w) (ha : ItvsR (ph W) va A) (hb : ItvsR (ph W) vb B) : SetsR (ph w) (.slice (some ⟨b, 0, none⟩) 2 2) [A, B] := by
  obtain ⟨p, q, rfl, -, ha⟩ := ha.form
  obtain ⟨p', q', rfl, -, hb⟩ := hb.form
  exact sliceArr hO ⟨[_], [_], rfl, rfl, ⟨p, q, rfl, ha.mono mono_ItvR hx.ple⟩, [_], [], rfl, rfl, ⟨p', q', rfl, hb.mono mono_ItvR hx.ple⟩, rfl⟩ rfl (by decide)
theorem setsR1 {W w : World} {b : Nat} {va : Value} {A : List Itv} {T : TypeId} (hO : Own w b #[va] T) (hx : Ext W w) (ha : ItvsR (ph W) va A) : SetsR (ph w) (.slice (some ⟨b, 0, none⟩) 1 1) [A] := by
  obtain ⟨p, q, rfl, -, ha⟩ := ha.form
  exact sliceArr hO ⟨[_], [], rfl, rfl, ⟨p, q, rfl, ha.mono mono_ItvR hx.ple⟩, rfl⟩ rfl (by decide)
def twoS (keep : List Bool → Bool) (a b : List Itv) : List Itv × Int := if setsE [a, b] ≠ 0 then ([], setsE [a, b]) else fewE (combF keep [a, b])
def notS (a : List Itv) : List Itv × Int := if setE a ≠ 0 then ([], setE a) else fewE (combF notK [a])
def normS (a : List Itv) : List Itv × Int := if a.any (fun x => !goodB x) then ([], 1) else fewE (combF fstK [a])
set_option maxRecDepth 100000 in
set_option maxHeartbeats 1000000 in
theorem union_c (va vb : Value) (a b : List Itv) (w : World) (ha : ItvsR (ph w) va a) (hb : ItvsR (ph w) vb b) : Calls Try.prog 17 #[va, vb] w (SetRes w (twoS orK a b)) := by
  have hv := fun w (h : SetsR (ph w) (.slice (some ⟨w.heap.size - 1, 0, none⟩) 2 2) [a, b]) => valids_c _ [a, b] w h
  have hcm := fun (v : Value) (w : World) (h : SetsR (ph w) v [a, b]) (h0 : setsE [a, b] = 0) => combine_c 46 orK [a, b] v w h (by
      intro x hx
      have := setsE_20 h0
      simp only [List.flatten_cons, List.flatten_nil, List.append_nil, List.mem_append] at hx
      rcases hx with hx | hx
      · exact (setE_0 this.1).1 x hx
      · exact (setE_0 this.2).1 x hx) (by
      have := setsE_20 h0
      have h1 := (setE_0 this.1).2
      have h2 := (setE_0 this.2).2
      simp; omega) (by simp) keepOr (enters_of Try.func46 (by kernel_rfl) rfl)
  have hs : Hid (twoS orK a b = if setsE [a, b] ≠ 0 then ([], setsE [a, b]) else fewE (combF orK [a, b])) := rfl
  have hS2 := fun W (hx : Ext w W) => setsR2 (Proofs.Ytmbkefgmiehdiaa.Own.new W #[va, vb] 23) (hx.then (Ext.new W (.cells #[va, vb] 23))) ha hb
  have hv2 := valids_c _ [a, b] _ (hS2 w (Ext.rfl' _))
  replace hS2 := Lib.hid hS2
  replace hcm := Lib.hid hcm
  obtain ⟨pa, ca, rfl, -, -⟩ := ha.form
  obtain ⟨pb, cb, rfl, -, -⟩ := hb.form
  generalize setsE [a, b] = e at *
  replace hv2 := Lib.hid hv2
  clear hv ha hb
  have hx1 := Ext.new w (.cells #[.slice pa a.length ca, .slice pb b.length cb] 23)
  go_enter Try.func17, Try.ntmps17
  go_wp2_with fail
  refine RetV_at hv2.out ?_
  intro w2 hx2
  replace hx1 := hx1.then hx2
  by_cases he : e = 0
  · subst he
    rw [if_neg (by simp)] at hs
    have hcm2 := hcm.out _ _ (hS2.out w2 hx1) rfl
    replace hcm2 := Lib.hid hcm2
    have hx3 := hx1.then (Ext.new w2 (.cells #[.slice pa a.length ca, .slice pb b.length cb] 23))
    clear hx2
    go_wp2_with fail
    refine hcm2.out.mono ?_
    rintro e w4 ⟨v, rfl, hx4, hr⟩
    go_wp2_with fail
    go_ret2
    rw [hs.out]
    exact ⟨v, rfl, hx3.then hx4, hr⟩
  · rw [if_pos he] at hs
    have heb : (e != 0) = true := by simpa using he
    go_wp2_with fail
    go_ret2
    rw [hs.out]
    exact ⟨_, rfl, hx1, SliceRep.nil _ _ _⟩
set_option maxRecDepth 100000 in
set_option maxHeartbeats 1000000 in
theorem meet_c (va vb : Value) (a b : List Itv) (w : World) (ha : ItvsR (ph w) va a) (hb : ItvsR (ph w) vb b) : Calls Try.prog 18 #[va, vb] w (SetRes w (twoS andK a b)) := by
  have hv := fun w (h : SetsR (ph w) (.slice (some ⟨w.heap.size - 1, 0, none⟩) 2 2) [a, b]) => valids_c _ [a, b] w h
  have hcm := fun (v : Value) (w : World) (h : SetsR (ph w) v [a, b]) (h0 : setsE [a, b] = 0) => combine_c 47 andK [a, b] v w h (by
      intro x hx
      have := setsE_20 h0
      simp only [List.flatten_cons, List.flatten_nil, List.append_nil, List.mem_append] at hx
      rcases hx with hx | hx
      · exact (setE_0 this.1).1 x hx
      · exact (setE_0 this.2).1 x hx) (by
      have := setsE_20 h0
      have h1 := (setE_0 this.1).2
      have h2 := (setE_0 this.2).2
      simp; omega) (by simp) keepAnd (enters_of Try.func47 (by kernel_rfl) rfl)
  have hs : Hid (twoS andK a b = if setsE [a, b] ≠ 0 then ([], setsE [a, b]) else fewE (combF andK [a, b])) := rfl
  have hS2 := fun W (hx : Ext w W) => setsR2 (Proofs.Ytmbkefgmiehdiaa.Own.new W #[va, vb] 23) (hx.then (Ext.new W (.cells #[va, vb] 23))) ha hb
  have hv2 := valids_c _ [a, b] _ (hS2 w (Ext.rfl' _))
  replace hS2 := Lib.hid hS2
  replace hcm := Lib.hid hcm
  obtain ⟨pa, ca, rfl, -, -⟩ := ha.form
  obtain ⟨pb, cb, rfl, -, -⟩ := hb.form
  generalize setsE [a, b] = e at *
  replace hv2 := Lib.hid hv2
  clear hv ha hb
  have hx1 := Ext.new w (.cells #[.slice pa a.length ca, .slice pb b.length cb] 23)
  go_enter Try.func18, Try.ntmps18
  go_wp2_with fail
  refine RetV_at hv2.out ?_
  intro w2 hx2
  replace hx1 := hx1.then hx2
  by_cases he : e = 0
  · subst he
    rw [if_neg (by simp)] at hs
    have hcm2 := hcm.out _ _ (hS2.out w2 hx1) rfl
    replace hcm2 := Lib.hid hcm2
    have hx3 := hx1.then (Ext.new w2 (.cells #[.slice pa a.length ca, .slice pb b.length cb] 23))
    clear hx2
    go_wp2_with fail
    refine hcm2.out.mono ?_
    rintro e w4 ⟨v, rfl, hx4, hr⟩
    go_wp2_with fail
    go_ret2
    rw [hs.out]
    exact ⟨v, rfl, hx3.then hx4, hr⟩
  · rw [if_pos he] at hs
    have heb : (e != 0) = true := by simpa using he
    go_wp2_with fail
    go_ret2
    rw [hs.out]
    exact ⟨_, rfl, hx1, SliceRep.nil _ _ _⟩
end Go.Proofs.Ytmbkefgmiehdiaa
