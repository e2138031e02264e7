/- the generator Range of priorartref07. -/
import Derived.Test.YtcbmgajaaechjaaGreatSpGen
import Derived.Test.YtcbmgajaaechjaaGreatForm
import Derived.Test.YtcbmgajaaechjaaGreatMemA
namespace Go.Proofs.YtcbmgajaaechjaaGreat
open Go.RowKit Go.Shelf
set_option linter.unusedSimpArgs false
set_option linter.unusedVariables false
/-- a small set comes back -/
def RngP (w : World) (e : Ending) (w' : World) : Prop := ∃ v l, e = .returned v ∧ Ext w w' ∧ ItvsR (up noH w w') v l ∧ setE l = 0 ∧ l.length ≤ 2
def loOk (p q : Int) : Prop := (q = 1 ∧ 0 ≤ p ∧ p ≤ 4) ∨ (q = 2 ∧ (p = -1 ∨ p = 1 ∨ p = 3 ∨ p = 5))
def hiR (p q d : Int) : Rat2 := ⟨p + q * d, q⟩
theorem loOk_cases {p q : Int} (h : loOk p q) : (p, q) ∈ [((0 : Int), (1 : Int)), (1, 1), (2, 1), (3, 1), (4, 1), (-1, 2), (1, 2), (3, 2), (5, 2)] := by
  rcases h with ⟨rfl, h1, h2⟩ | ⟨rfl, rfl | rfl | rfl | rfl⟩
  · have : p = 0 ∨ p = 1 ∨ p = 2 ∨ p = 3 ∨ p = 4 := by omega
    rcases this with rfl | rfl | rfl | rfl | rfl <;> simp
  · simp
  · simp
  · simp
  · simp
theorem rng_all : ∀ x ∈ [((0 : Int), (1 : Int)), (1, 1), (2, 1), (3, 1), (4, 1), (-1, 2), (1, 2), (3, 2), (5, 2)], ∀ d ∈ [(1 : Int), 2, 3], ∀ a ∈ [true, false], ∀ b ∈ [true, false],
    setE [⟨⟨0, 0⟩, hiR x.1 x.2 d, false, a, true, false⟩] = 0 ∧ setE [⟨⟨x.1, x.2⟩, ⟨0, 0⟩, a, false, false, true⟩] = 0 ∧ setE [⟨⟨x.1, x.2⟩, ⟨x.1, x.2⟩, false, false, false, false⟩] = 0 ∧
    setE [⟨⟨x.1, x.2⟩, hiR x.1 x.2 d, a, b, false, false⟩] = 0 ∧ setE [⟨⟨0, 0⟩, ⟨x.1, x.2⟩, false, true, true, false⟩, ⟨hiR x.1 x.2 d, ⟨0, 0⟩, a, false, false, true⟩] = 0 ∧
    setE [⟨⟨x.1, x.2⟩, ⟨x.1, x.2⟩, false, false, false, false⟩, ⟨hiR x.1 x.2 d, hiR x.1 x.2 d, false, false, false, false⟩] = 0 := by
  decide +kernel
theorem bmem (b : Bool) : b ∈ [true, false] := by cases b <;> simp
set_option maxRecDepth 100000 in
set_option maxHeartbeats 8000000 in
theorem range_c (n : Int) (w : World) (hn : I64 n) : Calls Tryz.prog 118 #[.int .i64 n] w (RngP w) := by
  obtain ⟨k0, k1⟩ := aroundV_range (n := n) (m := 1048576) hn (by omega)
  go_enter Tryz.func118, Tryz.ntmps118
  go_wp2_with fail
  refine RetV_at (around_c n 1048576 _ hn (by omega) (by omega)) ?_
  intro w1 hx1
  generalize aroundV n 1048576 = k at *
  have hdm : 1 + k / 40 % 3 ∈ [(1 : Int), 2, 3] := by
    have : k / 40 % 3 = 0 ∨ k / 40 % 3 = 1 ∨ k / 40 % 3 = 2 := by omega
    rcases this with h | h | h <;> rw [h] <;> simp
  have hkd : 0 ≤ k / 40 % 3 ∧ k / 40 % 3 ≤ 2 := by omega
  by_cases h16 : k % 16 = 3
  · have b0 : (k % 16 == 3) = true := by simpa using h16
    have hlm := loOk_cases (p := 2 * (k / 8 % 4) - 1) (q := 2) (by unfold loOk; omega)
    have hall := rng_all _ hlm _ hdm
    have hpb : -1 ≤ 2 * (k / 8 % 4) - 1 ∧ 2 * (k / 8 % 4) - 1 ≤ 5 := by omega
    have h8 : k % 8 = 0 ∨ k % 8 = 1 ∨ k % 8 = 2 ∨ k % 8 = 3 ∨ k % 8 = 4 ∨ k % 8 = 5 ∨ k % 8 = 6 ∨ k % 8 = 7 := by omega
    have h83 : k % 8 = 3 := by omega
    rcases h8 with h8 | h8 | h8 | h8 | h8 | h8 | h8 | h8
    · omega
    · omega
    · omega
    · have e0 : (k % 8 == 0) = false := by rw [h8]; rfl
      have e1 : (k % 8 == 1) = false := by rw [h8]; rfl
      have e2 : (k % 8 == 2) = false := by rw [h8]; rfl
      have e3 : (k % 8 == 3) = true := by rw [h8]; rfl
      have e4 : (k % 8 == 4) = false := by rw [h8]; rfl
      have e5 : (k % 8 == 5) = false := by rw [h8]; rfl
      have e6 : (k % 8 == 6) = false := by rw [h8]; rfl
      go_wp2_with fail
      have hI1 : Itv.I ⟨⟨2 * (k / 8 % 4) - 1, 2⟩, ⟨2 * (k / 8 % 4) - 1 + 2 * (1 + k / 40 % 3), 2⟩, (k / 64 % 2 == 0), (k / 128 % 2 == 0), false, false⟩ := by unfold Itv.I Rat2.I I64; dsimp only; omega
      have hM := (((Mem.start w noH (noH_le _)).ext (w' := (w1.alloc (.cells #[.int .i64 (2 * (k / 8 % 4) - 1), .int .i64 2] 100)).alloc (.cells #[.int .i64 (2 * (k / 8 % 4) - 1 + 2 * (1 + k / 40 % 3)), .int .i64 2] 100)) (by repeat (first | (with_reducible assumption) | (with_reducible exact Ext.rfl' _) | (with_reducible exact Ext.new _ _) | (with_reducible refine Ext.alloc' ?_ _) | (with_reducible refine Ext.drew' ?_) | (with_reducible refine Ext.drewN' ?_ _) | (with_reducible refine Ext.set' ?_ ?_ _; rotate_left; (focus (first | omega | (simp; done) | (simp; omega)))) | (with_reducible refine Ext.then (b := ?_) ?_ ?_; rotate_left; rotate_left; (with_reducible assumption))))).new' #[.int .i64 (2 * (k / 8 % 4) - 1), .int .i64 (2), .int .i64 (2 * (k / 8 % 4) - 1 + 2 * (1 + k / 40 % 3)), .int .i64 (2), .bool (k / 64 % 2 == 0), .bool (k / 128 % 2 == 0), .bool false, .bool false] 117 (n := w1.heap.size + 1 + 1) (by simp)).asOwn 0 rfl mono_ItvR (sz := 8) (xs := [⟨⟨2 * (k / 8 % 4) - 1, 2⟩, ⟨2 * (k / 8 % 4) - 1 + 2 * (1 + k / 40 % 3), 2⟩, (k / 64 % 2 == 0), (k / 128 % 2 == 0), false, false⟩]) (n := 1) (by simp) (by simp [maxLen]) rfl ⟨_, [], rfl, rfl, ⟨rfl, hI1⟩, rfl⟩
      go_ret
      exact ⟨_, _, rfl, (by repeat (first | (with_reducible assumption) | (with_reducible exact Ext.rfl' _) | (with_reducible exact Ext.new _ _) | (with_reducible refine Ext.alloc' ?_ _) | (with_reducible refine Ext.drew' ?_) | (with_reducible refine Ext.drewN' ?_ _) | (with_reducible refine Ext.set' ?_ ?_ _; rotate_left; (focus (first | omega | (simp; done) | (simp; omega)))) | (with_reducible refine Ext.then (b := ?_) ?_ ?_; rotate_left; rotate_left; (with_reducible assumption)))), hM.repUp 0 rfl, (hall _ (bmem (k / 64 % 2 == 0)) _ (bmem (k / 128 % 2 == 0))).2.2.2.1, by simp⟩
    · omega
    · omega
    · omega
    · omega
  · have b0 : (k % 16 == 3) = false := by simpa using h16
    have hlm := loOk_cases (p := k / 8 % 5) (q := 1) (by unfold loOk; omega)
    have hall := rng_all _ hlm _ hdm
    have hpb : -1 ≤ k / 8 % 5 ∧ k / 8 % 5 ≤ 5 := by omega
    have h8 : k % 8 = 0 ∨ k % 8 = 1 ∨ k % 8 = 2 ∨ k % 8 = 3 ∨ k % 8 = 4 ∨ k % 8 = 5 ∨ k % 8 = 6 ∨ k % 8 = 7 := by omega
    rcases h8 with h8 | h8 | h8 | h8 | h8 | h8 | h8 | h8
    · have e0 : (k % 8 == 0) = true := by rw [h8]; rfl
      have e1 : (k % 8 == 1) = false := by rw [h8]; rfl
      have e2 : (k % 8 == 2) = false := by rw [h8]; rfl
      have e3 : (k % 8 == 3) = false := by rw [h8]; rfl
      have e4 : (k % 8 == 4) = false := by rw [h8]; rfl
      have e5 : (k % 8 == 5) = false := by rw [h8]; rfl
      have e6 : (k % 8 == 6) = false := by rw [h8]; rfl
      go_wp2_with fail
      have hI1 : Itv.I ⟨⟨0, 0⟩, ⟨k / 8 % 5 + (1 + k / 40 % 3), 1⟩, false, (k / 64 % 2 == 0), true, false⟩ := by unfold Itv.I Rat2.I I64; dsimp only; omega
      have hM := (((Mem.start w noH (noH_le _)).ext (w' := (w1.alloc (.cells #[.int .i64 (k / 8 % 5), .int .i64 1] 100)).alloc (.cells #[.int .i64 (k / 8 % 5 + (1 + k / 40 % 3)), .int .i64 1] 100)) (by repeat (first | (with_reducible assumption) | (with_reducible exact Ext.rfl' _) | (with_reducible exact Ext.new _ _) | (with_reducible refine Ext.alloc' ?_ _) | (with_reducible refine Ext.drew' ?_) | (with_reducible refine Ext.drewN' ?_ _) | (with_reducible refine Ext.set' ?_ ?_ _; rotate_left; (focus (first | omega | (simp; done) | (simp; omega)))) | (with_reducible refine Ext.then (b := ?_) ?_ ?_; rotate_left; rotate_left; (with_reducible assumption))))).new' #[.int .i64 (0), .int .i64 (0), .int .i64 (k / 8 % 5 + (1 + k / 40 % 3)), .int .i64 (1), .bool false, .bool (k / 64 % 2 == 0), .bool true, .bool false] 117 (n := w1.heap.size + 1 + 1) (by simp)).asOwn 0 rfl mono_ItvR (sz := 8) (xs := [⟨⟨0, 0⟩, ⟨k / 8 % 5 + (1 + k / 40 % 3), 1⟩, false, (k / 64 % 2 == 0), true, false⟩]) (n := 1) (by simp) (by simp [maxLen]) rfl ⟨_, [], rfl, rfl, ⟨rfl, hI1⟩, rfl⟩
      go_ret
      exact ⟨_, _, rfl, (by repeat (first | (with_reducible assumption) | (with_reducible exact Ext.rfl' _) | (with_reducible exact Ext.new _ _) | (with_reducible refine Ext.alloc' ?_ _) | (with_reducible refine Ext.drew' ?_) | (with_reducible refine Ext.drewN' ?_ _) | (with_reducible refine Ext.set' ?_ ?_ _; rotate_left; (focus (first | omega | (simp; done) | (simp; omega)))) | (with_reducible refine Ext.then (b := ?_) ?_ ?_; rotate_left; rotate_left; (with_reducible assumption)))), hM.repUp 0 rfl, (by have h := (hall _ (bmem (k / 64 % 2 == 0)) _ (bmem true)).1; simpa [hiR] using h), by simp⟩
    · have e0 : (k % 8 == 0) = false := by rw [h8]; rfl
      have e1 : (k % 8 == 1) = true := by rw [h8]; rfl
      have e2 : (k % 8 == 2) = false := by rw [h8]; rfl
      have e3 : (k % 8 == 3) = false := by rw [h8]; rfl
      have e4 : (k % 8 == 4) = false := by rw [h8]; rfl
      have e5 : (k % 8 == 5) = false := by rw [h8]; rfl
      have e6 : (k % 8 == 6) = false := by rw [h8]; rfl
      go_wp2_with fail
      have hI1 : Itv.I ⟨⟨k / 8 % 5, 1⟩, ⟨0, 0⟩, (k / 64 % 2 == 0), false, false, true⟩ := by unfold Itv.I Rat2.I I64; dsimp only; omega
      have hM := (((Mem.start w noH (noH_le _)).ext (w' := (w1.alloc (.cells #[.int .i64 (k / 8 % 5), .int .i64 1] 100)).alloc (.cells #[.int .i64 (k / 8 % 5 + (1 + k / 40 % 3)), .int .i64 1] 100)) (by repeat (first | (with_reducible assumption) | (with_reducible exact Ext.rfl' _) | (with_reducible exact Ext.new _ _) | (with_reducible refine Ext.alloc' ?_ _) | (with_reducible refine Ext.drew' ?_) | (with_reducible refine Ext.drewN' ?_ _) | (with_reducible refine Ext.set' ?_ ?_ _; rotate_left; (focus (first | omega | (simp; done) | (simp; omega)))) | (with_reducible refine Ext.then (b := ?_) ?_ ?_; rotate_left; rotate_left; (with_reducible assumption))))).new' #[.int .i64 (k / 8 % 5), .int .i64 (1), .int .i64 (0), .int .i64 (0), .bool (k / 64 % 2 == 0), .bool false, .bool false, .bool true] 117 (n := w1.heap.size + 1 + 1) (by simp)).asOwn 0 rfl mono_ItvR (sz := 8) (xs := [⟨⟨k / 8 % 5, 1⟩, ⟨0, 0⟩, (k / 64 % 2 == 0), false, false, true⟩]) (n := 1) (by simp) (by simp [maxLen]) rfl ⟨_, [], rfl, rfl, ⟨rfl, hI1⟩, rfl⟩
      go_ret
      exact ⟨_, _, rfl, (by repeat (first | (with_reducible assumption) | (with_reducible exact Ext.rfl' _) | (with_reducible exact Ext.new _ _) | (with_reducible refine Ext.alloc' ?_ _) | (with_reducible refine Ext.drew' ?_) | (with_reducible refine Ext.drewN' ?_ _) | (with_reducible refine Ext.set' ?_ ?_ _; rotate_left; (focus (first | omega | (simp; done) | (simp; omega)))) | (with_reducible refine Ext.then (b := ?_) ?_ ?_; rotate_left; rotate_left; (with_reducible assumption)))), hM.repUp 0 rfl, (by have h := (hall _ (bmem (k / 64 % 2 == 0)) _ (bmem true)).2.1; simpa [hiR] using h), by simp⟩
    · have e0 : (k % 8 == 0) = false := by rw [h8]; rfl
      have e1 : (k % 8 == 1) = false := by rw [h8]; rfl
      have e2 : (k % 8 == 2) = true := by rw [h8]; rfl
      have e3 : (k % 8 == 3) = false := by rw [h8]; rfl
      have e4 : (k % 8 == 4) = false := by rw [h8]; rfl
      have e5 : (k % 8 == 5) = false := by rw [h8]; rfl
      have e6 : (k % 8 == 6) = false := by rw [h8]; rfl
      go_wp2_with fail
      have hI1 : Itv.I ⟨⟨k / 8 % 5, 1⟩, ⟨k / 8 % 5, 1⟩, false, false, false, false⟩ := by unfold Itv.I Rat2.I I64; dsimp only; omega
      have hM := (((Mem.start w noH (noH_le _)).ext (w' := (w1.alloc (.cells #[.int .i64 (k / 8 % 5), .int .i64 1] 100)).alloc (.cells #[.int .i64 (k / 8 % 5 + (1 + k / 40 % 3)), .int .i64 1] 100)) (by repeat (first | (with_reducible assumption) | (with_reducible exact Ext.rfl' _) | (with_reducible exact Ext.new _ _) | (with_reducible refine Ext.alloc' ?_ _) | (with_reducible refine Ext.drew' ?_) | (with_reducible refine Ext.drewN' ?_ _) | (with_reducible refine Ext.set' ?_ ?_ _; rotate_left; (focus (first | omega | (simp; done) | (simp; omega)))) | (with_reducible refine Ext.then (b := ?_) ?_ ?_; rotate_left; rotate_left; (with_reducible assumption))))).new' #[.int .i64 (k / 8 % 5), .int .i64 (1), .int .i64 (k / 8 % 5), .int .i64 (1), .bool false, .bool false, .bool false, .bool false] 117 (n := w1.heap.size + 1 + 1) (by simp)).asOwn 0 rfl mono_ItvR (sz := 8) (xs := [⟨⟨k / 8 % 5, 1⟩, ⟨k / 8 % 5, 1⟩, false, false, false, false⟩]) (n := 1) (by simp) (by simp [maxLen]) rfl ⟨_, [], rfl, rfl, ⟨rfl, hI1⟩, rfl⟩
      go_ret
      exact ⟨_, _, rfl, (by repeat (first | (with_reducible assumption) | (with_reducible exact Ext.rfl' _) | (with_reducible exact Ext.new _ _) | (with_reducible refine Ext.alloc' ?_ _) | (with_reducible refine Ext.drew' ?_) | (with_reducible refine Ext.drewN' ?_ _) | (with_reducible refine Ext.set' ?_ ?_ _; rotate_left; (focus (first | omega | (simp; done) | (simp; omega)))) | (with_reducible refine Ext.then (b := ?_) ?_ ?_; rotate_left; rotate_left; (with_reducible assumption)))), hM.repUp 0 rfl, (by have h := (hall _ (bmem true) _ (bmem true)).2.2.1; simpa [hiR] using h), by simp⟩
    · have e0 : (k % 8 == 0) = false := by rw [h8]; rfl
      have e1 : (k % 8 == 1) = false := by rw [h8]; rfl
      have e2 : (k % 8 == 2) = false := by rw [h8]; rfl
      have e3 : (k % 8 == 3) = true := by rw [h8]; rfl
      have e4 : (k % 8 == 4) = false := by rw [h8]; rfl
      have e5 : (k % 8 == 5) = false := by rw [h8]; rfl
      have e6 : (k % 8 == 6) = false := by rw [h8]; rfl
      go_wp2_with fail
      have hI1 : Itv.I ⟨⟨k / 8 % 5, 1⟩, ⟨k / 8 % 5 + (1 + k / 40 % 3), 1⟩, (k / 64 % 2 == 0), (k / 128 % 2 == 0), false, false⟩ := by unfold Itv.I Rat2.I I64; dsimp only; omega
      have hM := (((Mem.start w noH (noH_le _)).ext (w' := (w1.alloc (.cells #[.int .i64 (k / 8 % 5), .int .i64 1] 100)).alloc (.cells #[.int .i64 (k / 8 % 5 + (1 + k / 40 % 3)), .int .i64 1] 100)) (by repeat (first | (with_reducible assumption) | (with_reducible exact Ext.rfl' _) | (with_reducible exact Ext.new _ _) | (with_reducible refine Ext.alloc' ?_ _) | (with_reducible refine Ext.drew' ?_) | (with_reducible refine Ext.drewN' ?_ _) | (with_reducible refine Ext.set' ?_ ?_ _; rotate_left; (focus (first | omega | (simp; done) | (simp; omega)))) | (with_reducible refine Ext.then (b := ?_) ?_ ?_; rotate_left; rotate_left; (with_reducible assumption))))).new' #[.int .i64 (k / 8 % 5), .int .i64 (1), .int .i64 (k / 8 % 5 + (1 + k / 40 % 3)), .int .i64 (1), .bool (k / 64 % 2 == 0), .bool (k / 128 % 2 == 0), .bool false, .bool false] 117 (n := w1.heap.size + 1 + 1) (by simp)).asOwn 0 rfl mono_ItvR (sz := 8) (xs := [⟨⟨k / 8 % 5, 1⟩, ⟨k / 8 % 5 + (1 + k / 40 % 3), 1⟩, (k / 64 % 2 == 0), (k / 128 % 2 == 0), false, false⟩]) (n := 1) (by simp) (by simp [maxLen]) rfl ⟨_, [], rfl, rfl, ⟨rfl, hI1⟩, rfl⟩
      go_ret
      exact ⟨_, _, rfl, (by repeat (first | (with_reducible assumption) | (with_reducible exact Ext.rfl' _) | (with_reducible exact Ext.new _ _) | (with_reducible refine Ext.alloc' ?_ _) | (with_reducible refine Ext.drew' ?_) | (with_reducible refine Ext.drewN' ?_ _) | (with_reducible refine Ext.set' ?_ ?_ _; rotate_left; (focus (first | omega | (simp; done) | (simp; omega)))) | (with_reducible refine Ext.then (b := ?_) ?_ ?_; rotate_left; rotate_left; (with_reducible assumption)))), hM.repUp 0 rfl, (by have h := (hall _ (bmem (k / 64 % 2 == 0)) _ (bmem (k / 128 % 2 == 0))).2.2.2.1; simpa [hiR] using h), by simp⟩
    · have e0 : (k % 8 == 0) = false := by rw [h8]; rfl
      have e1 : (k % 8 == 1) = false := by rw [h8]; rfl
      have e2 : (k % 8 == 2) = false := by rw [h8]; rfl
      have e3 : (k % 8 == 3) = false := by rw [h8]; rfl
      have e4 : (k % 8 == 4) = true := by rw [h8]; rfl
      have e5 : (k % 8 == 5) = false := by rw [h8]; rfl
      have e6 : (k % 8 == 6) = false := by rw [h8]; rfl
      go_wp2_with fail
      have hI1 : Itv.I ⟨⟨k / 8 % 5, 1⟩, ⟨k / 8 % 5 + (1 + k / 40 % 3), 1⟩, (k / 64 % 2 == 0), (k / 128 % 2 == 0), false, false⟩ := by unfold Itv.I Rat2.I I64; dsimp only; omega
      have hM := (((Mem.start w noH (noH_le _)).ext (w' := (w1.alloc (.cells #[.int .i64 (k / 8 % 5), .int .i64 1] 100)).alloc (.cells #[.int .i64 (k / 8 % 5 + (1 + k / 40 % 3)), .int .i64 1] 100)) (by repeat (first | (with_reducible assumption) | (with_reducible exact Ext.rfl' _) | (with_reducible exact Ext.new _ _) | (with_reducible refine Ext.alloc' ?_ _) | (with_reducible refine Ext.drew' ?_) | (with_reducible refine Ext.drewN' ?_ _) | (with_reducible refine Ext.set' ?_ ?_ _; rotate_left; (focus (first | omega | (simp; done) | (simp; omega)))) | (with_reducible refine Ext.then (b := ?_) ?_ ?_; rotate_left; rotate_left; (with_reducible assumption))))).new' #[.int .i64 (k / 8 % 5), .int .i64 (1), .int .i64 (k / 8 % 5 + (1 + k / 40 % 3)), .int .i64 (1), .bool (k / 64 % 2 == 0), .bool (k / 128 % 2 == 0), .bool false, .bool false] 117 (n := w1.heap.size + 1 + 1) (by simp)).asOwn 0 rfl mono_ItvR (sz := 8) (xs := [⟨⟨k / 8 % 5, 1⟩, ⟨k / 8 % 5 + (1 + k / 40 % 3), 1⟩, (k / 64 % 2 == 0), (k / 128 % 2 == 0), false, false⟩]) (n := 1) (by simp) (by simp [maxLen]) rfl ⟨_, [], rfl, rfl, ⟨rfl, hI1⟩, rfl⟩
      go_ret
      exact ⟨_, _, rfl, (by repeat (first | (with_reducible assumption) | (with_reducible exact Ext.rfl' _) | (with_reducible exact Ext.new _ _) | (with_reducible refine Ext.alloc' ?_ _) | (with_reducible refine Ext.drew' ?_) | (with_reducible refine Ext.drewN' ?_ _) | (with_reducible refine Ext.set' ?_ ?_ _; rotate_left; (focus (first | omega | (simp; done) | (simp; omega)))) | (with_reducible refine Ext.then (b := ?_) ?_ ?_; rotate_left; rotate_left; (with_reducible assumption)))), hM.repUp 0 rfl, (by have h := (hall _ (bmem (k / 64 % 2 == 0)) _ (bmem (k / 128 % 2 == 0))).2.2.2.1; simpa [hiR] using h), by simp⟩
    · have e0 : (k % 8 == 0) = false := by rw [h8]; rfl
      have e1 : (k % 8 == 1) = false := by rw [h8]; rfl
      have e2 : (k % 8 == 2) = false := by rw [h8]; rfl
      have e3 : (k % 8 == 3) = false := by rw [h8]; rfl
      have e4 : (k % 8 == 4) = false := by rw [h8]; rfl
      have e5 : (k % 8 == 5) = true := by rw [h8]; rfl
      have e6 : (k % 8 == 6) = false := by rw [h8]; rfl
      go_wp2_with fail
      have hI1 : Itv.I ⟨⟨0, 0⟩, ⟨0, 0⟩, false, false, true, true⟩ := by unfold Itv.I Rat2.I I64; dsimp only; omega
      have hM := (((Mem.start w noH (noH_le _)).ext (w' := (w1.alloc (.cells #[.int .i64 (k / 8 % 5), .int .i64 1] 100)).alloc (.cells #[.int .i64 (k / 8 % 5 + (1 + k / 40 % 3)), .int .i64 1] 100)) (by repeat (first | (with_reducible assumption) | (with_reducible exact Ext.rfl' _) | (with_reducible exact Ext.new _ _) | (with_reducible refine Ext.alloc' ?_ _) | (with_reducible refine Ext.drew' ?_) | (with_reducible refine Ext.drewN' ?_ _) | (with_reducible refine Ext.set' ?_ ?_ _; rotate_left; (focus (first | omega | (simp; done) | (simp; omega)))) | (with_reducible refine Ext.then (b := ?_) ?_ ?_; rotate_left; rotate_left; (with_reducible assumption))))).new' #[.int .i64 (0), .int .i64 (0), .int .i64 (0), .int .i64 (0), .bool false, .bool false, .bool true, .bool true] 117 (n := w1.heap.size + 1 + 1) (by simp)).asOwn 0 rfl mono_ItvR (sz := 8) (xs := [⟨⟨0, 0⟩, ⟨0, 0⟩, false, false, true, true⟩]) (n := 1) (by simp) (by simp [maxLen]) rfl ⟨_, [], rfl, rfl, ⟨rfl, hI1⟩, rfl⟩
      go_ret
      exact ⟨_, _, rfl, (by repeat (first | (with_reducible assumption) | (with_reducible exact Ext.rfl' _) | (with_reducible exact Ext.new _ _) | (with_reducible refine Ext.alloc' ?_ _) | (with_reducible refine Ext.drew' ?_) | (with_reducible refine Ext.drewN' ?_ _) | (with_reducible refine Ext.set' ?_ ?_ _; rotate_left; (focus (first | omega | (simp; done) | (simp; omega)))) | (with_reducible refine Ext.then (b := ?_) ?_ ?_; rotate_left; rotate_left; (with_reducible assumption)))), hM.repUp 0 rfl, (by decide +kernel), by simp⟩
    · have e0 : (k % 8 == 0) = false := by rw [h8]; rfl
      have e1 : (k % 8 == 1) = false := by rw [h8]; rfl
      have e2 : (k % 8 == 2) = false := by rw [h8]; rfl
      have e3 : (k % 8 == 3) = false := by rw [h8]; rfl
      have e4 : (k % 8 == 4) = false := by rw [h8]; rfl
      have e5 : (k % 8 == 5) = false := by rw [h8]; rfl
      have e6 : (k % 8 == 6) = true := by rw [h8]; rfl
      go_wp2_with fail
      have hI1 : Itv.I ⟨⟨0, 0⟩, ⟨k / 8 % 5, 1⟩, false, true, true, false⟩ := by unfold Itv.I Rat2.I I64; dsimp only; omega
      have hI2 : Itv.I ⟨⟨k / 8 % 5 + (1 + k / 40 % 3), 1⟩, ⟨0, 0⟩, (k / 64 % 2 == 0), false, false, true⟩ := by unfold Itv.I Rat2.I I64; dsimp only; omega
      have hM := (((Mem.start w noH (noH_le _)).ext (w' := (w1.alloc (.cells #[.int .i64 (k / 8 % 5), .int .i64 1] 100)).alloc (.cells #[.int .i64 (k / 8 % 5 + (1 + k / 40 % 3)), .int .i64 1] 100)) (by repeat (first | (with_reducible assumption) | (with_reducible exact Ext.rfl' _) | (with_reducible exact Ext.new _ _) | (with_reducible refine Ext.alloc' ?_ _) | (with_reducible refine Ext.drew' ?_) | (with_reducible refine Ext.drewN' ?_ _) | (with_reducible refine Ext.set' ?_ ?_ _; rotate_left; (focus (first | omega | (simp; done) | (simp; omega)))) | (with_reducible refine Ext.then (b := ?_) ?_ ?_; rotate_left; rotate_left; (with_reducible assumption))))).new' #[.int .i64 (0), .int .i64 (0), .int .i64 (k / 8 % 5), .int .i64 (1), .bool false, .bool true, .bool true, .bool false, .int .i64 (k / 8 % 5 + (1 + k / 40 % 3)), .int .i64 (1), .int .i64 (0), .int .i64 (0), .bool (k / 64 % 2 == 0), .bool false, .bool false, .bool true] 117 (n := w1.heap.size + 1 + 1) (by simp)).asOwn 0 rfl mono_ItvR (sz := 8) (xs := [⟨⟨0, 0⟩, ⟨k / 8 % 5, 1⟩, false, true, true, false⟩, ⟨⟨k / 8 % 5 + (1 + k / 40 % 3), 1⟩, ⟨0, 0⟩, (k / 64 % 2 == 0), false, false, true⟩]) (n := 2) (by simp) (by simp [maxLen]) rfl ⟨_, _, rfl, rfl, ⟨rfl, hI1⟩, _, [], rfl, rfl, ⟨rfl, hI2⟩, rfl⟩
      go_ret
      exact ⟨_, _, rfl, (by repeat (first | (with_reducible assumption) | (with_reducible exact Ext.rfl' _) | (with_reducible exact Ext.new _ _) | (with_reducible refine Ext.alloc' ?_ _) | (with_reducible refine Ext.drew' ?_) | (with_reducible refine Ext.drewN' ?_ _) | (with_reducible refine Ext.set' ?_ ?_ _; rotate_left; (focus (first | omega | (simp; done) | (simp; omega)))) | (with_reducible refine Ext.then (b := ?_) ?_ ?_; rotate_left; rotate_left; (with_reducible assumption)))), hM.repUp 0 rfl, (by have h := (hall _ (bmem (k / 64 % 2 == 0)) _ (bmem true)).2.2.2.2.1; simpa [hiR] using h), by simp⟩
    · have e0 : (k % 8 == 0) = false := by rw [h8]; rfl
      have e1 : (k % 8 == 1) = false := by rw [h8]; rfl
      have e2 : (k % 8 == 2) = false := by rw [h8]; rfl
      have e3 : (k % 8 == 3) = false := by rw [h8]; rfl
      have e4 : (k % 8 == 4) = false := by rw [h8]; rfl
      have e5 : (k % 8 == 5) = false := by rw [h8]; rfl
      have e6 : (k % 8 == 6) = false := by rw [h8]; rfl
      by_cases h64 : k / 64 % 4 = 0
      · have b1 : (k / 64 % 4 == 0) = true := by simpa using h64
        go_wp2_with fail
        go_ret
        exact ⟨_, [], rfl, (by repeat (first | (with_reducible assumption) | (with_reducible exact Ext.rfl' _) | (with_reducible exact Ext.new _ _) | (with_reducible refine Ext.alloc' ?_ _) | (with_reducible refine Ext.drew' ?_) | (with_reducible refine Ext.drewN' ?_ _) | (with_reducible refine Ext.set' ?_ ?_ _; rotate_left; (focus (first | omega | (simp; done) | (simp; omega)))) | (with_reducible refine Ext.then (b := ?_) ?_ ?_; rotate_left; rotate_left; (with_reducible assumption)))), SliceRep.nil _ _ _, by rfl, by simp⟩
      · have b1 : (k / 64 % 4 == 0) = false := by simpa using h64
        go_wp2_with fail
        have hI1 : Itv.I ⟨⟨k / 8 % 5, 1⟩, ⟨k / 8 % 5, 1⟩, false, false, false, false⟩ := by unfold Itv.I Rat2.I I64; dsimp only; omega
        have hI2 : Itv.I ⟨⟨k / 8 % 5 + (1 + k / 40 % 3), 1⟩, ⟨k / 8 % 5 + (1 + k / 40 % 3), 1⟩, false, false, false, false⟩ := by unfold Itv.I Rat2.I I64; dsimp only; omega
        have hM := (((Mem.start w noH (noH_le _)).ext (w' := (w1.alloc (.cells #[.int .i64 (k / 8 % 5), .int .i64 1] 100)).alloc (.cells #[.int .i64 (k / 8 % 5 + (1 + k / 40 % 3)), .int .i64 1] 100)) (by repeat (first | (with_reducible assumption) | (with_reducible exact Ext.rfl' _) | (with_reducible exact Ext.new _ _) | (with_reducible refine Ext.alloc' ?_ _) | (with_reducible refine Ext.drew' ?_) | (with_reducible refine Ext.drewN' ?_ _) | (with_reducible refine Ext.set' ?_ ?_ _; rotate_left; (focus (first | omega | (simp; done) | (simp; omega)))) | (with_reducible refine Ext.then (b := ?_) ?_ ?_; rotate_left; rotate_left; (with_reducible assumption))))).new' #[.int .i64 (k / 8 % 5), .int .i64 (1), .int .i64 (k / 8 % 5), .int .i64 (1), .bool false, .bool false, .bool false, .bool false, .int .i64 (k / 8 % 5 + (1 + k / 40 % 3)), .int .i64 (1), .int .i64 (k / 8 % 5 + (1 + k / 40 % 3)), .int .i64 (1), .bool false, .bool false, .bool false, .bool false] 117 (n := w1.heap.size + 1 + 1) (by simp)).asOwn 0 rfl mono_ItvR (sz := 8) (xs := [⟨⟨k / 8 % 5, 1⟩, ⟨k / 8 % 5, 1⟩, false, false, false, false⟩, ⟨⟨k / 8 % 5 + (1 + k / 40 % 3), 1⟩, ⟨k / 8 % 5 + (1 + k / 40 % 3), 1⟩, false, false, false, false⟩]) (n := 2) (by simp) (by simp [maxLen]) rfl ⟨_, _, rfl, rfl, ⟨rfl, hI1⟩, _, [], rfl, rfl, ⟨rfl, hI2⟩, rfl⟩
        go_ret
        exact ⟨_, _, rfl, (by repeat (first | (with_reducible assumption) | (with_reducible exact Ext.rfl' _) | (with_reducible exact Ext.new _ _) | (with_reducible refine Ext.alloc' ?_ _) | (with_reducible refine Ext.drew' ?_) | (with_reducible refine Ext.drewN' ?_ _) | (with_reducible refine Ext.set' ?_ ?_ _; rotate_left; (focus (first | omega | (simp; done) | (simp; omega)))) | (with_reducible refine Ext.then (b := ?_) ?_ ?_; rotate_left; rotate_left; (with_reducible assumption)))), hM.repUp 0 rfl, (by have h := (hall _ (bmem true) _ (bmem true)).2.2.2.2.2; simpa [hiR] using h), by simp⟩
end Go.Proofs.YtcbmgajaaechjaaGreat
