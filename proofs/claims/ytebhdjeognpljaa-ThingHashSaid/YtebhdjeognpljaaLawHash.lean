/- ThingHash: the walk of the law. -/
import Derived.Test.YtebhdjeognpljaaHashLaw
import Derived.Test.YtebhdjeognpljaaGen
import Derived.Test.YtebhdjeognpljaaCalmI
import Derived.Test.YtebhdjeognpljaaLives
namespace Go.Proofs.Ytebhdjeognpljaa
open Go.RowKit
set_option linter.unusedSimpArgs false
set_option linter.unusedVariables false
theorem bytes_c (s : ByteArray) (vb : Value) (zs : List UInt8) (w : World) (hb : BytesR (ph w) vb zs) (hs : s.data.toList.length ≤ 1000000) (hz : zs.length ≤ 100000) :
    Calls Try.prog 23 #[.string s, vb] w (RetV w (.int .u64 (bytesI s zs))) := callsIn_wide.1 (bytes_in s vb zs w hb hs hz)
theorem short_c (s : ByteArray) (w : World) : Calls Try.prog 20 #[.string s, .int .i64 20] w fun e w' => (∃ s' : ByteArray, e = .returned (.string s') ∧ s'.data.toList.length ≤ 20) ∧ Ext w w' := by
  go_enter Try.func20, Try.ntmps20
  go_wp2_with fail
  · go_ret
    refine ⟨⟨_, rfl, ?_⟩, (by repeat (first | (with_reducible assumption) | (with_reducible exact Ext.rfl' _) | (with_reducible exact Ext.new _ _) | (with_reducible refine Ext.alloc' ?_ _) | (with_reducible refine Ext.drew' ?_) | (with_reducible refine Ext.drewN' ?_ _) | (with_reducible refine Ext.set' ?_ ?_ _; rotate_left; (focus (first | omega | (simp; done) | (simp; omega)))) | (with_reducible refine Ext.then (b := ?_) ?_ ?_; rotate_left; rotate_left; (with_reducible assumption))))⟩
    simp [ByteArray.extract, ByteArray.copySlice]
    omega
  · go_ret
    refine ⟨⟨_, rfl, ?_⟩, (by repeat (first | (with_reducible assumption) | (with_reducible exact Ext.rfl' _) | (with_reducible exact Ext.new _ _) | (with_reducible refine Ext.alloc' ?_ _) | (with_reducible refine Ext.drew' ?_) | (with_reducible refine Ext.drewN' ?_ _) | (with_reducible refine Ext.set' ?_ ?_ _; rotate_left; (focus (first | omega | (simp; done) | (simp; omega)))) | (with_reducible refine Ext.then (b := ?_) ?_ ?_; rotate_left; rotate_left; (with_reducible assumption))))⟩
    simp
    omega
theorem ofCls_rep {w : World} {b : Nat} {a : Int} (hO : Own w b #[.int .i64 a] 3) (ha : I64 a) : ThingR (ph w) [.slice (some ⟨b, 0, none⟩) 1 1, .slice none 0 0, .slice none 0 0] (ofCls a) := by
  rw [thingR_iff]
  exact ⟨_, _, _, rfl, slice_of_own hO ⟨[_], [], rfl, rfl, ⟨rfl, ha⟩, rfl⟩ rfl (by simp [maxLen]), SliceRep.nil _ _ _, SliceRep.nil _ _ _⟩
set_option maxRecDepth 100000 in
set_option maxHeartbeats 4000000 in
theorem hashLaw_c (s : ByteArray) (a b : Int) (w : World) (ha : I64 a) (hb : I64 b) :
    Calls Try.prog 5 #[.int .i64 a, .int .i64 b, .string s] w (RetV w (.bool true)) := by
  go_enter Try.func5, Try.ntmps5
  go_wp2_with fail
  refine (short_c s _).mono ?_
  rintro e w1 ⟨⟨s', rfl, hs'⟩, hb1⟩
  go_wp2_with fail
  refine (around_c a 64 _ ha (by omega) (by omega)).mono ?_
  rintro e w2 ⟨rfl, hb2⟩
  go_wp2_with fail
  refine (around_c b 64 _ hb (by omega) (by omega)).mono ?_
  rintro e w3 ⟨rfl, hb3⟩
  go_wp2_with fail
  obtain ⟨x, hx, hxl⟩ : ∃ x : Nat, aroundV a 64 = x ∧ x < 64 := by
    have := aroundV_range ha (show (0 : Int) < 64 by omega)
    exact ⟨(aroundV a 64).toNat, by omega, by omega⟩
  obtain ⟨y, hy, hyl⟩ : ∃ y : Nat, aroundV b 64 = y ∧ y < 64 := by
    have := aroundV_range hb (show (0 : Int) < 64 by omega)
    exact ⟨(aroundV b 64).toNat, by omega, by omega⟩
  rw [hx, hy]
  have hen : ∀ z : Nat, z < 64 → encOf (ofCls z) = b4 z := fun z hz => by unfold encOf; rw [if_pos (ofCls_valid _ (by omega) (by omega)), ofCls_enc z hz]
  have hva : ∀ z : Nat, z < 64 → validV (ofCls z) = 0 := fun z hz => ofCls_valid _ (by omega) (by omega)
  have hbk : ∀ z : Nat, (ofCls z).bulk ≤ 1000000 := fun z => by simp [Thing.bulk, bulks, ofCls]
  have hi : ∀ z : Nat, z < 64 → I64 z := fun z hz => by unfold I64; omega
  replace hen := Lib.hid hen
  replace hva := Lib.hid hva
  replace hbk := Lib.hid hbk
  replace hi := Lib.hid hi
  clear hx hy
  refine (encode_c (ofCls x) _ _ (ofCls_rep (by repeat (first | (with_reducible assumption) | (with_reducible exact Own.new _ _ _) | (with_reducible refine Own.new' _ _ _ ?_; (focus (simp; done))) | (with_reducible refine Own.alloc ?_ _) | (with_reducible refine Own.drew ?_) | (with_reducible refine Own.drewN ?_ _) | (with_reducible refine Own.keep (w := ?_) ?_ ?_; rotate_left; (with_reducible assumption); (exact (by repeat (first | (with_reducible assumption) | (with_reducible exact Ext.rfl' _) | (with_reducible exact Ext.new _ _) | (with_reducible refine Ext.alloc' ?_ _) | (with_reducible refine Ext.drew' ?_) | (with_reducible refine Ext.drewN' ?_ _) | (with_reducible refine Ext.set' ?_ ?_ _; rotate_left; (focus (first | omega | (simp; done) | (simp; omega)))) | (with_reducible refine Ext.then (b := ?_) ?_ ?_; rotate_left; rotate_left; (with_reducible assumption)))))) | (with_reducible refine Own.keep (w := ?_) ?_ ?_; rotate_left; rotate_left; (with_reducible assumption)))) (hi.out x hxl)) (hbk.out x)).mono ?_
  rintro e w4 ⟨v1, rfl, hF1, hb4⟩
  have hB1 := hF1.rep mono_ByteR (noH_le _)
  rw [hen.out x hxl] at hB1
  clear hF1
  rw [hva.out x hxl]
  obtain ⟨g1, c1, rfl, -, hB1⟩ := hB1.form
  go_wp2_with fail
  refine (encode_c (ofCls y) _ _ (ofCls_rep (by repeat (first | (with_reducible assumption) | (with_reducible exact Own.new _ _ _) | (with_reducible refine Own.new' _ _ _ ?_; (focus (simp; done))) | (with_reducible refine Own.alloc ?_ _) | (with_reducible refine Own.drew ?_) | (with_reducible refine Own.drewN ?_ _) | (with_reducible refine Own.keep (w := ?_) ?_ ?_; rotate_left; (with_reducible assumption); (exact (by repeat (first | (with_reducible assumption) | (with_reducible exact Ext.rfl' _) | (with_reducible exact Ext.new _ _) | (with_reducible refine Ext.alloc' ?_ _) | (with_reducible refine Ext.drew' ?_) | (with_reducible refine Ext.drewN' ?_ _) | (with_reducible refine Ext.set' ?_ ?_ _; rotate_left; (focus (first | omega | (simp; done) | (simp; omega)))) | (with_reducible refine Ext.then (b := ?_) ?_ ?_; rotate_left; rotate_left; (with_reducible assumption)))))) | (with_reducible refine Own.keep (w := ?_) ?_ ?_; rotate_left; rotate_left; (with_reducible assumption)))) (hi.out y hyl)) (hbk.out y)).mono ?_
  rintro e w5 ⟨v2, rfl, hF2, hb5⟩
  have hB2 := hF2.rep mono_ByteR (noH_le _)
  rw [hen.out y hyl] at hB2
  clear hF2
  rw [hva.out y hyl]
  obtain ⟨g2, c2, rfl, -, hB2⟩ := hB2.form
  replace hB1 := hB1.mono mono_ByteR (Ext.ple (w' := w5) (by repeat (first | (with_reducible assumption) | (with_reducible exact Ext.rfl' _) | (with_reducible exact Ext.new _ _) | (with_reducible refine Ext.alloc' ?_ _) | (with_reducible refine Ext.drew' ?_) | (with_reducible refine Ext.drewN' ?_ _) | (with_reducible refine Ext.set' ?_ ?_ _; rotate_left; (focus (first | omega | (simp; done) | (simp; omega)))) | (with_reducible refine Ext.then (b := ?_) ?_ ?_; rotate_left; rotate_left; (with_reducible assumption)))))
  have hb : Ext w w5 := (by repeat (first | (with_reducible assumption) | (with_reducible exact Ext.rfl' _) | (with_reducible exact Ext.new _ _) | (with_reducible refine Ext.alloc' ?_ _) | (with_reducible refine Ext.drew' ?_) | (with_reducible refine Ext.drewN' ?_ _) | (with_reducible refine Ext.set' ?_ ?_ _; rotate_left; (focus (first | omega | (simp; done) | (simp; omega)))) | (with_reducible refine Ext.then (b := ?_) ?_ ?_; rotate_left; rotate_left; (with_reducible assumption))))
  clear hb1 hb2 hb3 hb4 hb5
  have hl1 : (b4 x).length = 4 := rfl
  have hl2 : (b4 y).length = 4 := rfl
  rw [hl1] at hB1
  rw [hl2] at hB2
  rw [hl1, hl2]
  have hinj := Lib.hid (bytesI_inj s' x y hxl hyl)
  go_wp2_with fail
  refine (bytes_c s' _ (b4 x) _ hB1 (by omega) (by omega)).mono ?_
  rintro e w6 ⟨rfl, hb6⟩
  go_wp2_with fail
  refine (bytes_c s' _ (b4 y) _ (hB2.mono mono_ByteR (Ext.ple hb6)) (by omega) (by omega)).mono ?_
  rintro e w7 ⟨rfl, hb7⟩
  generalize bytesI s' (b4 x) = p at *
  generalize bytesI s' (b4 y) = q at *
  by_cases hxy : x = y
  · have hp := hinj.out.2 hxy
    subst hp hxy
    clear hinj
    go_wp2_with fail
    refine (lives_c _).mono ?_
    rintro e w8 ⟨rfl, hb8⟩
    go_wp2_with fail
    go_ret
    exact ⟨rfl, (by repeat (first | (with_reducible assumption) | (with_reducible exact Ext.rfl' _) | (with_reducible exact Ext.new _ _) | (with_reducible refine Ext.alloc' ?_ _) | (with_reducible refine Ext.drew' ?_) | (with_reducible refine Ext.drewN' ?_ _) | (with_reducible refine Ext.set' ?_ ?_ _; rotate_left; (focus (first | omega | (simp; done) | (simp; omega)))) | (with_reducible refine Ext.then (b := ?_) ?_ ?_; rotate_left; rotate_left; (with_reducible assumption))))⟩
  · have hp : (p == q) = false := by
      have h1 := hinj.out.1
      exact beq_eq_false_iff_ne.2 fun h => hxy (h1 h)
    have hxy2 : ((x : Int) == (y : Int)) = false := beq_eq_false_iff_ne.2 fun h => hxy (by omega)
    clear hinj
    go_wp2_with fail
    refine (lives_c _).mono ?_
    rintro e w8 ⟨rfl, hb8⟩
    go_wp2_with fail
    go_ret
    exact ⟨rfl, (by repeat (first | (with_reducible assumption) | (with_reducible exact Ext.rfl' _) | (with_reducible exact Ext.new _ _) | (with_reducible refine Ext.alloc' ?_ _) | (with_reducible refine Ext.drew' ?_) | (with_reducible refine Ext.drewN' ?_ _) | (with_reducible refine Ext.set' ?_ ?_ _; rotate_left; (focus (first | omega | (simp; done) | (simp; omega)))) | (with_reducible refine Ext.then (b := ?_) ?_ ?_; rotate_left; rotate_left; (with_reducible assumption))))⟩
theorem hashLaw_at (a b : Int) (s : ByteArray) (w : World) (ha : I64 a) (hb : I64 b) (hs : s.size ≤ maxLen) :
    Calls Try.prog 5 #[.int .i64 a, .int .i64 b, .string s] w (RetV w (.bool true)) := hashLaw_c s a b w ha hb
end Go.Proofs.Ytebhdjeognpljaa
