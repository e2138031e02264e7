/- priorartlaw06.lives. -/
import Derived.Test.YtebhdjeognpljaaEncode
import Derived.Test.YtebhdjeognpljaaSizeDeep
import Derived.Test.YtebhdjeognpljaaSameBytes
namespace Go.Proofs.Ytebhdjeognpljaa
open Go.RowKit
set_option linter.unusedSimpArgs false
set_option linter.unusedVariables false
def lifeT : Thing := .mk [2, 5] [⟨1, ⟨3, 2⟩⟩] [.mk [0] [] []]
theorem lifeT_enc : enc lifeT = [2, 4, 10, 2, 2, 6, 4, 2, 1, 0, 0, 0] := by
  simp [lifeT, enc, encTs, encInts, encL, encI, encVs, encV, Lib.zigzag, Lib.uvarint_small]
theorem lifeT_valid : validV lifeT = 0 := by
  have h1 : Thing.size lifeT = 2 := rfl
  have h2 : Thing.deep lifeT = 2 := rfl
  rw [validV, h1, h2, if_pos (by omega)]
  refine ErrIf_t ?_
  rw [Thing.formed_iff]
  simp only [lifeT, Thing.vals, Thing.cls, Thing.parts, List.mem_singleton, forall_eq]
  have e0 : ∀ m, Inc [] m := fun m k h => by simp at h
  have e1 : ∀ x m : Int, 0 ≤ x → x < m → Inc [x] m := fun x m h1 h2 k h => by
    match k, h with
    | 0, _ => simp; omega
  refine ⟨by simp [GoodP, RatOk]; try decide, fun k h => ?_, e1 1 32 (by decide) (by decide), ?_⟩
  · match k, h with
    | 0, _ => simp
    | 1, _ => simp
  · rw [Thing.formed_iff]
    simp only [Thing.vals, Thing.cls, Thing.parts]
    exact ⟨by simp, e1 0 64 (by omega) (by omega), e0 _, by simp⟩
theorem slice_of_own {α : Type} {E : PH → List Value → α → Prop} {sz : Nat} {w : World} {b n : Nat} {cur : Array Value} {T : TypeId} {xs : List α} (hO : Own w b cur T) (hc : Cells (ph w) E sz cur.toList xs) (hn : n = xs.length) (hm : n ≤ maxLen) :
    SliceRep E sz (ph w) (.slice (some ⟨b, 0, none⟩) n n) xs := by
  subst hn
  refine ⟨_, _, rfl, Nat.le_refl _, hm, .inr ⟨b, 0, rfl, hc.row (fun _ _ h => h) fun j u hu => ?_⟩⟩
  rw [← cell_ph, Nat.zero_add, hO.facts.1]
  simpa using hu
theorem lifeT_rep {w : World} {b1 b2 b3 b4 : Nat} (h1 : Own w b1 #[.int .i64 2, .int .i64 5] 3) (h2 : Own w b2 #[.int .i64 1, .int .i64 3, .int .i64 2] 41) (h3 : Own w b3 #[.int .i64 0] 3)
    (h4 : Own w b4 #[.slice (some ⟨b3, 0, none⟩) 1 1, .slice none 0 0, .slice none 0 0] 29) :
    ThingR (ph w) [.slice (some ⟨b1, 0, none⟩) 2 2, .slice (some ⟨b2, 0, none⟩) 1 1, .slice (some ⟨b4, 0, none⟩) 1 1] lifeT := by
  have i : ∀ n : Int, 0 ≤ n → n ≤ 5 → I64 n := fun n h h' => by unfold I64; omega
  rw [thingR_iff]
  refine ⟨_, _, _, rfl, ?_, ?_, ?_⟩
  · exact slice_of_own h1 ⟨[_], [.int .i64 5], rfl, rfl, ⟨rfl, i _ (by omega) (by omega)⟩, [_], [], rfl, rfl, ⟨rfl, i _ (by omega) (by omega)⟩, rfl⟩ rfl (by simp [maxLen])
  · exact slice_of_own h2 ⟨[.int .i64 1, .int .i64 3, .int .i64 2], [], rfl, rfl, ⟨rfl, i 1 (by omega) (by omega), i 3 (by omega) (by omega), i 2 (by omega) (by omega)⟩, rfl⟩ rfl (by simp [maxLen])
  · refine slice_of_own h4 ⟨[.slice (some ⟨b3, 0, none⟩) 1 1, .slice none 0 0, .slice none 0 0], [], rfl, rfl, ?_, rfl⟩ rfl (by simp [maxLen])
    rw [thingR_iff]
    refine ⟨_, _, _, rfl, ?_, SliceRep.nil _ _ _, SliceRep.nil _ _ _⟩
    exact slice_of_own h3 ⟨[_], [], rfl, rfl, ⟨rfl, i _ (by omega) (by omega)⟩, rfl⟩ rfl (by simp [maxLen])
theorem cells_bytes {h : PH} : ∀ l : List UInt8, Cells h ByteR 1 (l.map fun b => Value.int .u8 b.toNat) l
  | [] => rfl
  | x :: xs => ⟨[.int .u8 x.toNat], _, rfl, rfl, rfl, cells_bytes xs⟩
set_option maxHeartbeats 1000000 in
theorem lives_c (w : World) : Calls Try.prog 17 #[] w (RetV w (.bool true)) := by
  have hen := Lib.hid lifeT_enc
  have hva := Lib.hid lifeT_valid
  have hbk : lifeT.bulk ≤ 1000000 := by simp [Thing.bulk, bulks, lifeT]
  go_enter Try.func17, Try.ntmps17
  go_wp2_with fail
  refine (encode_c lifeT _ _ (lifeT_rep (b3 := w.heap.size + 1 + 1) (by repeat (first | (with_reducible assumption) | (with_reducible exact Own.new _ _ _) | (with_reducible refine Own.new' _ _ _ ?_; (focus (simp; done))) | (with_reducible refine Own.alloc ?_ _) | (with_reducible refine Own.drew ?_) | (with_reducible refine Own.drewN ?_ _) | (with_reducible refine Own.keep (w := ?_) ?_ ?_; rotate_left; (with_reducible assumption); (exact (by repeat (first | (with_reducible assumption) | (with_reducible exact Ext.rfl' _) | (with_reducible exact Ext.new _ _) | (with_reducible refine Ext.alloc' ?_ _) | (with_reducible refine Ext.drew' ?_) | (with_reducible refine Ext.drewN' ?_ _) | (with_reducible refine Ext.set' ?_ ?_ _; rotate_left; (focus (first | omega | (simp; done) | (simp; omega)))) | (with_reducible refine Ext.then (b := ?_) ?_ ?_; rotate_left; rotate_left; (with_reducible assumption)))))) | (with_reducible refine Own.keep (w := ?_) ?_ ?_; rotate_left; rotate_left; (with_reducible assumption)))) (by repeat (first | (with_reducible assumption) | (with_reducible exact Own.new _ _ _) | (with_reducible refine Own.new' _ _ _ ?_; (focus (simp; done))) | (with_reducible refine Own.alloc ?_ _) | (with_reducible refine Own.drew ?_) | (with_reducible refine Own.drewN ?_ _) | (with_reducible refine Own.keep (w := ?_) ?_ ?_; rotate_left; (with_reducible assumption); (exact (by repeat (first | (with_reducible assumption) | (with_reducible exact Ext.rfl' _) | (with_reducible exact Ext.new _ _) | (with_reducible refine Ext.alloc' ?_ _) | (with_reducible refine Ext.drew' ?_) | (with_reducible refine Ext.drewN' ?_ _) | (with_reducible refine Ext.set' ?_ ?_ _; rotate_left; (focus (first | omega | (simp; done) | (simp; omega)))) | (with_reducible refine Ext.then (b := ?_) ?_ ?_; rotate_left; rotate_left; (with_reducible assumption)))))) | (with_reducible refine Own.keep (w := ?_) ?_ ?_; rotate_left; rotate_left; (with_reducible assumption)))) (by repeat (first | (with_reducible assumption) | (with_reducible exact Own.new _ _ _) | (with_reducible refine Own.new' _ _ _ ?_; (focus (simp; done))) | (with_reducible refine Own.alloc ?_ _) | (with_reducible refine Own.drew ?_) | (with_reducible refine Own.drewN ?_ _) | (with_reducible refine Own.keep (w := ?_) ?_ ?_; rotate_left; (with_reducible assumption); (exact (by repeat (first | (with_reducible assumption) | (with_reducible exact Ext.rfl' _) | (with_reducible exact Ext.new _ _) | (with_reducible refine Ext.alloc' ?_ _) | (with_reducible refine Ext.drew' ?_) | (with_reducible refine Ext.drewN' ?_ _) | (with_reducible refine Ext.set' ?_ ?_ _; rotate_left; (focus (first | omega | (simp; done) | (simp; omega)))) | (with_reducible refine Ext.then (b := ?_) ?_ ?_; rotate_left; rotate_left; (with_reducible assumption)))))) | (with_reducible refine Own.keep (w := ?_) ?_ ?_; rotate_left; rotate_left; (with_reducible assumption)))) (by repeat (first | (with_reducible assumption) | (with_reducible exact Own.new _ _ _) | (with_reducible refine Own.new' _ _ _ ?_; (focus (simp; done))) | (with_reducible refine Own.alloc ?_ _) | (with_reducible refine Own.drew ?_) | (with_reducible refine Own.drewN ?_ _) | (with_reducible refine Own.keep (w := ?_) ?_ ?_; rotate_left; (with_reducible assumption); (exact (by repeat (first | (with_reducible assumption) | (with_reducible exact Ext.rfl' _) | (with_reducible exact Ext.new _ _) | (with_reducible refine Ext.alloc' ?_ _) | (with_reducible refine Ext.drew' ?_) | (with_reducible refine Ext.drewN' ?_ _) | (with_reducible refine Ext.set' ?_ ?_ _; rotate_left; (focus (first | omega | (simp; done) | (simp; omega)))) | (with_reducible refine Ext.then (b := ?_) ?_ ?_; rotate_left; rotate_left; (with_reducible assumption)))))) | (with_reducible refine Own.keep (w := ?_) ?_ ?_; rotate_left; rotate_left; (with_reducible assumption))))) hbk).mono ?_
  rintro e w1 ⟨v, rfl, hF, hb1⟩
  have hR := mono_ThingR _ _ _ _ hb1.ple (lifeT_rep (b1 := w.heap.size) (b2 := w.heap.size + 1) (b3 := w.heap.size + 1 + 1) (b4 := w.heap.size + 1 + 1 + 1) (by repeat (first | (with_reducible assumption) | (with_reducible exact Own.new _ _ _) | (with_reducible refine Own.new' _ _ _ ?_; (focus (simp; done))) | (with_reducible refine Own.alloc ?_ _) | (with_reducible refine Own.drew ?_) | (with_reducible refine Own.drewN ?_ _) | (with_reducible refine Own.keep (w := ?_) ?_ ?_; rotate_left; (with_reducible assumption); (exact (by repeat (first | (with_reducible assumption) | (with_reducible exact Ext.rfl' _) | (with_reducible exact Ext.new _ _) | (with_reducible refine Ext.alloc' ?_ _) | (with_reducible refine Ext.drew' ?_) | (with_reducible refine Ext.drewN' ?_ _) | (with_reducible refine Ext.set' ?_ ?_ _; rotate_left; (focus (first | omega | (simp; done) | (simp; omega)))) | (with_reducible refine Ext.then (b := ?_) ?_ ?_; rotate_left; rotate_left; (with_reducible assumption)))))) | (with_reducible refine Own.keep (w := ?_) ?_ ?_; rotate_left; rotate_left; (with_reducible assumption)))) (by repeat (first | (with_reducible assumption) | (with_reducible exact Own.new _ _ _) | (with_reducible refine Own.new' _ _ _ ?_; (focus (simp; done))) | (with_reducible refine Own.alloc ?_ _) | (with_reducible refine Own.drew ?_) | (with_reducible refine Own.drewN ?_ _) | (with_reducible refine Own.keep (w := ?_) ?_ ?_; rotate_left; (with_reducible assumption); (exact (by repeat (first | (with_reducible assumption) | (with_reducible exact Ext.rfl' _) | (with_reducible exact Ext.new _ _) | (with_reducible refine Ext.alloc' ?_ _) | (with_reducible refine Ext.drew' ?_) | (with_reducible refine Ext.drewN' ?_ _) | (with_reducible refine Ext.set' ?_ ?_ _; rotate_left; (focus (first | omega | (simp; done) | (simp; omega)))) | (with_reducible refine Ext.then (b := ?_) ?_ ?_; rotate_left; rotate_left; (with_reducible assumption)))))) | (with_reducible refine Own.keep (w := ?_) ?_ ?_; rotate_left; rotate_left; (with_reducible assumption)))) (by repeat (first | (with_reducible assumption) | (with_reducible exact Own.new _ _ _) | (with_reducible refine Own.new' _ _ _ ?_; (focus (simp; done))) | (with_reducible refine Own.alloc ?_ _) | (with_reducible refine Own.drew ?_) | (with_reducible refine Own.drewN ?_ _) | (with_reducible refine Own.keep (w := ?_) ?_ ?_; rotate_left; (with_reducible assumption); (exact (by repeat (first | (with_reducible assumption) | (with_reducible exact Ext.rfl' _) | (with_reducible exact Ext.new _ _) | (with_reducible refine Ext.alloc' ?_ _) | (with_reducible refine Ext.drew' ?_) | (with_reducible refine Ext.drewN' ?_ _) | (with_reducible refine Ext.set' ?_ ?_ _; rotate_left; (focus (first | omega | (simp; done) | (simp; omega)))) | (with_reducible refine Ext.then (b := ?_) ?_ ?_; rotate_left; rotate_left; (with_reducible assumption)))))) | (with_reducible refine Own.keep (w := ?_) ?_ ?_; rotate_left; rotate_left; (with_reducible assumption)))) (by repeat (first | (with_reducible assumption) | (with_reducible exact Own.new _ _ _) | (with_reducible refine Own.new' _ _ _ ?_; (focus (simp; done))) | (with_reducible refine Own.alloc ?_ _) | (with_reducible refine Own.drew ?_) | (with_reducible refine Own.drewN ?_ _) | (with_reducible refine Own.keep (w := ?_) ?_ ?_; rotate_left; (with_reducible assumption); (exact (by repeat (first | (with_reducible assumption) | (with_reducible exact Ext.rfl' _) | (with_reducible exact Ext.new _ _) | (with_reducible refine Ext.alloc' ?_ _) | (with_reducible refine Ext.drew' ?_) | (with_reducible refine Ext.drewN' ?_ _) | (with_reducible refine Ext.set' ?_ ?_ _; rotate_left; (focus (first | omega | (simp; done) | (simp; omega)))) | (with_reducible refine Ext.then (b := ?_) ?_ ?_; rotate_left; rotate_left; (with_reducible assumption)))))) | (with_reducible refine Own.keep (w := ?_) ?_ ?_; rotate_left; rotate_left; (with_reducible assumption)))))
  have hO : Own w1 (w.heap.size + 1 + 1 + 1 + 1) #[.slice (some ⟨w.heap.size, 0, none⟩) 2 2, .slice (some ⟨w.heap.size + 1, 0, none⟩) 1 1, .slice (some ⟨w.heap.size + 1 + 1 + 1, 0, none⟩) 1 1] 29 := Own.keep (Own.new' _ _ _ (by simp)) hb1
  have hB := hF.rep mono_ByteR (noH_le _)
  rw [show encOf lifeT = [2, 4, 10, 2, 2, 6, 4, 2, 1, 0, 0, 0] by unfold encOf; rw [if_pos hva.out, hen.out]] at hB
  have hb : Ext w w1 := (by repeat (first | (with_reducible assumption) | (with_reducible exact Ext.rfl' _) | (with_reducible exact Ext.new _ _) | (with_reducible refine Ext.alloc' ?_ _) | (with_reducible refine Ext.drew' ?_) | (with_reducible refine Ext.drewN' ?_ _) | (with_reducible refine Ext.set' ?_ ?_ _; rotate_left; (focus (first | omega | (simp; done) | (simp; omega)))) | (with_reducible refine Ext.then (b := ?_) ?_ ?_; rotate_left; rotate_left; (with_reducible assumption))))
  clear hF hb1
  rw [hva.out]
  obtain ⟨hoc, hof⟩ := hO.facts
  have hbl := hO.lt
  obtain ⟨a, c, rfl, -, hB⟩ := hB.form
  have h1 : Hid (Thing.size lifeT = 2) := Lib.hid rfl
  have h2 : Hid (Thing.deep lifeT = 2) := Lib.hid rfl
  generalize lifeT = t at *
  go_wp2_with fail
  refine (size_c t _ _ hR (by rw [h1.out]; omega)).mono ?_
  rintro e w2 ⟨rfl, hb2⟩
  rw [h1.out]
  clear hoc hof hbl
  replace hb : Ext w w2 := (by repeat (first | (with_reducible assumption) | (with_reducible exact Ext.rfl' _) | (with_reducible exact Ext.new _ _) | (with_reducible refine Ext.alloc' ?_ _) | (with_reducible refine Ext.drew' ?_) | (with_reducible refine Ext.drewN' ?_ _) | (with_reducible refine Ext.set' ?_ ?_ _; rotate_left; (focus (first | omega | (simp; done) | (simp; omega)))) | (with_reducible refine Ext.then (b := ?_) ?_ ?_; rotate_left; rotate_left; (with_reducible assumption))))
  replace hR := mono_ThingR _ _ _ _ hb2.ple hR
  replace hO := hO.keep hb2
  replace hB := hB.mono mono_ByteR hb2.ple
  obtain ⟨hoc, hof⟩ := hO.facts
  have hbl := hO.lt
  clear hb2
  go_wp2_with fail
  refine (deep_c t _ _ hR (by rw [h2.out]; omega)).mono ?_
  rintro e w3 ⟨rfl, hb2⟩
  rw [h2.out]
  clear hoc hof hbl
  replace hb : Ext w w3 := (by repeat (first | (with_reducible assumption) | (with_reducible exact Ext.rfl' _) | (with_reducible exact Ext.new _ _) | (with_reducible refine Ext.alloc' ?_ _) | (with_reducible refine Ext.drew' ?_) | (with_reducible refine Ext.drewN' ?_ _) | (with_reducible refine Ext.set' ?_ ?_ _; rotate_left; (focus (first | omega | (simp; done) | (simp; omega)))) | (with_reducible refine Ext.then (b := ?_) ?_ ?_; rotate_left; rotate_left; (with_reducible assumption))))
  replace hB := hB.mono mono_ByteR hb2.ple
  clear hb2 hR hO
  go_wp2_with fail
  refine (sameBytes_c _ _ [2, 4, 10, 2, 2, 6, 4, 2, 1, 0, 0, 0] [2, 4, 10, 2, 2, 6, 4, 2, 1, 0, 0, 0] _ (hB.mono mono_ByteR (Ext.ple (by repeat (first | (with_reducible assumption) | (with_reducible exact Ext.rfl' _) | (with_reducible exact Ext.new _ _) | (with_reducible refine Ext.alloc' ?_ _) | (with_reducible refine Ext.drew' ?_) | (with_reducible refine Ext.drewN' ?_ _) | (with_reducible refine Ext.set' ?_ ?_ _; rotate_left; (focus (first | omega | (simp; done) | (simp; omega)))) | (with_reducible refine Ext.then (b := ?_) ?_ ?_; rotate_left; rotate_left; (with_reducible assumption)))))) (slice_of_own (Own.new _ _ _) (cells_bytes _) rfl (by simp [maxLen]))).mono ?_
  rintro e w4 ⟨rfl, hb4⟩
  rw [B_t rfl]
  go_wp2_with fail
  go_ret
  exact ⟨rfl, (by repeat (first | (with_reducible assumption) | (with_reducible exact Ext.rfl' _) | (with_reducible exact Ext.new _ _) | (with_reducible refine Ext.alloc' ?_ _) | (with_reducible refine Ext.drew' ?_) | (with_reducible refine Ext.drewN' ?_ _) | (with_reducible refine Ext.set' ?_ ?_ _; rotate_left; (focus (first | omega | (simp; done) | (simp; omega)))) | (with_reducible refine Ext.then (b := ?_) ?_ ?_; rotate_left; rotate_left; (with_reducible assumption))))⟩
end Go.Proofs.Ytebhdjeognpljaa
