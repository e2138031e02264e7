/- priorartref06.Encode: the bytes of a thing, valid or not. -/
import Derived.Test.YtebhdjeognpljaaRefWire
import Derived.Test.YtebhdjeognpljaaRefOrder
namespace Go.Proofs.Ytebhdjeognpljaa
open Go.RowKit
set_option linter.unusedSimpArgs false
set_option linter.unusedVariables false
theorem encL_flat (l : List Val) : encL (flat l) = encVs l := by
  induction l with
  | nil => rfl
  | cons v l ih =>
    simp only [flat, encVs, List.flatMap_cons] at *
    rw [← ih]
    simp [encV, encL]
set_option maxRecDepth 100000 in
set_option maxHeartbeats 1000000 in
theorem refEnc_c (t : Thing) : ∀ (cs : List Value) (w : World), ThingR (ph w) cs t → t.bulk ≤ 1000000 →
    Calls Try.prog 29 #[.agg cs.toArray] w (FreshB w (enc t)) := by
  induction t using Thing.ind with
  | h t ih =>
    intro cs w hr hB
    have henc := Lib.hid (enc_eq t)
    have hlen := enc_len t hr
    have hcl : t.cls.length ≤ 1000000 := by rw [Thing.bulk_eq] at hB; omega
    have hvl : t.vals.length ≤ 1000000 := by rw [Thing.bulk_eq] at hB; omega
    have hpl : t.parts.length ≤ 1000000 := by have := t.parts_le; omega
    have ih' : Hid (∀ p ∈ t.parts, ∀ (cs : List Value) (w : World), ThingR (ph w) cs p → Calls Try.prog 29 #[.agg cs.toArray] w (FreshB w (enc p))) := fun p hp cs w h => ih p hp cs w h (by have := Thing.part_le hp; omega)
    clear ih
    obtain ⟨a1, c1, a2, c2, a3, c3, rfl, l1, l2, l3, r1, r2, r3⟩ := hr.form
    clear hr
    rw [henc.out] at hlen
    simp only [List.length_append] at hlen
    have hM := MB.start w
    go_enter Try.func29, Try.ntmps29
    go_wp2_with fail
    refine (refInts_c _ t.cls _ (r1.mono mono_IntR (Ext.ple (by repeat (first | (with_reducible assumption) | (with_reducible exact Ext.rfl' _) | (with_reducible exact Ext.new _ _) | (with_reducible refine Ext.alloc' ?_ _) | (with_reducible refine Ext.drew' ?_) | (with_reducible refine Ext.drewN' ?_ _) | (with_reducible refine Ext.set' ?_ ?_ _; rotate_left; (focus (first | omega | (simp; done) | (simp; omega)))) | (with_reducible refine Ext.then (b := ?_) ?_ ?_; rotate_left; rotate_left; (with_reducible assumption)))))) (by omega)).mono ?_
    rintro e w1 ⟨v, rfl, ho, hb1⟩
    replace hM := (hM.box #[.slice a1 t.cls.length c1, .slice a2 t.vals.length c2, .slice a3 t.parts.length c3] 29).take' hb1 ho
    clear hb1 ho
    obtain ⟨x1, y1, rfl, -⟩ := hM.form
    generalize hn1 : (encInts t.cls).length = n1 at *
    replace hn1 := Lib.hid hn1
    obtain ⟨hoc, hof⟩ := (hM.own1 0 rfl).facts
    go_wp2_with fail
    refine (refInt_c t.vals.length _ (by unfold I64; omega)).mono ?_
    rintro e w2 ⟨v, rfl, ho, hb2⟩
    obtain ⟨hM1, hM2⟩ := hM.take hb2 ho
    clear hM hb2 ho hoc hof
    obtain ⟨x2, y2, rfl, -⟩ := hM2.form
    generalize hn2 : (encI t.vals.length).length = n2 at *
    replace hn2 := Lib.hid hn2
    go_wp2_with (at_builtin; refine wpList_append_B rfl _ _ 46 rfl Try.underlying46 infoByte rfl rfl rfl rfl (hM1.keep (by repeat (first | (with_reducible assumption) | (with_reducible exact Ext.rfl' _) | (with_reducible exact Ext.new _ _) | (with_reducible refine Ext.alloc' ?_ _) | (with_reducible refine Ext.drew' ?_) | (with_reducible refine Ext.drewN' ?_ _) | (with_reducible refine Ext.set' ?_ ?_ _; rotate_left; (focus (first | omega | (simp; done) | (simp; omega)))) | (with_reducible refine Ext.then (b := ?_) ?_ ?_; rotate_left; rotate_left; (with_reducible assumption))))) (hM2.src.keep (by repeat (first | (with_reducible assumption) | (with_reducible exact Ext.rfl' _) | (with_reducible exact Ext.new _ _) | (with_reducible refine Ext.alloc' ?_ _) | (with_reducible refine Ext.drew' ?_) | (with_reducible refine Ext.drewN' ?_ _) | (with_reducible refine Ext.set' ?_ ?_ _; rotate_left; (focus (first | omega | (simp; done) | (simp; omega)))) | (with_reducible refine Ext.then (b := ?_) ?_ ?_; rotate_left; rotate_left; (with_reducible assumption))))) ?c1 ?c2)
    case c1 => rw [hn1.out, hn2.out]; omega
    case c2 =>
    intro v3 w3 hM
    clear hM1 hM2
    obtain ⟨x3, y3, rfl, -⟩ := hM.form
    obtain ⟨hoc, hof⟩ := (hM.own1 0 rfl).facts
    generalize hn3 : (encInts t.cls ++ encI t.vals.length).length = n3 at *
    have hn3' : n3 ≤ 100000000 := by rw [← hn3, List.length_append, hn1.out, hn2.out]; omega
    replace hn3 := Lib.hid hn3
    go_wp2_with fail
    refine (numbers_r _ t.vals _ (r2.mono mono_ValR (hM.ex.then (by repeat (first | (with_reducible assumption) | (with_reducible exact Ext.rfl' _) | (with_reducible exact Ext.new _ _) | (with_reducible refine Ext.alloc' ?_ _) | (with_reducible refine Ext.drew' ?_) | (with_reducible refine Ext.drewN' ?_ _) | (with_reducible refine Ext.set' ?_ ?_ _; rotate_left; (focus (first | omega | (simp; done) | (simp; omega)))) | (with_reducible refine Ext.then (b := ?_) ?_ ?_; rotate_left; rotate_left; (with_reducible assumption))))).ple) hvl).mono ?_
    rintro e w4 ⟨v, rfl, ho, hb4⟩
    have hfr := ho.repUp (w0 := w3) mono_IntR (Nat.le_refl _) (noH_le _)
    replace hM := hM.up hb4
    generalize up noH w3 w4 = F at *
    clear ho hb4 hoc hof
    obtain ⟨x4, y4, rfl, hfl4, hfr⟩ := hfr.form
    have hfe := Lib.hid (encL_flat t.vals)
    have hfll := flat_len t.vals
    have hlv : (encL (flat t.vals)).length ≤ 100000000 := by rw [hfe.out]; omega
    generalize flat t.vals = fl at *
    go_wp2_with fail
    go_loopw [3, 5] (fun v i wr => ∃ k : Nat, k ≤ fl.length ∧ i = .int .i64 k ∧ MB w [box w.heap.size #[.slice a1 t.cls.length c1, .slice a2 t.vals.length c2, .slice a3 t.parts.length c3] 29] F v ((encInts t.cls ++ encI t.vals.length) ++ encL (fl.take k)) wr) (fun _ i _ => fl.length - (intOf i).toNat)
    case atStart => exact ⟨0, Nat.zero_le _, rfl, by simpa [encL, hn3.out] using hM⟩
    case round =>
      clear hM
      obtain ⟨k, hk, rfl, hM⟩ := hrel
      have hel : (encL (fl.take k)).length ≤ 10 * k := by
        have hi64 := IntsR.all hfr
        have := encL_len (l := fl.take k) fun x hx => hi64 x (List.mem_of_mem_take hx)
        rw [List.length_take] at this; omega
      have hn5' : (encInts t.cls ++ encI t.vals.length ++ encL (fl.take k)).length ≤ 200000000 := by rw [List.length_append, hn3.out]; omega
      by_cases hlt : k < fl.length
      · obtain ⟨b, o, rfl, h0, hi, hbl⟩ := IntsR.at (hfr.mono mono_IntR hM.ple) k hlt
        have hs := Lib.hid (encL_snoc fl k hlt)
        have hil := encI_len hi
        obtain ⟨x5, y5, rfl, -⟩ := hM.form
        generalize fl[k] = x at *
        generalize hacc : encInts t.cls ++ encI t.vals.length ++ encL (fl.take k) = acc at *
        replace hs : Hid (encInts t.cls ++ encI t.vals.length ++ encL (fl.take (k + 1)) = acc ++ encI x) := by
          show _ = _; rw [hs.out, ← List.append_assoc, hacc]
        clear hacc
        go_wp2_with fail
        refine (refInt_c x _ hi).mono ?_
        rintro e w6 ⟨vx, rfl, ho, hb6⟩
        obtain ⟨hM1, hM2⟩ := hM.take hb6 ho
        obtain ⟨x6, y6, rfl, -⟩ := hM2.form
        clear hM hb6 ho h0
        generalize hn6 : (encI x).length = n6 at *
        replace hn6 := Lib.hid hn6
        go_wp2_with (at_builtin; refine wpList_append_B rfl _ _ 46 rfl Try.underlying46 infoByte rfl rfl rfl rfl (hM1.keep (by repeat (first | (with_reducible assumption) | (with_reducible exact Ext.rfl' _) | (with_reducible exact Ext.new _ _) | (with_reducible refine Ext.alloc' ?_ _) | (with_reducible refine Ext.drew' ?_) | (with_reducible refine Ext.drewN' ?_ _) | (with_reducible refine Ext.set' ?_ ?_ _; rotate_left; (focus (first | omega | (simp; done) | (simp; omega)))) | (with_reducible refine Ext.then (b := ?_) ?_ ?_; rotate_left; rotate_left; (with_reducible assumption))))) (hM2.src.keep (by repeat (first | (with_reducible assumption) | (with_reducible exact Ext.rfl' _) | (with_reducible exact Ext.new _ _) | (with_reducible refine Ext.alloc' ?_ _) | (with_reducible refine Ext.drew' ?_) | (with_reducible refine Ext.drewN' ?_ _) | (with_reducible refine Ext.set' ?_ ?_ _; rotate_left; (focus (first | omega | (simp; done) | (simp; omega)))) | (with_reducible refine Ext.then (b := ?_) ?_ ?_; rotate_left; rotate_left; (with_reducible assumption))))) ?c3 ?c4)
        case c3 => rw [hn6.out]; omega
        case c4 =>
          intro l' w7 hM3
          rw [← hs.out] at hM3
          clear hM1 hM2
          go_wp2_with fail
          go_roundw
          case rel => exact ⟨k + 1, by omega, by go_num, hM3⟩
          case measure => simp [intOf]; omega
      · rw [List.take_of_length_le (by omega), hfe.out] at hM hn5'
        obtain ⟨x5, y5, rfl, -⟩ := hM.form
        clear hfr hfe
        generalize hacc : encInts t.cls ++ encI t.vals.length ++ encVs t.vals = acc at *
        obtain ⟨hoc, hof⟩ := (hM.own1 0 rfl).facts
        go_wp2_with fail
        refine (refInt_c t.parts.length _ (by unfold I64; omega)).mono ?_
        rintro e w6 ⟨v, rfl, ho, hb6⟩
        obtain ⟨hM1, hM2⟩ := hM.take hb6 ho
        clear hM hb6 ho hoc hof
        obtain ⟨x6, y6, rfl, -⟩ := hM2.form
        have hpl6 := encI_len (n := t.parts.length) (by unfold I64; omega)
        generalize hn6 : (encI t.parts.length).length = n6 at *
        replace hn6 := Lib.hid hn6
        replace hacc := Lib.hid hacc
        go_wp2_with (at_builtin; refine wpList_append_B rfl _ _ 46 rfl Try.underlying46 infoByte rfl rfl rfl rfl (hM1.keep (by repeat (first | (with_reducible assumption) | (with_reducible exact Ext.rfl' _) | (with_reducible exact Ext.new _ _) | (with_reducible refine Ext.alloc' ?_ _) | (with_reducible refine Ext.drew' ?_) | (with_reducible refine Ext.drewN' ?_ _) | (with_reducible refine Ext.set' ?_ ?_ _; rotate_left; (focus (first | omega | (simp; done) | (simp; omega)))) | (with_reducible refine Ext.then (b := ?_) ?_ ?_; rotate_left; rotate_left; (with_reducible assumption))))) (hM2.src.keep (by repeat (first | (with_reducible assumption) | (with_reducible exact Ext.rfl' _) | (with_reducible exact Ext.new _ _) | (with_reducible refine Ext.alloc' ?_ _) | (with_reducible refine Ext.drew' ?_) | (with_reducible refine Ext.drewN' ?_ _) | (with_reducible refine Ext.set' ?_ ?_ _; rotate_left; (focus (first | omega | (simp; done) | (simp; omega)))) | (with_reducible refine Ext.then (b := ?_) ?_ ?_; rotate_left; rotate_left; (with_reducible assumption))))) ?c5 ?c6)
        case c5 => rw [hn6.out]; omega
        case c6 =>
        intro v7 w7 hM
        clear hM1 hM2
        obtain ⟨x7, y7, rfl, -⟩ := hM.form
        have hn7' : (acc ++ encI t.parts.length).length ≤ 210000000 := by rw [List.length_append, hn6.out]; omega
        replace hacc : Hid (enc t = (acc ++ encI t.parts.length) ++ encTs t.parts) := by
          show _ = _; rw [henc.out]
        generalize acc ++ encI t.parts.length = acc2 at *
        clear henc
        go_wp2_with fail
        go_loopw [3, 6] (fun v i wr => ∃ k : Nat, k ≤ t.parts.length ∧ i = .int .i64 k ∧ MB w [box w.heap.size #[.slice a1 t.cls.length c1, .slice a2 t.vals.length c2, .slice a3 t.parts.length c3] 29] F v (acc2 ++ encTs (t.parts.take k)) wr) (fun _ i _ => t.parts.length - (intOf i).toNat)
        case atStart => exact ⟨0, Nat.zero_le _, rfl, by simpa [encTs] using hM⟩
        case round =>
          clear hM
          obtain ⟨k, hk, rfl, hM⟩ := hrel
          obtain ⟨hoc, hof⟩ := (hM.own1 0 rfl).facts
          by_cases hlt : k < t.parts.length
          · obtain ⟨b, o, p1, q1, p2, q2, p3, q3, rfl, h0, h1, h2, hE, hbl⟩ := ThingsR.at (r3.mono mono_ThingR hM.ex.ple) k hlt
            have hs := Lib.hid (encTs_snoc t.parts k hlt)
            have hmem : t.parts[k] ∈ t.parts := List.getElem_mem hlt
            have hpb := Thing.part_le hmem
            have ihp := Lib.hid (ih'.out _ hmem)
            have hpe := enc_len t.parts[k] hE
            have hacl : (acc2 ++ encTs (t.parts.take k)).length ≤ 300000000 := by
              have h8 : (encTs (t.parts.take k)).length ≤ 30 * t.bulk := by
                have h9 : (encTs (t.parts.take k)).length ≤ (encTs t.parts).length := by
                  rw [encTs_eq, encTs_eq]
                  have e : t.parts.flatMap enc = (t.parts.take k).flatMap enc ++ (t.parts.drop k).flatMap enc := by rw [← List.flatMap_append, List.take_append_drop]
                  rw [e, List.length_append]; omega
                omega
              rw [List.length_append]; omega
            obtain ⟨x8, y8, rfl, -⟩ := hM.form
            generalize t.parts[k] = x at *
            generalize hac3 : acc2 ++ encTs (t.parts.take k) = acc3 at *
            replace hs : Hid (acc2 ++ encTs (t.parts.take (k + 1)) = acc3 ++ enc x) := by
              show _ = _; rw [hs.out, ← List.append_assoc, hac3]
            clear hac3
            replace hE := Lib.hid hE
            go_wp2_with fail
            refine (ihp.out [_, _, _] _ (mono_ThingR _ _ _ _ (Ext.ple (by repeat (first | (with_reducible assumption) | (with_reducible exact Ext.rfl' _) | (with_reducible exact Ext.new _ _) | (with_reducible refine Ext.alloc' ?_ _) | (with_reducible refine Ext.drew' ?_) | (with_reducible refine Ext.drewN' ?_ _) | (with_reducible refine Ext.set' ?_ ?_ _; rotate_left; (focus (first | omega | (simp; done) | (simp; omega)))) | (with_reducible refine Ext.then (b := ?_) ?_ ?_; rotate_left; rotate_left; (with_reducible assumption))))) hE.out)).mono ?_
            rintro e w8 ⟨vx, rfl, ho, hb8⟩
            obtain ⟨hM1, hM2⟩ := hM.take hb8 ho
            obtain ⟨x9, y9, rfl, -⟩ := hM2.form
            clear hM hb8 ho h0 h1 h2 hoc hof hE
            generalize hn9 : (enc x).length = n9 at *
            replace hn9 := Lib.hid hn9
            go_wp2_with (at_builtin; refine wpList_append_B rfl _ _ 46 rfl Try.underlying46 infoByte rfl rfl rfl rfl (hM1.keep (by repeat (first | (with_reducible assumption) | (with_reducible exact Ext.rfl' _) | (with_reducible exact Ext.new _ _) | (with_reducible refine Ext.alloc' ?_ _) | (with_reducible refine Ext.drew' ?_) | (with_reducible refine Ext.drewN' ?_ _) | (with_reducible refine Ext.set' ?_ ?_ _; rotate_left; (focus (first | omega | (simp; done) | (simp; omega)))) | (with_reducible refine Ext.then (b := ?_) ?_ ?_; rotate_left; rotate_left; (with_reducible assumption))))) (hM2.src.keep (by repeat (first | (with_reducible assumption) | (with_reducible exact Ext.rfl' _) | (with_reducible exact Ext.new _ _) | (with_reducible refine Ext.alloc' ?_ _) | (with_reducible refine Ext.drew' ?_) | (with_reducible refine Ext.drewN' ?_ _) | (with_reducible refine Ext.set' ?_ ?_ _; rotate_left; (focus (first | omega | (simp; done) | (simp; omega)))) | (with_reducible refine Ext.then (b := ?_) ?_ ?_; rotate_left; rotate_left; (with_reducible assumption))))) ?c7 ?c8)
            case c7 => rw [hn9.out]; omega
            case c8 =>
              intro l' w9 hM3
              rw [← hs.out] at hM3
              clear hM1 hM2
              go_wp2_with fail
              go_roundw
              case rel => exact ⟨k + 1, by omega, by go_num, hM3⟩
              case measure => simp [intOf]; omega
          · rw [List.take_of_length_le (by omega), ← hacc.out] at hM
            obtain ⟨x9, y9, rfl, -⟩ := hM.form
            have hf := Lib.hid hM.fresh
            clear hM
            go_wp2_with fail
            go_ret
            exact hf.out
end Go.Proofs.Ytebhdjeognpljaa
