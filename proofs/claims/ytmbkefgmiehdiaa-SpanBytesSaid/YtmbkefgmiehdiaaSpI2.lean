/- the generator Interval. -/
import Derived.Deep.CutBlock
import Derived.Test.YtmbkefgmiehdiaaSpGen
import Derived.Test.YtmbkefgmiehdiaaSpX
namespace Go.Proofs.Ytmbkefgmiehdiaa
open Go.RowKit Go.Shelf
set_option linter.unusedSimpArgs false
set_option linter.unusedVariables false
theorem lit_mem (zs : List Int) (T : TypeId) (w : World) (j : Nat) (hj : j < zs.length) : ∃ z, z ∈ zs ∧ (w.alloc (.cells (zs.map (Value.int .i64)).toArray T)).cell? ⟨w.heap.size, j, none⟩ = some (.int .i64 z) := by
  refine ⟨zs[j], List.getElem_mem hj, ?_⟩
  have h := (Proofs.Ytmbkefgmiehdiaa.Own.new w (zs.map (Value.int .i64)).toArray T).facts.1 j
  rw [h]; simp [hj]
/-- a good interval comes back -/
def RetItv (w : World) (e : Ending) (w' : World) : Prop := ∃ x, goodB x = true ∧ e = .returned (itA x) ∧ Ext w w'
set_option maxRecDepth 100000 in
set_option maxHeartbeats 8000000 in
theorem interval_c (n m : Int) (w : World) (hn : I64 n) (hm : I64 m) : Calls Try.prog 27 #[.int .i64 n, .int .i64 m] w (RetItv w) := by
  have hk := fun w => around_c n 1048576 w hn (by omega) (by omega)
  have hj := fun w => around_c m 1048576 w hm (by omega) (by omega)
  obtain ⟨k0, k1⟩ := aroundV_range (n := n) (m := 1048576) hn (by omega)
  obtain ⟨j0, j1⟩ := aroundV_range (n := m) (m := 1048576) hm (by omega)
  generalize aroundV n 1048576 = k at *
  generalize aroundV m 1048576 = j at *
  replace hk := Lib.hid hk
  replace hj := Lib.hid hj
  have hw := Ext.new w (.cells #[.int .i64 0, .int .i64 0, .int .i64 0, .int .i64 0, .bool false, .bool false, .bool false, .bool false] 43)
  have hO := Proofs.Ytmbkefgmiehdiaa.Own.new w #[.int .i64 0, .int .i64 0, .int .i64 0, .int .i64 0, .bool false, .bool false, .bool false, .bool false] 43
  go_enter Try.func27, Try.ntmps27
  go_wp2_with fail
  generalize w.alloc _ = W at *
  refine RetV_at (hk.out _) ?_
  intro w1 hx1
  replace hO := hO.keep hx1
  replace hw := hw.then hx1
  clear hx1
  go_wp2_with fail
  refine RetV_at (hj.out _) ?_
  intro w2 hx2
  replace hO := hO.keep hx2
  replace hw := hw.then hx2
  clear hx2 hk hj
  obtain ⟨i6, e6⟩ : ∃ i : Nat, k / 16 % 6 = i := ⟨(k / 16 % 6).toNat, by omega⟩
  have i6l : i6 < 6 := by omega
  have i6i : (i6 : Int) < 6 := by omega
  obtain ⟨dn, hdn, c6⟩ := lit_mem [1, 1, 2, 3, 7, 32768] 3 w2 i6 i6l
  have hdn1 : 1 ≤ dn ∧ dn ≤ 32768 := by
    simp only [List.mem_cons, List.not_mem_nil, or_false] at hdn; omega
  simp only [List.map_cons, List.map_nil] at c6
  have hn1 : IntKind.i64.wrap (k / 96 % 40 - 20) = k / 96 % 40 - 20 := wrap_id (by omega) (by omega)
  have hof := fun w => of_c (k / 96 % 40 - 20) dn w (by unfold B62; omega) hdn1.1 (by omega)
  obtain ⟨hof0, hof1⟩ := ofS_small (n := k / 96 % 40 - 20) (d := dn) (by omega) (by omega) hdn1.1 hdn1.2
  rw [hof0] at hof
  generalize (ofS (k / 96 % 40 - 20) dn).1 = lo at *
  replace hof := Lib.hid hof
  have hlt6 : w2.heap.size < (w2.alloc (.cells #[.int .i64 1, .int .i64 1, .int .i64 2, .int .i64 3, .int .i64 7, .int .i64 32768] 3)).heap.size := by simp
  have hx3 := Ext.new w2 (.cells #[.int .i64 1, .int .i64 1, .int .i64 2, .int .i64 3, .int .i64 7, .int .i64 32768] 3)
  go_upto_region 4 with (fail)
  replace hO := hO.keep hx3
  replace hw := hw.then hx3
  clear hx3 hlt6 c6 hdn e6 i6l i6i hof0
  generalize w2.heap.size = b2 at *
  generalize w2.alloc _ = W2 at *
  go_wp2_with fail
  refine RetV_at (hof.out _) ?_
  intro w3 hx3
  replace hO := hO.keep hx3
  replace hw := hw.then hx3
  obtain ⟨ln, ld⟩ := lo
  have hOl := Proofs.Ytmbkefgmiehdiaa.Own.new w3 #[.int .i64 ln, .int .i64 ld] 40
  have hx4 := Ext.new w3 (.cells #[.int .i64 ln, .int .i64 ld] 40)
  replace hO := hO.keep hx4
  replace hw := hw.then hx4
  unfold raE raA
  dsimp only
  clear hx3 hx4 hof hn1
  go_upto_region 5 with (fail)
  generalize w3.heap.size = b8 at *
  generalize w3.alloc _ = W3 at *
  obtain ⟨i4, e4⟩ : ∃ i : Nat, j / 9 % 4 = i := ⟨(j / 9 % 4).toNat, by omega⟩
  have i4l : i4 < 4 := by omega
  have i4i : (i4 : Int) < 4 := by omega
  obtain ⟨dm, hdm, c4⟩ := lit_mem [dn, dn, 1, 5] 3 W3 i4 i4l
  have hdm1 : 1 ≤ dm ∧ dm ≤ 32768 := by
    simp only [List.mem_cons, List.not_mem_nil, or_false] at hdm; omega
  simp only [List.map_cons, List.map_nil] at c4
  have hn1 : IntKind.i64.wrap (k / 96 % 40 - 20) = k / 96 % 40 - 20 := wrap_id (by omega) (by omega)
  have hn2 : IntKind.i64.wrap (k / 96 % 40 - 20 + j % 9) = k / 96 % 40 - 20 + j % 9 := wrap_id (by omega) (by omega)
  have hof := fun w => of_c (k / 96 % 40 - 20 + j % 9) dm w (by unfold B62; omega) hdm1.1 (by omega)
  obtain ⟨hof0, hof2⟩ := ofS_small (n := k / 96 % 40 - 20 + j % 9) (d := dm) (by omega) (by omega) hdm1.1 hdm1.2
  rw [hof0] at hof
  generalize (ofS (k / 96 % 40 - 20 + j % 9) dm).1 = hi at *
  replace hof := Lib.hid hof
  have hlt4 : W3.heap.size < (W3.alloc (.cells #[.int .i64 dn, .int .i64 dn, .int .i64 1, .int .i64 5] 3)).heap.size := by simp
  have hx5 := Ext.new W3 (.cells #[.int .i64 dn, .int .i64 dn, .int .i64 1, .int .i64 5] 3)
  go_wp2_with fail
  refine RetV_at (hof.out _) ?_
  intro w5 hx6
  replace hx5 := hx5.then hx6
  replace hO := hO.keep hx5
  replace hOl := hOl.keep hx5
  replace hw := hw.then hx5
  clear hx5 hx6 hlt4 c4 hdm e4 i4l i4i hof0 hn1 hn2 hof
  obtain ⟨un, ud⟩ := hi
  have hOh := Proofs.Ytmbkefgmiehdiaa.Own.new w5 #[.int .i64 un, .int .i64 ud] 40
  have hx7 := Ext.new w5 (.cells #[.int .i64 un, .int .i64 ud] 40)
  replace hO := hO.keep hx7
  replace hOl := hOl.keep hx7
  replace hw := hw.then hx7
  unfold raE raA
  dsimp only
  go_upto_region 6 with (fail)
  generalize w5.heap.size = b10 at *
  generalize w5.alloc _ = W5 at *
  obtain ⟨cl, fl⟩ := hOl.facts
  obtain ⟨ch, fh⟩ := hOh.facts
  have zl := hOl.lt
  have zh := hOh.lt
  obtain ⟨b1, hb1⟩ : ∃ b, (k % 2 == 1) = b := ⟨_, rfl⟩
  obtain ⟨b2', hb2⟩ : ∃ b, (k / 2 % 2 == 1) = b := ⟨_, rfl⟩
  obtain ⟨b3, hb3⟩ : ∃ b, (k / 4 % 4 == 3) = b := ⟨_, rfl⟩
  obtain ⟨b4, hb4⟩ : ∃ b, (j / 36 % 5 == 4) = b := ⟨_, rfl⟩
  go_upto_region 7 with (fail)
  have hOx := Proofs.Ytmbkefgmiehdiaa.Own.new W5 #[.int .i64 ln, .int .i64 ld, .int .i64 un, .int .i64 ud, .bool b1, .bool b2', .bool b3, .bool b4] 43
  have hx8 := Ext.new W5 (.cells #[.int .i64 ln, .int .i64 ld, .int .i64 un, .int .i64 ud, .bool b1, .bool b2', .bool b3, .bool b4] 43)
  have hne : w.heap.size < W5.heap.size := hO.lt
  have hne2 : b8 < W5.heap.size := hOl.lt
  have hbl : w.heap.size ≤ W5.heap.size := by omega
  replace hO := hO.keep hx8
  replace hOl := hOl.keep hx8
  replace hw := hw.then hx8
  clear hb1 hb2 hb3 hb4 cl fl ch fh zl zh hOh hx7 hx8
  generalize W5.heap.size = b12 at *
  generalize W5.alloc _ = W6 at *
  obtain ⟨cx, fx⟩ := hOx.facts
  have zx := hOx.lt
  go_upto_if 71 with (fail)
  go_cut [] (fun wx => ∃ x : Itv, Own wx b12 (itC x).toArray 43 ∧ Own wx w.heap.size #[.int .i64 0, .int .i64 0, .int .i64 0, .int .i64 0, .bool false, .bool false, .bool false, .bool false] 43 ∧ Own wx b8 #[.int .i64 ln, .int .i64 ld] 40 ∧ Ext w wx)
  case first =>
    cases b3 with
    | false =>
      go_wp2_with fail
      go_meet
      case rel => exact ⟨⟨⟨ln, ld⟩, ⟨un, ud⟩, b1, b2', _, b4⟩, hOx, hO, hOl, hw⟩
    | true =>
      go_wp2_with fail
      go_meet
      case rel =>
        exact ⟨⟨⟨0, 0⟩, ⟨un, ud⟩, false, b2', _, b4⟩, ((hOx.set 0 (.int .i64 0)).set 1 (.int .i64 0)).set 4 (.bool false),
          ((hO.setOther (p := ⟨b12, 0, none⟩) (by simp; omega) _).setOther (p := ⟨b12, 1, none⟩) (by simp; omega) _).setOther (p := ⟨b12, 4, none⟩) (by simp; omega) _,
          ((hOl.setOther (p := ⟨b12, 0, none⟩) (by simp; omega) _).setOther (p := ⟨b12, 1, none⟩) (by simp; omega) _).setOther (p := ⟨b12, 4, none⟩) (by simp; omega) _, (by repeat (first | (with_reducible assumption) | (with_reducible exact Ext.rfl' _) | (with_reducible exact Ext.new _ _) | (with_reducible refine Ext.alloc' ?_ _) | (with_reducible refine Ext.drew' ?_) | (with_reducible refine Ext.drewN' ?_ _) | (with_reducible refine Ext.set' ?_ ?_ _; rotate_left; (focus (first | omega | (simp; done) | (simp; omega)))) | (with_reducible refine Ext.then (b := ?_) ?_ ?_; rotate_left; rotate_left; (with_reducible assumption))))⟩
  case rest =>
    clear hO hOl hw hOx cx fx zx
    obtain ⟨x, hOx, hO, hOl, hw⟩ := hcut
    obtain ⟨cx, fx⟩ := hOx.facts
    have zx := hOx.lt
    unfold itC at hOx cx
    have cx5 : _ = some (Value.bool x.hiI) := cx 7
    go_upto_if 76 with (fail)
    go_cut [] (fun wx => ∃ x : Itv, Own wx b12 (itC x).toArray 43 ∧ Own wx w.heap.size #[.int .i64 0, .int .i64 0, .int .i64 0, .int .i64 0, .bool false, .bool false, .bool false, .bool false] 43 ∧ Own wx b8 #[.int .i64 ln, .int .i64 ld] 40 ∧ Ext w wx)
    case first =>
      obtain ⟨⟨xn, xd⟩, ⟨yn, yd⟩, xlO, xrO, xlI, xrI⟩ := x
      dsimp only at *
      cases xrI with
      | false =>
        go_wp2_with fail
        go_meet
        case rel => exact ⟨⟨⟨xn, xd⟩, ⟨yn, yd⟩, xlO, xrO, xlI, _⟩, hOx, hO, hOl, hw⟩
      | true =>
        go_wp2_with fail
        go_meet
        case rel =>
          exact ⟨⟨⟨xn, xd⟩, ⟨0, 0⟩, xlO, false, xlI, _⟩, ((hOx.set 2 (.int .i64 0)).set 3 (.int .i64 0)).set 5 (.bool false),
            ((hO.setOther (p := ⟨b12, 2, none⟩) (by simp; omega) _).setOther (p := ⟨b12, 3, none⟩) (by simp; omega) _).setOther (p := ⟨b12, 5, none⟩) (by simp; omega) _,
            ((hOl.setOther (p := ⟨b12, 2, none⟩) (by simp; omega) _).setOther (p := ⟨b12, 3, none⟩) (by simp; omega) _).setOther (p := ⟨b12, 5, none⟩) (by simp; omega) _, (by repeat (first | (with_reducible assumption) | (with_reducible exact Ext.rfl' _) | (with_reducible exact Ext.new _ _) | (with_reducible refine Ext.alloc' ?_ _) | (with_reducible refine Ext.drew' ?_) | (with_reducible refine Ext.drewN' ?_ _) | (with_reducible refine Ext.set' ?_ ?_ _; rotate_left; (focus (first | omega | (simp; done) | (simp; omega)))) | (with_reducible refine Ext.then (b := ?_) ?_ ?_; rotate_left; rotate_left; (with_reducible assumption))))⟩
    case rest =>
      clear hO hOl hw hOx cx fx cx5 zx
      obtain ⟨x, hOx, hO, hOl, hw⟩ := hcut
      have hgood := fun w => rgood_c x w
      obtain ⟨q, hq⟩ : ∃ q, goodB x = q := ⟨_, rfl⟩
      rw [hq] at hgood
      replace hq := Lib.hid hq
      have hlg : Hid (goodB ⟨⟨ln, ld⟩, ⟨ln, ld⟩, false, false, false, false⟩ = true) := Lib.hid (by rw [goodB_fin rfl rfl]; simp [hof1])
      obtain ⟨⟨xn, xd⟩, ⟨yn, yd⟩, xlO, xrO, xlI, xrI⟩ := x
      unfold itA at hgood
      unfold itC at hOx
      dsimp only [List.toArray] at *
      replace hgood := Lib.hid hgood
      obtain ⟨cx, fx⟩ := hOx.facts
      have zx := hOx.lt
      go_wp2_with fail
      refine RetV_at (hgood.out _) ?_
      intro w9 hx9
      replace hOx := hOx.keep hx9
      replace hO := hO.keep hx9
      replace hOl := hOl.keep hx9
      replace hw := hw.then hx9
      clear cx fx zx hx9 hgood
      obtain ⟨cx, fx⟩ := hOx.facts
      have zx := hOx.lt
      obtain ⟨co, fo⟩ := hO.facts
      have zo := hO.lt
      obtain ⟨cl, fl⟩ := hOl.facts
      have zl := hOl.lt
      cases q with
      | true =>
        go_wp2_with fail
        exact bodyPost_ret (v := itA ⟨⟨xn, xd⟩, ⟨yn, yd⟩, xlO, xrO, xlI, xrI⟩) (by simp [itA, results, Try.results27, go_sem, co, fo, zo]) rfl ⟨_, hq.out, rfl, (by repeat (first | (with_reducible assumption) | (with_reducible exact Ext.rfl' _) | (with_reducible exact Ext.new _ _) | (with_reducible refine Ext.alloc' ?_ _) | (with_reducible refine Ext.drew' ?_) | (with_reducible refine Ext.drewN' ?_ _) | (with_reducible refine Ext.set' ?_ ?_ _; rotate_left; (focus (first | omega | (simp; done) | (simp; omega)))) | (with_reducible refine Ext.then (b := ?_) ?_ ?_; rotate_left; rotate_left; (with_reducible assumption))))⟩
      | false =>
        go_wp2_with fail
        exact bodyPost_ret (v := itA ⟨⟨ln, ld⟩, ⟨ln, ld⟩, false, false, false, false⟩) (by simp [itA, results, Try.results27, go_sem, co, fo, zo]) rfl ⟨_, hlg.out, rfl, (by repeat (first | (with_reducible assumption) | (with_reducible exact Ext.rfl' _) | (with_reducible exact Ext.new _ _) | (with_reducible refine Ext.alloc' ?_ _) | (with_reducible refine Ext.drew' ?_) | (with_reducible refine Ext.drewN' ?_ _) | (with_reducible refine Ext.set' ?_ ?_ _; rotate_left; (focus (first | omega | (simp; done) | (simp; omega)))) | (with_reducible refine Ext.then (b := ?_) ?_ ?_; rotate_left; rotate_left; (with_reducible assumption))))⟩
end Go.Proofs.Ytmbkefgmiehdiaa
