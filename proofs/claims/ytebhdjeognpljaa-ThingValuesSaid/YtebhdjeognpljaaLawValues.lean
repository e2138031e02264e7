/- ThingValues: the walk of the law. -/
import Derived.Test.YtebhdjeognpljaaLives
import Derived.Test.YtebhdjeognpljaaCalm
namespace Go.Proofs.Ytebhdjeognpljaa
open Go.RowKit
set_option linter.unusedSimpArgs false
set_option linter.unusedVariables false
/-- the one condition on worlds in a region: what stood when it began stands -/
theorem held_start (W : World) : (∀ b o, b < W.heap.size → W.drew.cell? ⟨b, o, none⟩ = W.cell? ⟨b, o, none⟩) ∧ Ext W W.drew := ⟨fun _ _ _ => rfl, (Ext.rfl' W).drew'⟩
theorem held_step {W a b : World} (h : (∀ c o, c < W.heap.size → a.cell? ⟨c, o, none⟩ = W.cell? ⟨c, o, none⟩) ∧ Ext W a) (e : Ext a b) : (∀ c o, c < W.heap.size → b.cell? ⟨c, o, none⟩ = W.cell? ⟨c, o, none⟩) ∧ Ext W b :=
  ⟨(h.2.then e).cells.1, h.2.then e⟩
theorem held_alloc {W a : World} (h : (∀ c o, c < W.heap.size → a.cell? ⟨c, o, none⟩ = W.cell? ⟨c, o, none⟩) ∧ Ext W a) (x : Obj) : (∀ c o, c < W.heap.size → (a.alloc x).cell? ⟨c, o, none⟩ = W.cell? ⟨c, o, none⟩) ∧ Ext W (a.alloc x) :=
  held_step h (Ext.new a x)
theorem held_ple {W a : World} (h : (∀ c o, c < W.heap.size → a.cell? ⟨c, o, none⟩ = W.cell? ⟨c, o, none⟩) ∧ Ext W a) : PLe (ph W) (ph a) := h.2.ple
theorem RatsR.at {w : World} {a : Option Addr} {n cap : Nat} {xs : List Rat2} (hr : SliceRep RatR 2 (ph w) (.slice a n cap) xs) (k : Nat) (hk : k < xs.length) :
    ∃ b o, a = some ⟨b, o, none⟩ ∧ w.cell? ⟨b, o + k * 2, none⟩ = some (.int .i64 xs[k].num) ∧ w.cell? ⟨b, o + k * 2 + 1, none⟩ = some (.int .i64 xs[k].den) ∧ I64 xs[k].num ∧ I64 xs[k].den ∧ b < w.heap.size := by
  obtain ⟨b, o, c, d, h1, h2, h3, h4, h5⟩ := SliceRep.get2 hr k hk
  injection h4 with h6 h7
  injection h7 with h7 _
  subst h6 h7
  exact ⟨b, o, h1, h2, h3, h5.1, h5.2, cell_lt h2⟩
theorem infoRat : (Try.prog.info? 32).map (fun i => (i.zero, i.size, i.bytes)) = some (some (.agg #[.int .i64 0, .int .i64 0]), 2, 16) := by kernel_rfl
theorem one_RatR {h : PH} : ∀ cs x, RatR h cs x → ∀ u ∈ cs, u.oneCell' = true := by
  rintro cs x ⟨rfl, -⟩ u hu
  simp at hu
  rcases hu with rfl | rfl <;> rfl
theorem newS_i64 (num den : Int) (hn : I64 num) (hd : I64 den) : I64 (newS num den).1.num ∧ I64 (newS num den).1.den := by
  unfold I64 at *
  unfold newS
  split
  · simp
  · have h1 := Nat.div_le_self num.natAbs (Nat.gcd num.natAbs den.natAbs)
    have h2 := Nat.div_le_self den.natAbs (Nat.gcd num.natAbs den.natAbs)
    unfold buildS
    generalize num.natAbs / Nat.gcd num.natAbs den.natAbs = q at *
    generalize den.natAbs / Nat.gcd num.natAbs den.natAbs = m at *
    split
    · simp
    · simp only
      split <;> omega
/-- a thing with one value -/
def one (attr rn rd : Int) : Thing := .mk [] [⟨attr, ⟨rn, rd⟩⟩] []
theorem one_rep {w : World} {b : Nat} {attr rn rd : Int} (hA : Own w b #[.int .i64 attr, .int .i64 rn, .int .i64 rd] 41) (ha : I64 attr) (i1 : I64 rn) (i2 : I64 rd) :
    ThingR (ph w) [.slice none 0 0, .slice (some ⟨b, 0, none⟩) 1 1, .slice none 0 0] (one attr rn rd) := by
  rw [thingR_iff]
  refine ⟨_, _, _, rfl, SliceRep.nil _ _ _, ⟨_, 1, rfl, Nat.le_refl _, by simp [maxLen], .inr ⟨_, _, rfl, ⟨[.int .i64 attr, .int .i64 rn, .int .i64 rd], rfl, fun j hj => ?_, rfl, ha, i1, i2⟩, trivial⟩⟩, SliceRep.nil _ _ _⟩
  rw [← cell_ph, hA.facts.1]
  match j, hj with
  | 0, _ => rfl
  | 1, _ => rfl
  | 2, _ => rfl
theorem one_val (attr rn rd : Int) : getVal (one attr rn rd).vals attr = some ⟨rn, rd⟩ := by simp [getVal, Thing.vals, one]
theorem one_other (attr rn rd j : Int) (h : attr ≠ j) : getVal (one attr rn rd).vals j = none := by simp [getVal, Thing.vals, one, h]
theorem one_valid (attr rn rd : Int) : validV (one attr rn rd) = ErrIf (RatOk ⟨rn, rd⟩ ∧ rd ≤ 65536 ∧ 0 ≤ attr ∧ attr < 32) 1 := by
  have h1 : Thing.size (one attr rn rd) = 1 := rfl
  have h2 : Thing.deep (one attr rn rd) = 1 := rfl
  rw [validV, h1, h2, if_pos (by omega)]
  congr 1
  apply propext
  rw [Thing.formed_iff]
  simp only [Thing.vals, Thing.cls, Thing.parts, one]
  constructor
  · rintro ⟨g1, -, g2, -⟩
    have := g1 _ (List.mem_singleton.2 rfl)
    have g3 := g2 0 (by simp)
    simp at g3
    exact ⟨this.1, this.2, g3.1, g3.2⟩
  · rintro ⟨g1, g2, g3, g4⟩
    refine ⟨fun x hx => ?_, fun k h => by simp at h, fun k h => ?_, fun p hp => by cases hp⟩
    · obtain rfl := List.mem_singleton.1 hx
      exact ⟨g1, g2⟩
    · simp at h; subst h; simp [g3, g4]
theorem one_bulk (attr rn rd : Int) : (one attr rn rd).bulk ≤ 1000000 := by simp [Thing.bulk, bulks, one]
theorem one_case (attr rn rd : Int) : ∃ fine : Bool, Hid (validV (one attr rn rd) = if fine then 0 else 1) ∧ (RatOk ⟨rn, rd⟩ ∧ rd ≤ 65536 ∧ 0 ≤ attr ∧ attr < 32 ∧ fine = true ∨ RatOk ⟨rn, rd⟩ ∧ 65536 < rd ∧ fine = false ∨ RatOk ⟨rn, rd⟩ ∧ rd ≤ 65536 ∧ attr < 0 ∧ fine = false ∨ RatOk ⟨rn, rd⟩ ∧ rd ≤ 65536 ∧ 0 ≤ attr ∧ 32 ≤ attr ∧ fine = false ∨ ¬ RatOk ⟨rn, rd⟩ ∧ fine = false) := by
  have hv := one_valid attr rn rd
  by_cases hF : RatOk ⟨rn, rd⟩ ∧ rd ≤ 65536 ∧ 0 ≤ attr ∧ attr < 32
  · exact ⟨true, by rw [ErrIf_t hF] at hv; exact hv, .inl ⟨hF.1, hF.2.1, hF.2.2.1, hF.2.2.2, rfl⟩⟩
  · refine ⟨false, by rw [ErrIf_f hF] at hv; exact hv, .inr ?_⟩
    by_cases hR : RatOk ⟨rn, rd⟩
    · by_cases hD : 65536 < rd
      · exact .inl ⟨hR, hD, rfl⟩
      · by_cases hz : attr < 0
        · exact .inr (.inl ⟨hR, by omega, hz, rfl⟩)
        · refine .inr (.inr (.inl ⟨hR, by omega, by omega, ?_, rfl⟩))
          by_cases h32 : attr < 32
          · exact absurd ⟨hR, by omega, by omega, h32⟩ hF
          · omega
    · exact .inr (.inr (.inr ⟨hR, rfl⟩))
set_option maxRecDepth 100000 in
set_option maxHeartbeats 2000000 in
theorem values_c (num den attr : Int) (w : World) (hn : I64 num) (hd : I64 den) (ha : I64 attr) :
    Calls Try.prog 4 #[.int .i64 num, .int .i64 den, .int .i64 attr] w (RetV w (.bool true)) := by
  obtain ⟨hm1, hm2⟩ := newS_i64 num den hn hd
  go_enter Try.func4, Try.ntmps4
  go_wp2_with fail
  refine (new_c num den _ hn hd).mono ?_
  rintro e w1 ⟨rfl, hb1⟩
  obtain ⟨xs, hxl, hown, hxs⟩ : ∃ xs : List Rat2, xs.length ≤ 6 ∧ OwnS w.heap.size noH w1 RatR 2 32 (.slice (some ⟨w.heap.size, 0, none⟩) 6 6) xs ∧ Hid (∀ r ∈ xs, I64 r.num ∧ I64 r.den) := by
    have ho : Own w1 w.heap.size _ _ := Own.keep (Own.new w _ _) hb1
    have i0 : I64 0 := by unfold I64; omega
    have i1 : I64 1 := by unfold I64; omega
    have i2 : I64 65536 := by unfold I64; omega
    have i3 : I64 65537 := by unfold I64; omega
    refine ⟨[⟨num, den⟩, ⟨num, 1⟩, ⟨1, den⟩, ⟨1, 65536⟩, ⟨1, 65537⟩, ⟨0, 0⟩], by simp, OwnS.ofNew (Nat.le_refl _) ho rfl (by simp [maxLen]) rfl ?_, ?_⟩
    · exact ⟨[.int .i64 num, .int .i64 den], _, rfl, rfl, ⟨rfl, hn, hd⟩, [.int .i64 num, .int .i64 1], _, rfl, rfl, ⟨rfl, hn, i1⟩, [.int .i64 1, .int .i64 den], _, rfl, rfl, ⟨rfl, i1, hd⟩,
        [.int .i64 1, .int .i64 65536], _, rfl, rfl, ⟨rfl, i1, i2⟩, [.int .i64 1, .int .i64 65537], _, rfl, rfl, ⟨rfl, i1, i3⟩, [.int .i64 0, .int .i64 0], [], rfl, rfl, ⟨rfl, i0, i0⟩, rfl⟩
    · intro r hr
      simp at hr
      rcases hr with rfl | rfl | rfl | rfl | rfl | rfl <;> exact ⟨by assumption, by assumption⟩
  have hb : Ext w w1 := (by repeat (first | (with_reducible assumption) | (with_reducible exact Ext.rfl' _) | (with_reducible exact Ext.new _ _) | (with_reducible refine Ext.alloc' ?_ _) | (with_reducible refine Ext.drew' ?_) | (with_reducible refine Ext.drewN' ?_ _) | (with_reducible refine Ext.set' ?_ ?_ _; rotate_left; (focus (first | omega | (simp; done) | (simp; omega)))) | (with_reducible refine Ext.then (b := ?_) ?_ ?_; rotate_left; rotate_left; (with_reducible assumption))))
  have hl0 : w.heap.size < w1.heap.size := by have := hb1.size; simp at this; omega
  clear hb1
  unfold ratErr
  generalize (newS num den).1.num = x at *
  generalize (newS num den).1.den = y at *
  generalize (newS num den).2 = z at *
  generalize Value.slice (some ⟨w.heap.size, 0, none⟩) 6 6 = v7 at *
  go_upto_if 35 with (fail)
  go_cut [7] (fun v wx => ∃ xs : List Rat2, xs.length ≤ 7 ∧ OwnS w.heap.size noH wx RatR 2 32 v xs ∧ Hid (∀ r ∈ xs, I64 r.num ∧ I64 r.den) ∧ Ext w wx)
  case first =>
    by_cases hz : z = 0
    · subst hz
      go_wp2_with (at_builtin; refine wpList_append_S (E := RatR) (H := noH) (base := w.heap.size) (ys := [⟨x, y⟩]) rfl _ _ 37 32 rfl (.agg #[.int .i64 0, .int .i64 0]) 16 Try.underlying37 infoRat rfl rfl rfl (hown.keep (by repeat (first | (with_reducible assumption) | (with_reducible exact Ext.rfl' _) | (with_reducible exact Ext.new _ _) | (with_reducible refine Ext.alloc' ?_ _) | (with_reducible refine Ext.drew' ?_) | (with_reducible refine Ext.drewN' ?_ _) | (with_reducible refine Ext.set' ?_ ?_ _; rotate_left; (focus (first | omega | (simp; done) | (simp; omega)))) | (with_reducible refine Ext.then (b := ?_) ?_ ?_; rotate_left; rotate_left; (with_reducible assumption))))) (Src.lit1 ⟨rfl, hm1, hm2⟩ rfl (fun j => by simp [go_sem])) (noH_le _) ?c2 one_RatR ?c3 ?c4 ?c5)
      case c2 => simp; omega
      case c3 => simp; omega
      case c4 => simp; omega
      case c5 =>
        intro l' w2 hl1 hg1 hn1
        have hne := hown.lt
        have hb2 : Ext w w2 := Ext.grown (by repeat (first | (with_reducible assumption) | (with_reducible exact Ext.rfl' _) | (with_reducible exact Ext.new _ _) | (with_reducible refine Ext.alloc' ?_ _) | (with_reducible refine Ext.drew' ?_) | (with_reducible refine Ext.drewN' ?_ _) | (with_reducible refine Ext.set' ?_ ?_ _; rotate_left; (focus (first | omega | (simp; done) | (simp; omega)))) | (with_reducible refine Ext.then (b := ?_) ?_ ?_; rotate_left; rotate_left; (with_reducible assumption)))) hg1 (fun k e => (hne _ e).1)
        clear hg1 hn1 hne hown
        go_wp2_with fail
        go_meet
        case rel =>
          refine ⟨xs ++ [(⟨x, y⟩ : Rat2)], by simp; omega, hl1, ?_, hb2⟩
          intro r hr
          rcases List.mem_append.1 hr with hr | hr
          · exact hxs.out r hr
          · obtain rfl := List.mem_singleton.1 hr
            exact ⟨hm1, hm2⟩
    · have hzb : (z == 0) = false := by simpa using hz
      go_wp2_with fail
      go_meet
      case rel => exact ⟨xs, by omega, hown.keep (by repeat (first | (with_reducible assumption) | (with_reducible exact Ext.rfl' _) | (with_reducible exact Ext.new _ _) | (with_reducible refine Ext.alloc' ?_ _) | (with_reducible refine Ext.drew' ?_) | (with_reducible refine Ext.drewN' ?_ _) | (with_reducible refine Ext.set' ?_ ?_ _; rotate_left; (focus (first | omega | (simp; done) | (simp; omega)))) | (with_reducible refine Ext.then (b := ?_) ?_ ?_; rotate_left; rotate_left; (with_reducible assumption)))), hxs, (by repeat (first | (with_reducible assumption) | (with_reducible exact Ext.rfl' _) | (with_reducible exact Ext.new _ _) | (with_reducible refine Ext.alloc' ?_ _) | (with_reducible refine Ext.drew' ?_) | (with_reducible refine Ext.drewN' ?_ _) | (with_reducible refine Ext.set' ?_ ?_ _; rotate_left; (focus (first | omega | (simp; done) | (simp; omega)))) | (with_reducible refine Ext.then (b := ?_) ?_ ?_; rotate_left; rotate_left; (with_reducible assumption))))⟩
  case rest =>
    clear hown hxs hb hxl hl0 hm1 hm2
    obtain ⟨xs, hxl, hown, hxs, hb⟩ := hcut
    obtain ⟨an, cn, rfl, -⟩ := hown.form
    go_wp2_with fail
    go_loopw [10] (fun i wr => ∃ k : Nat, k ≤ xs.length ∧ i = .int .i64 k ∧ OwnS w.heap.size noH wr RatR 2 32 (.slice an xs.length cn) xs ∧ Ext w wr) (fun i _ => xs.length - (intOf i).toNat)
    case atStart => exact ⟨0, Nat.zero_le _, rfl, hown.keep (by repeat (first | (with_reducible assumption) | (with_reducible exact Ext.rfl' _) | (with_reducible exact Ext.new _ _) | (with_reducible refine Ext.alloc' ?_ _) | (with_reducible refine Ext.drew' ?_) | (with_reducible refine Ext.drewN' ?_ _) | (with_reducible refine Ext.set' ?_ ?_ _; rotate_left; (focus (first | omega | (simp; done) | (simp; omega)))) | (with_reducible refine Ext.then (b := ?_) ?_ ?_; rotate_left; rotate_left; (with_reducible assumption)))), (by repeat (first | (with_reducible assumption) | (with_reducible exact Ext.rfl' _) | (with_reducible exact Ext.new _ _) | (with_reducible refine Ext.alloc' ?_ _) | (with_reducible refine Ext.drew' ?_) | (with_reducible refine Ext.drewN' ?_ _) | (with_reducible refine Ext.set' ?_ ?_ _; rotate_left; (focus (first | omega | (simp; done) | (simp; omega)))) | (with_reducible refine Ext.then (b := ?_) ?_ ?_; rotate_left; rotate_left; (with_reducible assumption))))⟩
    case round =>
      obtain ⟨k, hk, rfl, hownr, hbr⟩ := hrel
      clear hown
      by_cases hlt : k < xs.length
      · obtain ⟨b, o, rfl, h0, h1, i1, i2, hbl⟩ := RatsR.at (hownr.rep mono_RatR (noH_le _)) k hlt
        generalize xs[k] = r at *
        obtain ⟨rn, rd⟩ := r
        simp only at h0 h1 i1 i2
        go_upto_region 9 with (fail)
        go_cut [12] (fun f wx => ∃ fine : Bool, f = .bool fine ∧ Hid (validV (one attr rn rd) = if fine then 0 else 1) ∧ Own wx wr.heap.size #[.int .i64 attr, .int .i64 rn, .int .i64 rd] 41 ∧
          Own wx (wr.heap.size + 1) #[.slice none 0 0, .slice (some ⟨wr.heap.size, 0, none⟩) 1 1, .slice none 0 0] 29 ∧ Ext wr wx)
        case first =>
          go_wp2_with fail
          refine (ratValid_c ⟨rn, rd⟩ _ i1 i2).mono ?_
          rintro e w3 ⟨rfl, hb3⟩
          have hA := Own.keep (Own.alloc (Own.new wr _ _) _) hb3
          have hT := Own.keep (Own.new' (n := wr.heap.size + 1) (wr.alloc _) _ _ (by simp)) hb3
          have hw3 : Ext wr w3 := (by repeat (first | (with_reducible assumption) | (with_reducible exact Ext.rfl' _) | (with_reducible exact Ext.new _ _) | (with_reducible refine Ext.alloc' ?_ _) | (with_reducible refine Ext.drew' ?_) | (with_reducible refine Ext.drewN' ?_ _) | (with_reducible refine Ext.set' ?_ ?_ _; rotate_left; (focus (first | omega | (simp; done) | (simp; omega)))) | (with_reducible refine Ext.then (b := ?_) ?_ ?_; rotate_left; rotate_left; (with_reducible assumption))))
          have h0' := hw3.cell1 h0
          have h1' := hw3.cell1 h1
          have hbl5 : b < w3.heap.size := cell_lt h0'
          clear hb3 h0 h1
          obtain ⟨fine, hV, hcs⟩ := one_case attr rn rd
          rcases hcs with ⟨hR, e1, e2, e3, rfl⟩ | ⟨hR, e1, rfl⟩ | ⟨hR, e1, e2, rfl⟩ | ⟨hR, e1, e2, e3, rfl⟩ | ⟨hR, rfl⟩
          all_goals
            first | rw [ErrIf_t hR] | rw [ErrIf_f hR]
            replace hR := Lib.hid hR
            try have hd4 : decide (attr < 32) = false := by (simp; omega)
            go_wp2_with fail
            go_meet
            case rel => exact ⟨_, rfl, hV, hA, hT, hw3⟩
        case rest =>
          obtain ⟨fine, rfl, hV, hA, hT, hwc⟩ := hcut
          have hTR := one_rep hA ha i1 i2
          have hS := hownr.keep hwc
          replace h0 := hwc.cell1 h0
          replace h1 := hwc.cell1 h1
          replace hbl : b < wc.heap.size := cell_lt h0
          replace hbr : Ext w wc := (by repeat (first | (with_reducible assumption) | (with_reducible exact Ext.rfl' _) | (with_reducible exact Ext.new _ _) | (with_reducible refine Ext.alloc' ?_ _) | (with_reducible refine Ext.drew' ?_) | (with_reducible refine Ext.drewN' ?_ _) | (with_reducible refine Ext.set' ?_ ?_ _; rotate_left; (focus (first | omega | (simp; done) | (simp; omega)))) | (with_reducible refine Ext.then (b := ?_) ?_ ?_; rotate_left; rotate_left; (with_reducible assumption))))
          have hbl4 := hT.lt
          have hgv := Lib.hid (one_val attr rn rd)
          have hgo := Lib.hid (one_other attr rn rd)
          have hbk := one_bulk attr rn rd
          clear hA hownr hwc
          generalize one attr rn rd = t at *
          obtain ⟨hTc, hTf⟩ := hT.facts
          go_wp2_with fail
          refine (value_c t attr _ _ hTR).mono ?_
          rintro e w4 ⟨rfl, hb5⟩
          rw [hgv.out]
          unfold optRat
          replace hTR := mono_ThingR _ _ _ _ hb5.ple hTR
          replace hT := hT.keep hb5
          replace h0 := hb5.cell1 h0
          replace h1 := hb5.cell1 h1
          replace hbr : Ext w w4 := (by repeat (first | (with_reducible assumption) | (with_reducible exact Ext.rfl' _) | (with_reducible exact Ext.new _ _) | (with_reducible refine Ext.alloc' ?_ _) | (with_reducible refine Ext.drew' ?_) | (with_reducible refine Ext.drewN' ?_ _) | (with_reducible refine Ext.set' ?_ ?_ _; rotate_left; (focus (first | omega | (simp; done) | (simp; omega)))) | (with_reducible refine Ext.then (b := ?_) ?_ ?_; rotate_left; rotate_left; (with_reducible assumption))))
          replace hS := hS.keep hb5
          replace hbl : b < w4.heap.size := cell_lt h0
          replace hbl4 := hT.lt
          clear hb5 hTc hTf
          obtain ⟨hTc, hTf⟩ := hT.facts
          go_wp2_with fail
          have hw1 : IntKind.i64.wrap (attr.tdiv 2) = wrap64 (attr.tdiv 2) := IntWalk.i64_left _
          generalize wrap64 (attr.tdiv 2) = q at *
          have hw2 : IntKind.i64.wrap (q + 1) = wrap64 (q + 1) := IntWalk.i64_left _
          generalize wrap64 (q + 1) = j at *
          refine (value_c t j _ _ (mono_ThingR _ _ _ _ (Ext.ple (by repeat (first | (with_reducible assumption) | (with_reducible exact Ext.rfl' _) | (with_reducible exact Ext.new _ _) | (with_reducible refine Ext.alloc' ?_ _) | (with_reducible refine Ext.drew' ?_) | (with_reducible refine Ext.drewN' ?_ _) | (with_reducible refine Ext.set' ?_ ?_ _; rotate_left; (focus (first | omega | (simp; done) | (simp; omega)))) | (with_reducible refine Ext.then (b := ?_) ?_ ?_; rotate_left; rotate_left; (with_reducible assumption))))) hTR)).mono ?_
          rintro e w5 ⟨rfl, hb5⟩
          have hM := Own.keep (Own.new w4 _ _) hb5
          replace hb5 : Ext w4 w5 := (by repeat (first | (with_reducible assumption) | (with_reducible exact Ext.rfl' _) | (with_reducible exact Ext.new _ _) | (with_reducible refine Ext.alloc' ?_ _) | (with_reducible refine Ext.drew' ?_) | (with_reducible refine Ext.drewN' ?_ _) | (with_reducible refine Ext.set' ?_ ?_ _; rotate_left; (focus (first | omega | (simp; done) | (simp; omega)))) | (with_reducible refine Ext.then (b := ?_) ?_ ?_; rotate_left; rotate_left; (with_reducible assumption))))
          replace hTR := mono_ThingR _ _ _ _ hb5.ple hTR
          replace hT := hT.keep hb5
          replace h0 := hb5.cell1 h0
          replace h1 := hb5.cell1 h1
          replace hbr : Ext w w5 := (by repeat (first | (with_reducible assumption) | (with_reducible exact Ext.rfl' _) | (with_reducible exact Ext.new _ _) | (with_reducible refine Ext.alloc' ?_ _) | (with_reducible refine Ext.drew' ?_) | (with_reducible refine Ext.drewN' ?_ _) | (with_reducible refine Ext.set' ?_ ?_ _; rotate_left; (focus (first | omega | (simp; done) | (simp; omega)))) | (with_reducible refine Ext.then (b := ?_) ?_ ?_; rotate_left; rotate_left; (with_reducible assumption))))
          replace hS := hS.keep hb5
          clear hb5 hTc hTf hbl hbl4
          by_cases hj : attr = j
          case' pos =>
            have hjb : (j == attr) = true := by simp [hj]
            have hgj2 : getVal t.vals j = some ⟨rn, rd⟩ := hj ▸ hgv.out
            rw [hgj2]
            unfold optRat
            replace hj := Lib.hid hj
            clear hgj2
            go_wp2_with fail
            have hWx := Ext.new w5 (.cells #[.int .i64 rn, .int .i64 rd] 32)
            generalize w5.alloc (.cells #[.int .i64 rn, .int .i64 rd] 32) = W at *
          case' neg =>
            have hjb : (j == attr) = false := by simp [Ne.symm hj]
            rw [hgo.out j hj]
            unfold optRat
            replace hj := Lib.hid hj
            go_wp2_with fail
            have hWx := Ext.new w5 (.cells #[.int .i64 0, .int .i64 0] 32)
            generalize w5.alloc (.cells #[.int .i64 0, .int .i64 0] 32) = W at *
          all_goals
            replace hTR := mono_ThingR _ _ _ _ hWx.ple hTR
            replace hT := hT.keep hWx
            replace hM := hM.keep hWx
            replace h0 := hWx.cell1 h0
            replace h1 := hWx.cell1 h1
            replace hbr : Ext w W := (by repeat (first | (with_reducible assumption) | (with_reducible exact Ext.rfl' _) | (with_reducible exact Ext.new _ _) | (with_reducible refine Ext.alloc' ?_ _) | (with_reducible refine Ext.drew' ?_) | (with_reducible refine Ext.drewN' ?_ _) | (with_reducible refine Ext.set' ?_ ?_ _; rotate_left; (focus (first | omega | (simp; done) | (simp; omega)))) | (with_reducible refine Ext.then (b := ?_) ?_ ?_; rotate_left; rotate_left; (with_reducible assumption))))
            replace hS := hS.keep hWx
            have hbl : b < W.heap.size := cell_lt h0
            have hbl4 := hT.lt
            have hbl1 := hM.lt
            clear hWx hgv hgo
            obtain ⟨hTc, hTf⟩ := hT.facts
            obtain ⟨hMc, hMf⟩ := hM.facts
            have HC : Hid (∀ w', PLe (ph W) (ph w') → Calls Try.prog 9 #[.agg #[.slice none 0 0, .slice (some ⟨wr.heap.size, 0, none⟩) 1 1, .slice none 0 0]] w' (RetV w' (.int .i64 _))) := fun w' h => valid_c t _ w' (mono_ThingR _ _ _ _ h hTR) hbk
            rw [hV.out] at HC
            cases fine
            all_goals
              simp only [if_true, Bool.false_eq_true, if_false] at HC
              (refine wp_region_calm (S := fun w' => Ext _ w') (by kernel_rfl) (by kernel_rfl) (Ext.rfl' _).drew' ?_; (try simp only [List.toList_toArray]); (repeat (first | (refine walkF_skip ?_ ?_; (focus rfl); (try simp only [Act.put, List.setIfInBounds_toArray, List.set_cons_zero, List.set_cons_succ])) | (refine walkF_step (v := ?_) rfl ?_ ?_ ?_; rotate_left; (focus rfl); (focus (intro w' hS A hA K hK; (simp only [agrees, Op.operands, Call.operands, Act.eval, Array.getD_eq_getD_getElem?, List.getElem?_toArray, List.getElem?_cons_succ, List.getElem?_cons_zero, Option.getD_some, and_true, true_and, List.append_toArray, List.nil_append, List.cons_append, List.toList_toArray, Array.toList_append] at hA); first | (go_simp; go_at_call 9; refine (HC.out _ hS.ple).mono ?_; rintro e w'' ⟨rfl, hbx⟩; exact hK _ (hS.then hbx)) | (obtain ⟨hSc, hSf, hSs⟩ := hS.cells; go_simp; exact hK _ hS))); (try simp only [Act.put, List.setIfInBounds_toArray, List.set_cons_zero, List.set_cons_succ])))); refine walkF_nil ?_)
              intro w6 hw6
              have hS6 := hS.keep hw6
              replace hbr : Ext w w6 := (by repeat (first | (with_reducible assumption) | (with_reducible exact Ext.rfl' _) | (with_reducible exact Ext.new _ _) | (with_reducible refine Ext.alloc' ?_ _) | (with_reducible refine Ext.drew' ?_) | (with_reducible refine Ext.drewN' ?_ _) | (with_reducible refine Ext.set' ?_ ?_ _; rotate_left; (focus (first | omega | (simp; done) | (simp; omega)))) | (with_reducible refine Ext.then (b := ?_) ?_ ?_; rotate_left; rotate_left; (with_reducible assumption))))
              clear hTc hTf hMc hMf HC
              go_wp2_with fail
              go_roundw
              case rel => exact ⟨k + 1, by omega, by go_num, hS6, hbr⟩
              case measure => simp [intOf]; omega
      · go_wp2_with fail
        refine (lives_c _).mono ?_
        rintro e w3 ⟨rfl, hb3⟩
        go_wp2_with fail
        go_ret
        exact ⟨rfl, (by repeat (first | (with_reducible assumption) | (with_reducible exact Ext.rfl' _) | (with_reducible exact Ext.new _ _) | (with_reducible refine Ext.alloc' ?_ _) | (with_reducible refine Ext.drew' ?_) | (with_reducible refine Ext.drewN' ?_ _) | (with_reducible refine Ext.set' ?_ ?_ _; rotate_left; (focus (first | omega | (simp; done) | (simp; omega)))) | (with_reducible refine Ext.then (b := ?_) ?_ ?_; rotate_left; rotate_left; (with_reducible assumption))))⟩
end Go.Proofs.Ytebhdjeognpljaa
