/- span.Encode and the reference's: the bytes of a list of intervals.; the reference's Encode.; what span.Decode returns, in plain words: it leads back for sets, and what it accepts is encoded to the same bytes.; span.Decode. -/
import Derived.Deep.CutBlock
import Derived.Test.YtmbkefgmiehdiaaWireA
import Derived.Test.YtmbkefgmiehdiaaSpH
import Derived.Test.YtmbkefgmiehdiaaRowG
import Derived.Test.YtmbkefgmiehdiaaSpC
namespace Go.Proofs.Ytmbkefgmiehdiaa
open Go.RowKit
set_option linter.unusedSimpArgs false
set_option linter.unusedVariables false
def bb (b : Bool) : UInt8 := if b then 1 else 0
def encT (l : List Bool) : List UInt8 := l.map bb
def encX (x : Itv) : List UInt8 := encL [x.lo.num, x.lo.den, x.hi.num, x.hi.den] ++ encT [x.loO, x.hiO, x.loI, x.hiI]
def encXs (l : List Itv) : List UInt8 := l.flatMap encX
def encA (l : List Itv) : List UInt8 := encI l.length ++ encXs l
theorem encX_len {x : Itv} (h : x.I) : (encX x).length ≤ 44 := by
  have := encL_len (l := [x.lo.num, x.lo.den, x.hi.num, x.hi.den]) (by
    intro y hy
    simp at hy
    rcases hy with rfl | rfl | rfl | rfl
    all_goals first | exact h.1.1 | exact h.1.2 | exact h.2.1 | exact h.2.2)
  simp only [encX, encT, List.length_append, List.length_map, List.length_cons, List.length_nil] at this ⊢
  omega
theorem encXs_len {l : List Itv} (h : ∀ x ∈ l, x.I) : (encXs l).length ≤ 44 * l.length := by
  induction l with
  | nil => simp [encXs]
  | cons x l ih =>
    have h1 := encX_len (h x (by simp))
    have h2 := ih fun y hy => h y (by simp [hy])
    simp only [encXs, List.flatMap_cons, List.length_append, List.length_cons] at h1 h2 ⊢
    omega
theorem encXs_snoc (l : List Itv) (k : Nat) (h : k < l.length) : encXs (l.take (k + 1)) = encXs (l.take k) ++ encX l[k] := by
  rw [encXs, List.take_succ_eq_append_getElem h, List.flatMap_append]; simp [encXs]
theorem ItvsR.all {H : PH} {v : Value} {l : List Itv} (h : ItvsR H v l) : ∀ x ∈ l, x.I := by
  intro x hx
  obtain ⟨k, hk, rfl⟩ := List.getElem_of_mem hx
  obtain ⟨a, c, rfl, -, h⟩ := h.form
  obtain ⟨b, o, cs, -, -, -, -, h2⟩ := h.get k hk
  exact h2
theorem wbool_c (base g : Nat) (row : Option Nat) (xs : List UInt8) (b : Bool) (w : World) (hW : Wr base w g row xs) (hlen : xs.length ≤ 1000000000) :
    Calls Try.prog 76 #[.pointer (some ⟨g, 0, none⟩), .bool b] w (WrP base w g row (xs ++ [bb b])) := by
  have h1 := uint_c base g row xs 1 w (by omega) hW hlen
  have h0 := uint_c base g row xs 0 w (by omega) hW hlen
  rw [show uvar 1 = [bb true] from uvar_small (by omega)] at h1
  rw [show uvar 0 = [bb false] from uvar_small (by omega)] at h0
  go_enter Try.func76, Try.ntmps76
  cases b with
  | true =>
    go_wp2_with fail
    refine h1.mono ?_
    rintro e w2 ⟨rfl, hT⟩
    go_wp2_with fail
    exact bodyPost_ret (v := .tuple #[]) (by simp [results, Try.results76, go_sem]) rfl ⟨rfl, hT⟩
  | false =>
    go_wp2_with fail
    refine h0.mono ?_
    rintro e w2 ⟨rfl, hT⟩
    go_wp2_with fail
    exact bodyPost_ret (v := .tuple #[]) (by simp [results, Try.results76, go_sem]) rfl ⟨rfl, hT⟩
theorem rbool_c (b : Bool) (w : World) : Calls Try.prog 83 #[.bool b] w (FreshB w [bb b]) := by
  go_enter Try.func83, Try.ntmps83
  cases b with
  | true =>
    go_wp2_with fail
    go_ret
    exact ⟨_, rfl, OwnS.ofNew (Nat.le_refl _) (Proofs.Ytmbkefgmiehdiaa.Own.new w #[.int .u8 1] 5) rfl (by decide) rfl ⟨[_], [], rfl, rfl, rfl, rfl⟩, Ext.new _ _⟩
  | false =>
    go_wp2_with fail
    go_ret
    exact ⟨_, rfl, OwnS.ofNew (Nat.le_refl _) (Proofs.Ytmbkefgmiehdiaa.Own.new w #[.int .u8 0] 5) rfl (by decide) rfl ⟨[_], [], rfl, rfl, rfl, rfl⟩, Ext.new _ _⟩
theorem lit_int {a b c d : Int} {ns : List Int} (h : ns = [a, b, c, d]) (j : Nat) (hj : j < ns.length) : (#[.int .i64 a, .int .i64 b, .int .i64 c, .int .i64 d] : Array Value)[j]? = some (.int .i64 ns[j]) := by
  subst h
  match j, hj with
  | 0, _ => rfl
  | 1, _ => rfl
  | 2, _ => rfl
  | 3, _ => rfl
theorem lit_bool {a b c d : Bool} {ns : List Bool} (h : ns = [a, b, c, d]) (j : Nat) (hj : j < ns.length) : (#[.bool a, .bool b, .bool c, .bool d] : Array Value)[j]? = some (.bool ns[j]) := by
  subst h
  match j, hj with
  | 0, _ => rfl
  | 1, _ => rfl
  | 2, _ => rfl
  | 3, _ => rfl
theorem encT_snoc (l : List Bool) (k : Nat) (h : k < l.length) : encT (l.take (k + 1)) = encT (l.take k) ++ [bb l[k]] := by
  rw [encT, List.take_succ_eq_append_getElem h, List.map_append]; simp [encT]
/-- a box stands while a writer is at work -/
theorem Wto.box {base : Nat} {w w' : World} {g : Nat} {row : Option Nat} {xs ys : List UInt8} {b : Nat} {c : Array Value} {T : TypeId} (h : Wto base w g row xs w') (hW : Wr base w g row ys) (hO : Own w b c T) (h1 : b ≠ g) (h2 : row ≠ some b) : Own w' b c T := by
  obtain ⟨r, -, hx, -⟩ := h
  exact hO.keepW hx h1 h2
set_option maxRecDepth 100000 in
set_option maxHeartbeats 4000000 in
theorem enc_c (v : Value) (l : List Itv) (w : World) (hr : ItvsR (ph w) v l) (hlen : l.length ≤ 10000) : Calls Try.prog 36 #[v] w (FreshB w (encA l)) := by
  have hall := Lib.hid hr.all
  obtain ⟨a, c, rfl, hll, hr⟩ := hr.form
  have hn64 : I64 (l.length : Int) := by unfold I64; omega
  have hnl := encI_len hn64
  have hE : Hid (encA l = encI l.length ++ encXs l) := rfl
  go_enter Try.func36, Try.ntmps36
  go_upto_region 2 with (fail)
  have hW0 := Wr.fresh w
  have hb0 := Ext.new w (.cells #[.slice none 0 0] 94)
  have hgl : w.heap.size < (w.alloc (.cells #[.slice none 0 0] 94)).heap.size := by simp
  generalize hg : w.heap.size = g at *
  generalize w.alloc _ = W at *
  go_wp2_with fail
  refine (int_c g g none [] _ _ hn64 hW0 (by simp)).mono ?_
  rintro e w1 ⟨rfl, hT⟩
  rw [List.nil_append] at hT
  generalize hN : l.length = N at *
  generalize encI (N : Int) = pre at *
  replace hN := Lib.hid hN
  go_wp2_with fail
  go_loopw [15] (fun vi wr => ∃ k : Nat, k ≤ N ∧ vi = .int .i64 k ∧ Wto g W g none (pre ++ encXs (l.take k)) wr) (fun vi _ => N - (intOf vi).toNat)
  case atStart => exact ⟨0, by omega, rfl, by simpa [encXs] using hT⟩
  case round =>
    clear hT
    obtain ⟨k, hk, rfl, hT⟩ := hrel
    have hex : Ext w wr := by
      obtain ⟨r, -, hx, -⟩ := hT
      exact hx.toExt hb0 (by omega) (fun i hi => by cases hi)
    by_cases hlt : k < N
    · have hkl : k < l.length := by rw [hN.out]; exact hlt
      obtain ⟨b, o, rfl, h0, h1, h2, h3, h4, h5, h6, h7, hbl, hI⟩ := ItvsR.at (hr.mono mono_ItvR hex.ple) k hkl
      have hs := Lib.hid (encXs_snoc l k hkl)
      have hxl := Lib.hid (encX_len hI)
      have hpl : (pre ++ encXs (l.take k)).length ≤ 450000 := by
        have := encXs_len (l := l.take k) fun x hx => hall.out x (List.mem_of_mem_take hx)
        rw [List.length_take] at this
        simp only [List.length_append]; omega
      generalize l[k] = x at *
      obtain ⟨⟨xa, xb⟩, ⟨xc, xd⟩, lO, rO, lI, rI⟩ := x
      dsimp only at *
      have hja : decide (k < N) = true := decide_eq_true hlt
      have hex0 : Hid (encX ⟨⟨xa, xb⟩, ⟨xc, xd⟩, lO, rO, lI, rI⟩ = encL [xa, xb, xc, xd] ++ encT [lO, rO, lI, rI]) := rfl
      generalize hacc : pre ++ encXs (l.take k) = acc at *
      replace hacc := Lib.hid hacc
      obtain ⟨row1, hW1, hx1, hr1⟩ := hT
      replace hr1 := Lib.hid hr1
      go_upto_region 6 with (fail)
      have hy5 := Ext.new wr (.cells #[.int .i64 xa, .int .i64 xb, .int .i64 xc, .int .i64 xd, .bool lO, .bool rO, .bool lI, .bool rI] 43)
      have hO5 := Proofs.Ytmbkefgmiehdiaa.Own.new wr #[.int .i64 xa, .int .i64 xb, .int .i64 xc, .int .i64 xd, .bool lO, .bool rO, .bool lI, .bool rI] 43
      have hW2 := hW1.keep hy5
      have hx2 := hx1.then (hy5.toW g none) (fun i h => by cases h)
      have hg5 : wr.heap.size ≠ g := by have := hx1.size; omega
      have hr5 : row1 ≠ some wr.heap.size := fun e => by have := (hW1.row _ e).2; omega
      clear h0 h1 h2 h3 h4 h5 h6 h7 hbl hW1 hx1 hy5
      generalize wr.heap.size = g5 at *
      generalize wr.alloc _ = W5 at *
      obtain ⟨c5, f5⟩ := hO5.facts
      have z5 := hO5.lt
      have k0 : _ = some (Value.int .i64 xa) := c5 0
      have k1 : _ = some (Value.int .i64 xb) := c5 1
      have k2 : _ = some (Value.int .i64 xc) := c5 2
      have k3 : _ = some (Value.int .i64 xd) := c5 3
      have hy6 := Ext.new W5 (.cells #[.int .i64 xa, .int .i64 xb, .int .i64 xc, .int .i64 xd] 3)
      have hO6 := Proofs.Ytmbkefgmiehdiaa.Own.new W5 #[.int .i64 xa, .int .i64 xb, .int .i64 xc, .int .i64 xd] 3
      have hW3 := hW2.keep hy6
      have hx3 := hx2.then (hy6.toW g none) (fun i h => by cases h)
      have hO5' := hO5.keep hy6
      have hg6 : W5.heap.size ≠ g := by have := hx2.size; omega
      have hr6 : row1 ≠ some W5.heap.size := fun e => by have := (hW2.row _ e).2; omega
      have hns : ∀ y ∈ [xa, xb, xc, xd], I64 y := by
        intro y hy
        simp at hy
        rcases hy with rfl | rfl | rfl | rfl
        all_goals first | exact hI.1.1 | exact hI.1.2 | exact hI.2.1 | exact hI.2.2
      obtain ⟨ns, hnse⟩ : ∃ ns, ns = [xa, xb, xc, xd] := ⟨_, rfl⟩
      have hlit := fun j hj => lit_int hnse j hj
      rw [← hnse] at hns hex0
      have hnl4 : ns.length = 4 := by rw [hnse]; rfl
      have hnl4' : Hid (ns.length = 4) := hnl4
      replace hns := Lib.hid hns
      replace hlit := Lib.hid hlit
      clear hnse hnl4
      go_upto_block 2 with (fail)
      clear k0 k1 k2 k3 c5 f5 z5 hW2 hx2 hy6 hO5
      generalize W5.heap.size = g6 at *
      generalize W5.alloc _ = W6 at *
      go_cut [] (fun wx => Wto g W6 g row1 (acc ++ encL ns) wx)
      case first =>
        go_wp2_with fail
        go_loopw [33] (fun vi wi => ∃ j : Nat, j ≤ 4 ∧ vi = .int .i64 j ∧ Wto g W6 g row1 (acc ++ encL (ns.take j)) wi) (fun vi _ => 4 - (intOf vi).toNat)
        case atStart => exact ⟨0, by omega, rfl, by simpa [encL] using Wto.rfl' hW3⟩
        case round =>
          obtain ⟨j, hj, rfl, hT⟩ := hrel
          by_cases hlj : j < 4
          · have hjl : j < ns.length := by rw [hnl4'.out]; exact hlj
            have hO := hT.box hW3 hO6 hg6 hr6
            have z6 := hO.lt
            obtain ⟨c6, f6⟩ := hO.facts
            have k6 := (c6 j).trans (hlit.out j hjl)
            have hi := hns.out _ (List.getElem_mem hjl)
            have hsn := Lib.hid (encL_snoc ns j hjl)
            have hel : (encL (ns.take j)).length ≤ 40 := by
              have := encL_len (l := ns.take j) fun x hx => hns.out x (List.mem_of_mem_take hx)
              rw [List.length_take] at this; omega
            generalize (ns[j]'hjl) = y at *
            have hjb : decide (j < 4) = true := decide_eq_true hlj
            have hjb2 : decide ((j : Int) < 4) = true := by simp; omega
            obtain ⟨row2, hWr, hx, hrr⟩ := hT
            replace hrr := Lib.hid hrr
            clear c6 hO
            go_wp2_with fail
            refine (int_c g g row2 _ y _ hi hWr (by simp only [List.length_append]; omega)).mono ?_
            rintro e w2 ⟨rfl, hT2⟩
            have hT3 := Wto.then hx hrr.out hT2
            rw [List.append_assoc, ← hsn.out] at hT3
            clear hT2 hWr hx k6 f6 z6
            go_wp2_with fail
            go_roundw
            case rel => exact ⟨j + 1, by omega, by go_num, hT3⟩
            case measure => simp [intOf]; omega
          · have hjb2 : decide ((j : Int) < 4) = false := by simp; omega
            rw [List.take_of_length_le (by rw [hnl4'.out]; omega)] at hT
            go_wp2_with fail
            go_meet
            case rel => exact hT
      case rest =>
        have hT := hcut
        clear hcut
        have hO5 := hT.box hW3 hO5' hg5 hr5
        have hT2 := Wto.then hx3 hr1.out hT
        clear hW3 hx3 hO5' hO6 hT hg6 hr6
        obtain ⟨c5, f5⟩ := hO5.facts
        have z5 := hO5.lt
        have k4 : _ = some (Value.bool lO) := c5 4
        have k5 : _ = some (Value.bool rO) := c5 5
        have k6 : _ = some (Value.bool lI) := c5 6
        have k7 : _ = some (Value.bool rI) := c5 7
        obtain ⟨row2, hW4, hx4, hr4⟩ := hT2
        replace hr4 := Lib.hid hr4
        have hy8 := Ext.new wc (.cells #[.bool lO, .bool rO, .bool lI, .bool rI] 4)
        have hO8 := Proofs.Ytmbkefgmiehdiaa.Own.new wc #[.bool lO, .bool rO, .bool lI, .bool rI] 4
        have hW5 := hW4.keep hy8
        have hx5 := hx4.then (hy8.toW g none) (fun i h => by cases h)
        have hg8 : wc.heap.size ≠ g := by have := hx4.size; omega
        have hr8 : row2 ≠ some wc.heap.size := fun e => by have := (hW4.row _ e).2; omega
        obtain ⟨bs, hbse⟩ : ∃ bs, bs = [lO, rO, lI, rI] := ⟨_, rfl⟩
        have hlit2 := fun j hj => lit_bool hbse j hj
        rw [← hbse] at hex0
        have hbl4 : Hid (bs.length = 4) := Lib.hid (by rw [hbse]; rfl)
        replace hlit2 := Lib.hid hlit2
        clear hbse
        have hacc2 : Hid (acc ++ encL ns ++ encT bs = pre ++ encXs (l.take (k + 1))) := Lib.hid (by rw [hs.out, hex0.out, ← hacc.out]; simp)
        have hal : (acc ++ encL ns).length ≤ 450040 := by
          have := encL_len hns.out
          rw [hnl4'.out] at this
          simp only [List.length_append]; omega
        generalize acc ++ encL ns = acc2 at *
        go_upto_block 4 with (fail)
        clear k4 k5 k6 k7 c5 f5 z5 hW4 hx4 hy8 hO5
        generalize wc.heap.size = g8 at *
        generalize wc.alloc _ = W8 at *
        go_wp2_with fail
        go_loopw [50] (fun vi wi => ∃ j : Nat, j ≤ 4 ∧ vi = .int .i64 j ∧ Wto g W8 g row2 (acc2 ++ encT (bs.take j)) wi) (fun vi _ => 4 - (intOf vi).toNat)
        case atStart => exact ⟨0, by omega, rfl, by simpa [encT] using Wto.rfl' hW5⟩
        case round =>
          obtain ⟨j, hj, rfl, hT⟩ := hrel
          by_cases hlj : j < 4
          · have hjl : j < bs.length := by rw [hbl4.out]; exact hlj
            have hO := hT.box hW5 hO8 hg8 hr8
            have z6 := hO.lt
            obtain ⟨c6, f6⟩ := hO.facts
            have k6 := (c6 j).trans (hlit2.out j hjl)
            have hsn := Lib.hid (encT_snoc bs j hjl)
            have hel : (encT (bs.take j)).length ≤ 4 := by
              rw [encT, List.length_map, List.length_take]; omega
            generalize (bs[j]'hjl) = y at *
            have hjb : decide (j < 4) = true := decide_eq_true hlj
            have hjb2 : decide ((j : Int) < 4) = true := by simp; omega
            obtain ⟨row3, hWr, hx, hrr⟩ := hT
            replace hrr := Lib.hid hrr
            clear c6 hO
            go_wp2_with fail
            refine (wbool_c g g row3 _ y _ hWr (by simp only [List.length_append]; omega)).mono ?_
            rintro e w2 ⟨rfl, hT2⟩
            have hT3 := Wto.then hx hrr.out hT2
            rw [List.append_assoc, ← hsn.out] at hT3
            clear hT2 hWr hx k6 f6 z6
            go_wp2_with fail
            go_roundw
            case rel => exact ⟨j + 1, by omega, by go_num, hT3⟩
            case measure => simp [intOf]; omega
          · have hjb2 : decide ((j : Int) < 4) = false := by simp; omega
            rw [List.take_of_length_le (by rw [hbl4.out]; omega)] at hT
            have hT2 := Wto.then hx5 hr4.out hT
            rw [hacc2.out] at hT2
            clear hT hW5 hx5 hO8
            go_wp2_with fail
            go_roundw
            case rel => exact ⟨k + 1, by omega, by go_num, hT2⟩
            case measure => simp [intOf]; omega
    · have hja : decide (k < N) = false := by simpa using hlt
      rw [List.take_of_length_le (by rw [hN.out]; omega)] at hT
      have hxl := encXs_len hall.out
      obtain ⟨row1, hW1, hx1, hr1⟩ := hT
      go_wp2_with fail
      refine (done_c g g row1 _ _ hW1 (by rw [hN.out] at hxl; simp only [List.length_append]; omega)).mono ?_
      rintro e w3 ⟨v, rfl, hF, hb3⟩
      obtain ⟨a3, c3, rfl, -⟩ := hF.form
      have hs1 := hex.size
      replace hF := Lib.hid (hF.base hs1)
      generalize (pre ++ encXs l).length = m3 at *
      rw [← hE.out] at hF
      go_wp2_with fail
      go_ret
      exact ⟨_, rfl, hF.out, hex.then hb3⟩
end Go.Proofs.Ytmbkefgmiehdiaa
namespace Go.Proofs.Ytmbkefgmiehdiaa
open Go.RowKit
set_option linter.unusedSimpArgs false
set_option linter.unusedVariables false
theorem MB.drop {w0 w : World} {K : List Chunk} {F : PH} {v : Value} {xs : List UInt8} (h : MB w0 K F v xs w) : MB w0 [] F v xs w := by
  obtain ⟨H, hF, h⟩ := h
  have := h.pick [0] (by simp)
  exact ⟨H, hF, by simpa using this⟩
set_option maxRecDepth 100000 in
set_option maxHeartbeats 4000000 in
theorem renc_c (v : Value) (l : List Itv) (w : World) (hr : ItvsR (ph w) v l) (hlen : l.length ≤ 10000) : Calls Try.prog 39 #[v] w (FreshB w (encA l)) := by
  have hall := Lib.hid hr.all
  obtain ⟨a, c, rfl, hll, hr⟩ := hr.form
  have hn64 : I64 (l.length : Int) := by unfold I64; omega
  have hnl := encI_len hn64
  have hE : Hid (encA l = encI l.length ++ encXs l) := rfl
  generalize hN : l.length = N at *
  replace hN := Lib.hid hN
  go_enter Try.func39, Try.ntmps39
  go_wp2_with fail
  refine (refInt_c (N : Int) _ hn64).mono ?_
  rintro e w1 ⟨v, rfl, ho, hb1⟩
  have hM := ((MB.start w).take hb1 ho).2
  clear ho
  generalize encI (N : Int) = pre at *
  go_wp2_with fail
  go_loopw [3, 4] (fun v i wr => ∃ k : Nat, k ≤ N ∧ i = .int .i64 k ∧ MB w [] noH v (pre ++ encXs (l.take k)) wr) (fun _ i _ => N - (intOf i).toNat)
  case atStart => exact ⟨0, by omega, rfl, by simpa [encXs] using hM⟩
  case round =>
    clear hM hb1
    obtain ⟨k, hk, rfl, hM⟩ := hrel
    rcases (Decidable.em (k < N)).symm with hlt | hlt
    · have hja : decide (k < N) = false := by simpa using hlt
      rw [List.take_of_length_le (by rw [hN.out]; omega), ← hE.out] at hM
      have hf := hM.fresh
      go_wp2_with fail
      go_ret
      exact hf
    · have hkl : k < l.length := by rw [hN.out]; exact hlt
      obtain ⟨b, o, rfl, h0, h1, h2, h3, h4, h5, h6, h7, hbl, hI⟩ := ItvsR.at (hr.mono mono_ItvR hM.ex.ple) k hkl
      have hs := Lib.hid (encXs_snoc l k hkl)
      have hpl : (pre ++ encXs (l.take k)).length ≤ 450000 := by
        have := encXs_len (l := l.take k) fun x hx => hall.out x (List.mem_of_mem_take hx)
        rw [List.length_take] at this
        simp only [List.length_append]; omega
      generalize l[k] = x at *
      obtain ⟨⟨xa, xb⟩, ⟨xc, xd⟩, lO, rO, lI, rI⟩ := x
      dsimp only at *
      have hja : decide (k < N) = true := decide_eq_true hlt
      have hex0 : Hid (encX ⟨⟨xa, xb⟩, ⟨xc, xd⟩, lO, rO, lI, rI⟩ = encL [xa, xb, xc, xd] ++ encT [lO, rO, lI, rI]) := rfl
      generalize hacc : pre ++ encXs (l.take k) = acc at *
      replace hacc := Lib.hid hacc
      have hM5 := hM.box #[.int .i64 xa, .int .i64 xb, .int .i64 xc, .int .i64 xd, .bool lO, .bool rO, .bool lI, .bool rI] 43
      simp only [List.nil_append] at hM5
      go_upto_region 6 with (fail)
      clear h0 h1 h2 h3 h4 h5 h6 h7 hbl hM
      generalize wr.heap.size = g5 at *
      generalize wr.alloc _ = W5 at *
      obtain ⟨c5, f5⟩ := (hM5.own1 0 rfl).facts
      have z5 := (hM5.own1 0 rfl).lt
      have k0 : _ = some (Value.int .i64 xa) := c5 0
      have k1 : _ = some (Value.int .i64 xb) := c5 1
      have k2 : _ = some (Value.int .i64 xc) := c5 2
      have k3 : _ = some (Value.int .i64 xd) := c5 3
      have hM6 := hM5.box #[.int .i64 xa, .int .i64 xb, .int .i64 xc, .int .i64 xd] 3
      simp only [List.cons_append, List.nil_append] at hM6
      have hns : ∀ y ∈ [xa, xb, xc, xd], I64 y := by
        intro y hy
        simp at hy
        rcases hy with rfl | rfl | rfl | rfl
        all_goals first | exact hI.1.1 | exact hI.1.2 | exact hI.2.1 | exact hI.2.2
      obtain ⟨ns, hnse⟩ : ∃ ns, ns = [xa, xb, xc, xd] := ⟨_, rfl⟩
      have hlit := fun j hj => lit_int hnse j hj
      rw [← hnse] at hns hex0
      have hnl4' : Hid (ns.length = 4) := Lib.hid (by rw [hnse]; rfl)
      replace hns := Lib.hid hns
      replace hlit := Lib.hid hlit
      clear hnse
      go_upto_block 2 with (fail)
      clear k0 k1 k2 k3 c5 f5 z5 hM5
      generalize W5.heap.size = g6 at *
      generalize W5.alloc _ = W6 at *
      go_cut [3] (fun v wx => MB w [box g5 #[.int .i64 xa, .int .i64 xb, .int .i64 xc, .int .i64 xd, .bool lO, .bool rO, .bool lI, .bool rI] 43, box g6 #[.int .i64 xa, .int .i64 xb, .int .i64 xc, .int .i64 xd] 3] noH v (acc ++ encL ns) wx)
      case first =>
        go_wp2_with fail
        go_loopw [3, 7] (fun v vi wi => ∃ j : Nat, j ≤ 4 ∧ vi = .int .i64 j ∧ MB w [box g5 #[.int .i64 xa, .int .i64 xb, .int .i64 xc, .int .i64 xd, .bool lO, .bool rO, .bool lI, .bool rI] 43, box g6 #[.int .i64 xa, .int .i64 xb, .int .i64 xc, .int .i64 xd] 3] noH v (acc ++ encL (ns.take j)) wi) (fun _ vi _ => 4 - (intOf vi).toNat)
        case atStart => exact ⟨0, by omega, rfl, by simpa [encL] using hM6⟩
        case round =>
          clear hM6
          obtain ⟨j, hj, rfl, hM⟩ := hrel
          rcases (Decidable.em (j < 4)).symm with hlj | hlj
          · have hjb2 : decide ((j : Int) < 4) = false := by simp; omega
            rw [List.take_of_length_le (by rw [hnl4'.out]; omega)] at hM
            go_wp2_with fail
            go_meet
            case rel => exact hM
          · have hjl : j < ns.length := by rw [hnl4'.out]; exact hlj
            obtain ⟨c6, f6⟩ := (hM.own1 1 rfl).facts
            have z6 := (hM.own1 1 rfl).lt
            have k6 := (c6 j).trans (hlit.out j hjl)
            have hi := hns.out _ (List.getElem_mem hjl)
            have hsn := Lib.hid (encL_snoc ns j hjl)
            have hil := encI_len hi
            have hel : (encL (ns.take j)).length ≤ 40 := by
              have := encL_len (l := ns.take j) fun x hx => hns.out x (List.mem_of_mem_take hx)
              rw [List.length_take] at this; omega
            generalize (ns[j]'hjl) = y at *
            have hjb : decide (j < 4) = true := decide_eq_true hlj
            have hjb2 : decide ((j : Int) < 4) = true := by simp; omega
            obtain ⟨a1, c1, rfl, -⟩ := hM.form
            have hal : (acc ++ encL (ns.take j)).length ≤ 450040 := by simp only [List.length_append]; omega
            generalize hac : acc ++ encL (ns.take j) = ac at *
            replace hac := Lib.hid hac
            clear c6
            go_wp2_with fail
            refine (refInt_c y _ hi).mono ?_
            rintro e w2 ⟨vx, rfl, ho, hb2⟩
            obtain ⟨hM1, hM2⟩ := hM.take hb2 ho
            obtain ⟨a2, c2, rfl, -⟩ := hM2.form
            clear hM hb2 ho k6 f6 z6
            generalize hn2 : (encI y).length = n2 at *
            replace hn2 := Lib.hid hn2
            go_wp2_with (at_builtin; refine wpList_append_B rfl _ _ 58 rfl Try.underlying58 infoByte rfl rfl rfl rfl (hM1.keep (by repeat (first | (with_reducible assumption) | (with_reducible exact Ext.rfl' _) | (with_reducible exact Ext.new _ _) | (with_reducible refine Ext.alloc' ?_ _) | (with_reducible refine Ext.drew' ?_) | (with_reducible refine Ext.drewN' ?_ _) | (with_reducible refine Ext.set' ?_ ?_ _; rotate_left; (focus (first | omega | (simp; done) | (simp; omega)))) | (with_reducible refine Ext.then (b := ?_) ?_ ?_; rotate_left; rotate_left; (with_reducible assumption))))) (hM2.src.keep (by repeat (first | (with_reducible assumption) | (with_reducible exact Ext.rfl' _) | (with_reducible exact Ext.new _ _) | (with_reducible refine Ext.alloc' ?_ _) | (with_reducible refine Ext.drew' ?_) | (with_reducible refine Ext.drewN' ?_ _) | (with_reducible refine Ext.set' ?_ ?_ _; rotate_left; (focus (first | omega | (simp; done) | (simp; omega)))) | (with_reducible refine Ext.then (b := ?_) ?_ ?_; rotate_left; rotate_left; (with_reducible assumption))))) ?c4 ?c5)
            case c4 => rw [hn2.out]; omega
            case c5 =>
              intro l' w3 hM3
              rw [← hac.out, List.append_assoc, ← hsn.out] at hM3
              clear hM1 hM2
              go_wp2_with fail
              go_roundw
              case rel => exact ⟨j + 1, by omega, by go_num, hM3⟩
              case measure => simp [intOf]; omega
      case rest =>
        clear hM6
        have hM := hcut
        clear hcut
        have hacc2 : Hid (acc ++ encL ns ++ [bb lO] ++ [bb rO] ++ [bb lI] ++ [bb rI] = pre ++ encXs (l.take (k + 1))) := Lib.hid (by rw [hs.out, hex0.out, ← hacc.out]; simp [encT])
        have hal : (acc ++ encL ns).length ≤ 450040 := by
          have := encL_len hns.out
          rw [hnl4'.out] at this
          simp only [List.length_append]; omega
        generalize acc ++ encL ns = acc2 at *
        clear hex0 hs hlit hns hnl4' hacc
        obtain ⟨pa0, qa0, rfl, -⟩ := hM.form
        obtain ⟨c5, f5⟩ := (hM.own1 0 rfl).facts
        have z5 := (hM.own1 0 rfl).lt
        have k5 : _ = some (Value.bool lO) := c5 4
        generalize hpl0 : (acc2).length = pl0 at *
        go_wp2_with fail
        refine (rbool_c lO _).mono ?_
        rintro e w20 ⟨vx, rfl, ho, hb2⟩
        obtain ⟨hMa0, hMb0⟩ := hM.take hb2 ho
        obtain ⟨a2, c2, rfl, -⟩ := hMb0.form
        clear hM hb2 ho k5 f5 z5 c5
        rw [List.length_singleton]
        go_wp2_with (at_builtin; refine wpList_append_B rfl _ _ 58 rfl Try.underlying58 infoByte rfl rfl rfl rfl (hMa0.keep (by repeat (first | (with_reducible assumption) | (with_reducible exact Ext.rfl' _) | (with_reducible exact Ext.new _ _) | (with_reducible refine Ext.alloc' ?_ _) | (with_reducible refine Ext.drew' ?_) | (with_reducible refine Ext.drewN' ?_ _) | (with_reducible refine Ext.set' ?_ ?_ _; rotate_left; (focus (first | omega | (simp; done) | (simp; omega)))) | (with_reducible refine Ext.then (b := ?_) ?_ ?_; rotate_left; rotate_left; (with_reducible assumption))))) (hMb0.src.keep (by repeat (first | (with_reducible assumption) | (with_reducible exact Ext.rfl' _) | (with_reducible exact Ext.new _ _) | (with_reducible refine Ext.alloc' ?_ _) | (with_reducible refine Ext.drew' ?_) | (with_reducible refine Ext.drewN' ?_ _) | (with_reducible refine Ext.set' ?_ ?_ _; rotate_left; (focus (first | omega | (simp; done) | (simp; omega)))) | (with_reducible refine Ext.then (b := ?_) ?_ ?_; rotate_left; rotate_left; (with_reducible assumption))))) ?c40 ?c50)
        case c40 => simp; omega
        case c50 =>
        intro l0' w30 hM0
        clear hMa0 hMb0
        have hql0 : (acc2 ++ [bb lO]).length ≤ 450041 := by simp; omega
        generalize hq0 : acc2 ++ [bb lO] = acx0 at *
        obtain ⟨pa1, qa1, rfl, -⟩ := hM0.form
        obtain ⟨c5, f5⟩ := (hM0.own1 0 rfl).facts
        have z5 := (hM0.own1 0 rfl).lt
        have k5 : _ = some (Value.bool rO) := c5 5
        generalize hpl1 : (acx0).length = pl1 at *
        go_wp2_with fail
        refine (rbool_c rO _).mono ?_
        rintro e w21 ⟨vx, rfl, ho, hb2⟩
        obtain ⟨hMa1, hMb1⟩ := hM0.take hb2 ho
        obtain ⟨a2, c2, rfl, -⟩ := hMb1.form
        clear hM0 hb2 ho k5 f5 z5 c5
        rw [List.length_singleton]
        go_wp2_with (at_builtin; refine wpList_append_B rfl _ _ 58 rfl Try.underlying58 infoByte rfl rfl rfl rfl (hMa1.keep (by repeat (first | (with_reducible assumption) | (with_reducible exact Ext.rfl' _) | (with_reducible exact Ext.new _ _) | (with_reducible refine Ext.alloc' ?_ _) | (with_reducible refine Ext.drew' ?_) | (with_reducible refine Ext.drewN' ?_ _) | (with_reducible refine Ext.set' ?_ ?_ _; rotate_left; (focus (first | omega | (simp; done) | (simp; omega)))) | (with_reducible refine Ext.then (b := ?_) ?_ ?_; rotate_left; rotate_left; (with_reducible assumption))))) (hMb1.src.keep (by repeat (first | (with_reducible assumption) | (with_reducible exact Ext.rfl' _) | (with_reducible exact Ext.new _ _) | (with_reducible refine Ext.alloc' ?_ _) | (with_reducible refine Ext.drew' ?_) | (with_reducible refine Ext.drewN' ?_ _) | (with_reducible refine Ext.set' ?_ ?_ _; rotate_left; (focus (first | omega | (simp; done) | (simp; omega)))) | (with_reducible refine Ext.then (b := ?_) ?_ ?_; rotate_left; rotate_left; (with_reducible assumption))))) ?c41 ?c51)
        case c41 => simp; omega
        case c51 =>
        intro l1' w31 hM1
        clear hMa1 hMb1
        have hql1 : (acx0 ++ [bb rO]).length ≤ 450042 := by simp; omega
        generalize hq1 : acx0 ++ [bb rO] = acx1 at *
        obtain ⟨pa2, qa2, rfl, -⟩ := hM1.form
        obtain ⟨c5, f5⟩ := (hM1.own1 0 rfl).facts
        have z5 := (hM1.own1 0 rfl).lt
        have k5 : _ = some (Value.bool lI) := c5 6
        generalize hpl2 : (acx1).length = pl2 at *
        go_wp2_with fail
        refine (rbool_c lI _).mono ?_
        rintro e w22 ⟨vx, rfl, ho, hb2⟩
        obtain ⟨hMa2, hMb2⟩ := hM1.take hb2 ho
        obtain ⟨a2, c2, rfl, -⟩ := hMb2.form
        clear hM1 hb2 ho k5 f5 z5 c5
        rw [List.length_singleton]
        go_wp2_with (at_builtin; refine wpList_append_B rfl _ _ 58 rfl Try.underlying58 infoByte rfl rfl rfl rfl (hMa2.keep (by repeat (first | (with_reducible assumption) | (with_reducible exact Ext.rfl' _) | (with_reducible exact Ext.new _ _) | (with_reducible refine Ext.alloc' ?_ _) | (with_reducible refine Ext.drew' ?_) | (with_reducible refine Ext.drewN' ?_ _) | (with_reducible refine Ext.set' ?_ ?_ _; rotate_left; (focus (first | omega | (simp; done) | (simp; omega)))) | (with_reducible refine Ext.then (b := ?_) ?_ ?_; rotate_left; rotate_left; (with_reducible assumption))))) (hMb2.src.keep (by repeat (first | (with_reducible assumption) | (with_reducible exact Ext.rfl' _) | (with_reducible exact Ext.new _ _) | (with_reducible refine Ext.alloc' ?_ _) | (with_reducible refine Ext.drew' ?_) | (with_reducible refine Ext.drewN' ?_ _) | (with_reducible refine Ext.set' ?_ ?_ _; rotate_left; (focus (first | omega | (simp; done) | (simp; omega)))) | (with_reducible refine Ext.then (b := ?_) ?_ ?_; rotate_left; rotate_left; (with_reducible assumption))))) ?c42 ?c52)
        case c42 => simp; omega
        case c52 =>
        intro l2' w32 hM2
        clear hMa2 hMb2
        have hql2 : (acx1 ++ [bb lI]).length ≤ 450043 := by simp; omega
        generalize hq2 : acx1 ++ [bb lI] = acx2 at *
        obtain ⟨pa3, qa3, rfl, -⟩ := hM2.form
        obtain ⟨c5, f5⟩ := (hM2.own1 0 rfl).facts
        have z5 := (hM2.own1 0 rfl).lt
        have k5 : _ = some (Value.bool rI) := c5 7
        generalize hpl3 : (acx2).length = pl3 at *
        go_wp2_with fail
        refine (rbool_c rI _).mono ?_
        rintro e w23 ⟨vx, rfl, ho, hb2⟩
        obtain ⟨hMa3, hMb3⟩ := hM2.take hb2 ho
        obtain ⟨a2, c2, rfl, -⟩ := hMb3.form
        clear hM2 hb2 ho k5 f5 z5 c5
        rw [List.length_singleton]
        go_wp2_with (at_builtin; refine wpList_append_B rfl _ _ 58 rfl Try.underlying58 infoByte rfl rfl rfl rfl (hMa3.keep (by repeat (first | (with_reducible assumption) | (with_reducible exact Ext.rfl' _) | (with_reducible exact Ext.new _ _) | (with_reducible refine Ext.alloc' ?_ _) | (with_reducible refine Ext.drew' ?_) | (with_reducible refine Ext.drewN' ?_ _) | (with_reducible refine Ext.set' ?_ ?_ _; rotate_left; (focus (first | omega | (simp; done) | (simp; omega)))) | (with_reducible refine Ext.then (b := ?_) ?_ ?_; rotate_left; rotate_left; (with_reducible assumption))))) (hMb3.src.keep (by repeat (first | (with_reducible assumption) | (with_reducible exact Ext.rfl' _) | (with_reducible exact Ext.new _ _) | (with_reducible refine Ext.alloc' ?_ _) | (with_reducible refine Ext.drew' ?_) | (with_reducible refine Ext.drewN' ?_ _) | (with_reducible refine Ext.set' ?_ ?_ _; rotate_left; (focus (first | omega | (simp; done) | (simp; omega)))) | (with_reducible refine Ext.then (b := ?_) ?_ ?_; rotate_left; rotate_left; (with_reducible assumption))))) ?c43 ?c53)
        case c43 => simp; omega
        case c53 =>
        intro l3' w33 hM3
        clear hMa3 hMb3
        have hql3 : (acx2 ++ [bb rI]).length ≤ 450044 := by simp; omega
        generalize hq3 : acx2 ++ [bb rI] = acx3 at *
        have hM9 := hM3.drop
        rw [hacc2.out] at hM9
        clear hM3
        go_wp2_with fail
        go_roundw
        case rel => exact ⟨k + 1, by omega, by go_num, hM9⟩
        case measure => simp [intOf]; omega
end Go.Proofs.Ytmbkefgmiehdiaa
namespace Go.Proofs.Ytmbkefgmiehdiaa
open Go.RowKit
set_option linter.unusedSimpArgs false
set_option linter.unusedVariables false
def ratS (s : RS) : Rat2 × RS := (⟨(intS s).1, (intS (intS s).2).1⟩, (intS (intS s).2).2)
def boolS : RS → Bool × RS
  | some (x :: l) => if x.toNat ≤ 1 then (x.toNat == 1, some l) else (false, none)
  | _ => (false, none)
def itvS (s : RS) : Itv × RS :=
  (⟨(ratS s).1, (ratS (ratS s).2).1, (boolS (ratS (ratS s).2).2).1, (boolS (boolS (ratS (ratS s).2).2).2).1, (boolS (boolS (boolS (ratS (ratS s).2).2).2).2).1, (boolS (boolS (boolS (boolS (ratS (ratS s).2).2).2).2).2).1⟩,
    (boolS (boolS (boolS (boolS (ratS (ratS s).2).2).2).2).2).2)
def itvsS : Nat → RS → List Itv × RS
  | 0, s => ([], s)
  | n + 1, s => ((itvS s).1 :: (itvsS n (itvS s).2).1, (itvsS n (itvS s).2).2)
def many (n : Int) : Nat := (min (max n 0) 33).toNat
def readA (s : RS) : List Itv × RS := itvsS (many (intS s).1) (intS s).2
def decA (xs : List UInt8) : List Itv × Int :=
  if (readA (some xs)).2 = some [] ∧ setE (readA (some xs)).1 = 0 ∧ encA (readA (some xs)).1 = xs then ((readA (some xs)).1, 0) else ([], 2)
theorem itvS_I (s : RS) : (itvS s).1.I := ⟨⟨intS_i64 _, intS_i64 _⟩, ⟨intS_i64 _, intS_i64 _⟩⟩
theorem itvsS_len (n : Nat) : ∀ s, (itvsS n s).1.length = n := by
  induction n with
  | zero => intro s; rfl
  | succ n ih => intro s; simp [itvsS, ih]
theorem itvsS_I (n : Nat) : ∀ s, ∀ x ∈ (itvsS n s).1, x.I := by
  induction n with
  | zero => intro s x hx; cases hx
  | succ n ih =>
    intro s x hx
    rcases List.mem_cons.1 hx with rfl | hx
    · exact itvS_I s
    · exact ih _ x hx
theorem many_le (n : Int) : many n ≤ 33 := by unfold many; omega
theorem readA_len (s : RS) : (readA s).1.length ≤ 33 := by unfold readA; rw [itvsS_len]; exact many_le _
theorem readA_I (s : RS) : ∀ x ∈ (readA s).1, x.I := itvsS_I _ _
theorem boolS_ok (b : Bool) (r : List UInt8) : boolS (some (bb b :: r)) = (b, some r) := by cases b <;> rfl
theorem itvS_ok {x : Itv} (h : x.I) (r : List UInt8) : itvS (some (encX x ++ r)) = (x, some r) := by
  obtain ⟨⟨a, b⟩, ⟨c, d⟩, lO, rO, lI, rI⟩ := x
  have e : encX ⟨⟨a, b⟩, ⟨c, d⟩, lO, rO, lI, rI⟩ ++ r = encI a ++ (encI b ++ (encI c ++ (encI d ++ (bb lO :: bb rO :: bb lI :: bb rI :: r)))) := by
    simp [encX, encL, encT]
  have i1 : intS (some (encI a ++ (encI b ++ (encI c ++ (encI d ++ (bb lO :: bb rO :: bb lI :: bb rI :: r)))))) = (a, some _) := intS_some.2 ⟨rfl, h.1.1⟩
  have i2 : intS (some (encI b ++ (encI c ++ (encI d ++ (bb lO :: bb rO :: bb lI :: bb rI :: r))))) = (b, some _) := intS_some.2 ⟨rfl, h.1.2⟩
  have i3 : intS (some (encI c ++ (encI d ++ (bb lO :: bb rO :: bb lI :: bb rI :: r)))) = (c, some _) := intS_some.2 ⟨rfl, h.2.1⟩
  have i4 : intS (some (encI d ++ (bb lO :: bb rO :: bb lI :: bb rI :: r))) = (d, some _) := intS_some.2 ⟨rfl, h.2.2⟩
  rw [e]
  unfold itvS ratS
  simp only [i1, i2, i3, i4, boolS_ok]
theorem itvsS_ok : ∀ {l : List Itv}, (∀ x ∈ l, x.I) → ∀ r, itvsS l.length (some (encXs l ++ r)) = (l, some r)
  | [], _, r => rfl
  | x :: l, h, r => by
    have h1 := itvS_ok (h x (by simp)) (encXs l ++ r)
    have h2 := itvsS_ok (l := l) (fun y hy => h y (by simp [hy])) r
    have e : encXs (x :: l) ++ r = encX x ++ (encXs l ++ r) := by simp [encXs]
    rw [e, List.length_cons, itvsS, h1, h2]
theorem readA_ok {l : List Itv} (h : ∀ x ∈ l, x.I) (hl : l.length ≤ 33) : readA (some (encA l)) = (l, some []) := by
  have h1 : intS (some (encA l)) = ((l.length : Int), some (encXs l)) := intS_some.2 ⟨rfl, by unfold I64; omega⟩
  unfold readA
  rw [h1]
  have h2 : many (l.length : Int) = l.length := by unfold many; omega
  have h3 := itvsS_ok h []
  rw [List.append_nil] at h3
  dsimp only
  rw [h2, h3]
theorem encXs_pre : ∀ {l m : List Itv}, l.length = m.length → (∀ x ∈ l, x.I) → (∀ x ∈ m, x.I) → encXs l = encXs m → l = m := by
  intro l m hlm hl hm h
  have h1 := itvsS_ok hl []
  have h2 := itvsS_ok hm []
  rw [h, hlm, h2] at h1
  exact (congrArg Prod.fst h1).symm
theorem encA_inj {l m : List Itv} (hl : ∀ x ∈ l, x.I) (hm : ∀ x ∈ m, x.I) (l1 : l.length ≤ 100000) (l2 : m.length ≤ 100000) (h : encA l = encA m) : l = m := by
  unfold encA at h
  obtain ⟨h1, h2⟩ := encI_pre (by unfold I64; omega) (by unfold I64; omega) h
  exact encXs_pre (by omega) hl hm h2
theorem decA_ok {l : List Itv} (h : ∀ x ∈ l, x.I) (hs : setE l = 0) (hl : l.length ≤ 32) : decA (encA l) = (l, 0) := by
  unfold decA
  rw [readA_ok h (by omega)]
  rw [if_pos ⟨rfl, hs, rfl⟩]
theorem decA_bad {l : List Itv} (h : ∀ x ∈ l, x.I) (hs : setE l ≠ 0) (hl : l.length ≤ 100000) : decA (encA l) = ([], 2) := by
  unfold decA
  rw [if_neg]
  rintro ⟨h1, h2, h3⟩
  have := encA_inj (readA_I _) h (Nat.le_trans (readA_len _) (by omega)) hl h3
  rw [this] at h2
  exact hs h2
theorem decA_any (xs : List UInt8) : ((decA xs).2 = 0 ∧ setE (decA xs).1 = 0 ∧ encA (decA xs).1 = xs) ∨ decA xs = ([], 2) := by
  unfold decA
  split
  · rename_i h
    exact .inl ⟨rfl, h.2⟩
  · exact .inr rfl
theorem decA_len (xs : List UInt8) : (decA xs).1.length ≤ 33 := by
  unfold decA
  split
  · exact readA_len _
  · exact Nat.zero_le _
theorem small_bool {s : RS} (h : Small s) : Small (boolS s).2 := by
  intro l hl
  cases s with
  | none => cases hl
  | some t =>
    cases t with
    | nil => cases hl
    | cons x r =>
      have := h _ rfl
      by_cases hx : x.toNat ≤ 1
      · simp only [boolS, if_pos hx, Option.some.injEq] at hl
        subst hl; simp at this; omega
      · simp only [boolS, if_neg hx] at hl
        cases hl
theorem small_itvs (n : Nat) : ∀ {s : RS}, Small s → Small (itvsS n s).2 := by
  induction n with
  | zero => intro s h; exact h
  | succ n ih =>
    intro s h
    exact ih (small_bool (small_bool (small_bool (small_bool (small_int (small_int (small_int (small_int h))))))))
end Go.Proofs.Ytmbkefgmiehdiaa
namespace Go.Proofs.Ytmbkefgmiehdiaa
open Go.RowKit Go.Shelf
set_option linter.unusedSimpArgs false
set_option linter.unusedVariables false
theorem rbl_c {H : PH} (g : Nat) (s : RS) (w : World) (h : Rd H w g s) :
    Calls Try.prog 79 #[.pointer (some ⟨g, 0, none⟩)] w (RdP H w g (.bool (boolS s).1) (boolS s).2) := by
  go_enter Try.func79, Try.ntmps79
  go_wp2_with fail
  refine (next_c g s _ (h.keep (by repeat (first | (with_reducible assumption) | (with_reducible exact Ext.rfl' _) | (with_reducible exact Ext.new _ _) | (with_reducible refine Ext.alloc' ?_ _) | (with_reducible refine Ext.drew' ?_) | (with_reducible refine Ext.drewN' ?_ _) | (with_reducible refine Ext.set' ?_ ?_ _; rotate_left; (focus (first | omega | (simp; done) | (simp; omega)))) | (with_reducible refine Ext.then (b := ?_) ?_ ?_; rotate_left; rotate_left; (with_reducible assumption)))))).mono ?_
  rintro e w1 ⟨rfl, hR1, hX1⟩
  have hb : Hid (boolS s = if (nextS s).1 ≤ 1 then ((nextS s).1 == 1, (nextS s).2) else (false, none)) := by
    show _ = _
    rcases s with _ | _ | ⟨x, l⟩ <;> rfl
  have hlt : (nextS s).1 ≤ 255 := by
    rcases s with _ | _ | ⟨x, l⟩
    · exact Nat.zero_le _
    · exact Nat.zero_le _
    · have := x.toNat_lt; show x.toNat ≤ 255; omega
  generalize (nextS s).1 = n at *
  generalize (nextS s).2 = s1 at *
  by_cases hn : n ≤ 1
  · have hb2 : Hid (boolS s = (n == 1, s1)) := Lib.hid (by rw [hb.out, if_pos hn])
    have hja : decide (1 < n) = false := by simpa using hn
    have hjb : decide ((1 : Int) < (n : Int)) = false := by simp; omega
    go_wp2_with fail
    go_ret
    rw [hb2.out]
    exact ⟨congrArg (fun b => Ending.returned (.bool b)) (show ((n : Int) == 1) = (n == 1) by rw [Bool.eq_iff_iff]; simp; omega), hR1, hX1⟩
  · have hb2 : Hid (boolS s = (false, none)) := Lib.hid (by rw [hb.out, if_neg hn])
    have hja : decide (1 < n) = true := by simp; omega
    have hjb : decide ((1 : Int) < (n : Int)) = true := by simp; omega
    have hne : ((n : Int) == 1) = false := by simp; omega
    go_wp2_with fail
    refine (fail_c g _ 2 _ hR1 (by omega)).mono ?_
    rintro e w2 ⟨⟨v, rfl⟩, hR2, hX2⟩
    go_wp2_with fail
    go_ret
    rw [hb2.out]
    exact ⟨rfl, hR2, hX1.then hX2 (fun i h => by cases h)⟩
set_option maxRecDepth 100000 in
set_option maxHeartbeats 2000000 in
theorem pair_c {HR : PH} (g b : Nat) (s : RS) (w : World) (h : Rd HR w g s) (hO : Own w b #[.pointer (some ⟨g, 0, none⟩)] 61) (hbg : b ≠ g) :
    Calls Try.prog 78 #[.pointer (some ⟨b, 0, none⟩)] w (RdP HR w g (.agg #[.int .i64 (ratS s).1.num, .int .i64 (ratS s).1.den]) (ratS s).2) := by
  have hg := h.lt
  have hHb := h.bound
  have hbl := hO.lt
  obtain ⟨cb, fb⟩ := hO.facts
  have kb : _ = some (Value.pointer (some ⟨g, 0, none⟩)) := cb 0
  clear cb
  have hM := (MemX.start w).step (fun w0 h => h.new #[.int .i64 0, .int .i64 0] 40)
  simp only [List.nil_append] at hM
  have hr : Hid ((ratS s) = (⟨(intS s).1, (intS (intS s).2).1⟩, (intS (intS s).2).2)) := rfl
  rw [hr.out]
  dsimp only
  go_enter Try.func78, Try.ntmps78
  go_upto_region 1 with (fail)
  have hX0 := (Ext.new w (.cells #[.int .i64 0, .int .i64 0] 40)).toW g none
  have hR0 := h.keep (Ext.new w (.cells #[.int .i64 0, .int .i64 0] 40))
  have kb0 := (hX0.cells.1 b 0 hbl hbg).trans kb
  have fb0 := fun o => (hX0.cells.2.1 b o hbl hbg).trans (fb o)
  have hbl0 := Nat.lt_of_lt_of_le hbl hX0.size
  generalize hW : w.alloc _ = W at *
  (refine Ph.wp_region_I 5 (S := rdSys HR [box w.heap.size #[.int .i64 0, .int .i64 0] 40] w.heap.size g W [1, 3] (fun c => match c with | 0 => s | 1 => (intS s).2 | _ => (intS (intS s).2).2)) ?h0 (by kernel_rfl) (by kernel_rfl) (by kernel_rfl) ?_; (case h0 => (exact ⟨hM.step (fun w0 m => m.ext (by repeat (first | (with_reducible assumption) | (with_reducible exact Ext.rfl' _) | (with_reducible exact Ext.new _ _) | (with_reducible refine Ext.alloc' ?_ _) | (with_reducible refine Ext.drew' ?_) | (with_reducible refine Ext.drewN' ?_ _) | (with_reducible refine Ext.set' ?_ ?_ _; rotate_left; (focus (first | omega | (simp; done) | (simp; omega)))) | (with_reducible refine Ext.then (b := ?_) ?_ ?_; rotate_left; rotate_left; (with_reducible assumption))))), hR0.keep (by repeat (first | (with_reducible assumption) | (with_reducible exact Ext.rfl' _) | (with_reducible exact Ext.new _ _) | (with_reducible refine Ext.alloc' ?_ _) | (with_reducible refine Ext.drew' ?_) | (with_reducible refine Ext.drewN' ?_ _) | (with_reducible refine Ext.set' ?_ ?_ _; rotate_left; (focus (first | omega | (simp; done) | (simp; omega)))) | (with_reducible refine Ext.then (b := ?_) ?_ ?_; rotate_left; rotate_left; (with_reducible assumption)))), (Ext.drew' (Ext.rfl' _)).toW g none⟩)); simp only [List.toList_toArray, List.take_succ_cons, List.take_zero, List.drop_succ_cons, List.drop_zero])
  (refine Ph.walkI_is (u := ?_) rfl (by simp) rfl ?_ ?_ (by simp) (by simp [rdSys]); rotate_left; (focus (intro A w' cc hG hA K hK; (simp only [List.map_cons, List.map_nil, knows, Is, Op.operands, Call.operands, List.lookup_cons, List.lookup_nil, Nat.reduceBEq, Bool.false_eq_true, if_false, if_true, Act.eval, Array.getD_eq_getD_getElem?, List.getElem?_toArray, List.getElem?_cons_succ, List.getElem?_cons_zero, Option.getD_some, and_true, true_and, List.append_toArray, List.nil_append, List.cons_append, List.toList_toArray, Array.toList_append, Option.toArray, List.append_nil] at hA); first | (have q1 := (hG.2.2.cells.1 b 0 hbl0 hbg).trans kb0; have q2 := Nat.lt_of_lt_of_le hbl0 hG.2.2.size; go_simp; exact hK _ (by repeat (first | (with_reducible assumption) | (with_reducible exact Ext.rfl' _) | (with_reducible exact Ext.new _ _) | (with_reducible refine Ext.alloc' ?_ _) | (with_reducible refine Ext.drew' ?_) | (with_reducible refine Ext.drewN' ?_ _) | (with_reducible refine Ext.set' ?_ ?_ _; rotate_left; (focus (first | omega | (simp; done) | (simp; omega)))) | (with_reducible refine Ext.then (b := ?_) ?_ ?_; rotate_left; rotate_left; (with_reducible assumption))))) | (go_simp; exact hK _ (by repeat (first | (with_reducible assumption) | (with_reducible exact Ext.rfl' _) | (with_reducible exact Ext.new _ _) | (with_reducible refine Ext.alloc' ?_ _) | (with_reducible refine Ext.drew' ?_) | (with_reducible refine Ext.drewN' ?_ _) | (with_reducible refine Ext.set' ?_ ?_ _; rotate_left; (focus (first | omega | (simp; done) | (simp; omega)))) | (with_reducible refine Ext.then (b := ?_) ?_ ?_; rotate_left; rotate_left; (with_reducible assumption))))))); (try simp only [List.nil_append, List.cons_append]))
  (refine Ph.walkI_chain (u := ?_) 0 rfl rfl (by simp) rfl ?_ ?_; rotate_left; (focus (intro A w' hG hA K hK; (simp only [List.map_cons, List.map_nil, knows, Is, Op.operands, Call.operands, List.lookup_cons, List.lookup_nil, Nat.reduceBEq, Bool.false_eq_true, if_false, if_true, Act.eval, Array.getD_eq_getD_getElem?, List.getElem?_toArray, List.getElem?_cons_succ, List.getElem?_cons_zero, Option.getD_some, and_true, true_and, List.append_toArray, List.nil_append, List.cons_append, List.toList_toArray, Array.toList_append, Option.toArray, List.append_nil] at hA); (go_simp; refine (rint_c g _ _ hG.2.1).mono ?_; rintro e w'' ⟨rfl, hR'', hX''⟩; exact hK _ hX'' ⟨hG.1.reader hX'' hg, hR'', hG.2.2.then hX'' (fun i hi => by cases hi)⟩))); (try simp only [List.nil_append, List.cons_append]))
  (refine Ph.walkI_is (u := ?_) rfl (by simp) rfl ?_ ?_ (by simp) (by simp [rdSys]); rotate_left; (focus (intro A w' cc hG hA K hK; (simp only [List.map_cons, List.map_nil, knows, Is, Op.operands, Call.operands, List.lookup_cons, List.lookup_nil, Nat.reduceBEq, Bool.false_eq_true, if_false, if_true, Act.eval, Array.getD_eq_getD_getElem?, List.getElem?_toArray, List.getElem?_cons_succ, List.getElem?_cons_zero, Option.getD_some, and_true, true_and, List.append_toArray, List.nil_append, List.cons_append, List.toList_toArray, Array.toList_append, Option.toArray, List.append_nil] at hA); first | (have q1 := (hG.2.2.cells.1 b 0 hbl0 hbg).trans kb0; have q2 := Nat.lt_of_lt_of_le hbl0 hG.2.2.size; go_simp; exact hK _ (by repeat (first | (with_reducible assumption) | (with_reducible exact Ext.rfl' _) | (with_reducible exact Ext.new _ _) | (with_reducible refine Ext.alloc' ?_ _) | (with_reducible refine Ext.drew' ?_) | (with_reducible refine Ext.drewN' ?_ _) | (with_reducible refine Ext.set' ?_ ?_ _; rotate_left; (focus (first | omega | (simp; done) | (simp; omega)))) | (with_reducible refine Ext.then (b := ?_) ?_ ?_; rotate_left; rotate_left; (with_reducible assumption))))) | (go_simp; exact hK _ (by repeat (first | (with_reducible assumption) | (with_reducible exact Ext.rfl' _) | (with_reducible exact Ext.new _ _) | (with_reducible refine Ext.alloc' ?_ _) | (with_reducible refine Ext.drew' ?_) | (with_reducible refine Ext.drewN' ?_ _) | (with_reducible refine Ext.set' ?_ ?_ _; rotate_left; (focus (first | omega | (simp; done) | (simp; omega)))) | (with_reducible refine Ext.then (b := ?_) ?_ ?_; rotate_left; rotate_left; (with_reducible assumption))))))); (try simp only [List.nil_append, List.cons_append]))
  (refine Ph.walkI_chain (u := ?_) 1 rfl rfl (by simp) rfl ?_ ?_; rotate_left; (focus (intro A w' hG hA K hK; (simp only [List.map_cons, List.map_nil, knows, Is, Op.operands, Call.operands, List.lookup_cons, List.lookup_nil, Nat.reduceBEq, Bool.false_eq_true, if_false, if_true, Act.eval, Array.getD_eq_getD_getElem?, List.getElem?_toArray, List.getElem?_cons_succ, List.getElem?_cons_zero, Option.getD_some, and_true, true_and, List.append_toArray, List.nil_append, List.cons_append, List.toList_toArray, Array.toList_append, Option.toArray, List.append_nil] at hA); (go_simp; refine (rint_c g _ _ hG.2.1).mono ?_; rintro e w'' ⟨rfl, hR'', hX''⟩; exact hK _ hX'' ⟨hG.1.reader hX'' hg, hR'', hG.2.2.then hX'' (fun i hi => by cases hi)⟩))); (try simp only [List.nil_append, List.cons_append]))
  (refine Ph.walkI_is (u := ?_) rfl (by simp) rfl ?_ ?_ (by simp) (by simp [rdSys]); rotate_left; (focus (intro A w' cc hG hA K hK; (simp only [List.map_cons, List.map_nil, knows, Is, Op.operands, Call.operands, List.lookup_cons, List.lookup_nil, Nat.reduceBEq, Bool.false_eq_true, if_false, if_true, Act.eval, Array.getD_eq_getD_getElem?, List.getElem?_toArray, List.getElem?_cons_succ, List.getElem?_cons_zero, Option.getD_some, and_true, true_and, List.append_toArray, List.nil_append, List.cons_append, List.toList_toArray, Array.toList_append, Option.toArray, List.append_nil] at hA); first | fail | (go_simp; exact hK _ (by repeat (first | (with_reducible assumption) | (with_reducible exact Ext.rfl' _) | (with_reducible exact Ext.new _ _) | (with_reducible refine Ext.alloc' ?_ _) | (with_reducible refine Ext.drew' ?_) | (with_reducible refine Ext.drewN' ?_ _) | (with_reducible refine Ext.set' ?_ ?_ _; rotate_left; (focus (first | omega | (simp; done) | (simp; omega)))) | (with_reducible refine Ext.then (b := ?_) ?_ ?_; rotate_left; rotate_left; (with_reducible assumption))))))); (try simp only [List.nil_append, List.cons_append]))
  (refine Ph.walkI_nil ?_; simp only [List.nil_append, List.cons_append, fins, Is, forall_eq, Act.put, List.setIfInBounds_toArray, List.set_cons_zero, List.set_cons_succ])
  rintro w3 ⟨⟨w0, hw0, hMm⟩, hR3, hX3⟩
  have hM4 := (hMm.set 0 rfl 0 (.int .i64 (intS s).1)).set 0 rfl 1 (.int .i64 (intS (intS s).2).1)
  have hO1 := hMm.box 0 rfl
  obtain ⟨c1, f1⟩ := hO1.facts
  have z1 := hO1.lt
  have hR4 := hMm.rd hM4 hR3 (fun k o h => by rw [hw0]; exact hHb k o h) (by omega)
  have hX4 := hMm.xw hM4 (hX0.then hX3 (fun i h => by cases h)) hw0
  have hO4 := hM4.box 0 rfl
  clear hM hMm hR3 hX3
  have hc0 := hO4.facts.1 0
  have hc1 := hO4.facts.1 1
  simp at hc0 hc1
  go_wp2_with fail
  refine bodyPost_ret (v := .agg #[.int .i64 (intS s).1, .int .i64 (intS (intS s).2).1]) (by simp [results, Try.results78, go_sem, hc0, hc1]) rfl ⟨rfl, hR4, hX4⟩
theorem baOf_list (l : List UInt8) : (baOf l).toList = l := by rw [ByteArray.toList_eq]; rfl
theorem many_min (n : Int) : min (max n 0) 33 = (many n : Int) := by unfold many; omega
set_option maxRecDepth 100000 in
set_option maxHeartbeats 8000000 in
theorem decode_c (vs : Value) (xs : List UInt8) (w : World) (hs : BytesR (ph w) vs xs) (hlen : xs.length ≤ 100000000) :
    Calls Try.prog 37 #[vs] w (SetRes w (decA xs)) := by
  have hD : Hid (decA xs = if (readA (some xs)).2 = some [] ∧ setE (readA (some xs)).1 = 0 ∧ encA (readA (some xs)).1 = xs then ((readA (some xs)).1, 0) else ([], 2)) := rfl
  have hRA : Hid (readA (some xs) = itvsS (many (intS (some xs)).1) (intS (some xs)).2) := rfl
  have hsm : Small (some xs) := fun l h => by cases h; omega
  have hsm1 := small_int hsm
  have hm33 := many_le (intS (some xs)).1
  have hmm := many_min (intS (some xs)).1
  have hlen' : xs.length ≤ 2000000000 := by omega
  have hs0 := hs
  obtain ⟨a, c, rfl, -, hs⟩ := hs.form
  go_enter Try.func37, Try.ntmps37
  go_wp2_with fail
  refine (rread_c _ xs _ hs0 hlen').mono ?_
  rintro e w1 ⟨HR, g, rfl, hge, hR, hx1⟩
  have hb1 := Ext.new w1 (.cells #[.pointer (some ⟨g, 0, none⟩)] 61)
  have hO4 := Proofs.Ytmbkefgmiehdiaa.Own.new w1 #[.pointer (some ⟨g, 0, none⟩)] 61
  have hg1 := hR.lt
  have hbd1 := hR.bound
  have hR1 := hR.keep hb1
  have hsz : (w1.alloc (.cells #[.pointer (some ⟨g, 0, none⟩)] 61)).heap.size = w1.heap.size + 1 := by simp
  have hxW := hx1.then hb1
  go_upto_region 2 with (fail)
  have hbg : w1.heap.size ≠ g := by omega
  generalize w1.heap.size = b4 at *
  generalize w1.alloc _ = W at *
  have hgW : g < W.heap.size := by omega
  have hbW : b4 < W.heap.size := by omega
  have hbd : ∀ k o, HR k = some o → k < W.heap.size := fun k o h => by have := hbd1 k o h; omega
  have hM0 := (MemX.start W).step (fun w0 h => h.nil mono_ItvR 8 43)
  simp only [List.nil_append] at hM0
  obtain ⟨c4, f4⟩ := hO4.facts
  have k4 : _ = some (Value.pointer (some ⟨g, 0, none⟩)) := c4 0
  clear c4 hR hx1 hb1 hg1 hbd1 hsz hs
  replace hsm1 := Lib.hid hsm1
  replace hbd := Lib.hid hbd
  go_wp2_with fail
  refine (rint_c g _ _ hR1).mono ?_
  rintro e w2 ⟨rfl, hR2, hX2⟩
  have hM2 := hM0.reader hX2 hgW
  clear hM0 hR1
  generalize (intS (some xs)).1 = y at *
  generalize (intS (some xs)).2 = s1 at *
  generalize many y = m at *
  go_wp2_with fail
  go_loopw [6, 14] (fun vo vi wr => ∃ (j : Nat) (vs : List Itv) (s' : RS), j ≤ m ∧ vi = .int .i64 j ∧ vs.length = j ∧ MemX W.heap.size [own mono_ItvR 8 43 vo vs] noH wr ∧ Rd HR wr g s' ∧ ExtW W wr g none ∧ Hid (itvsS m s1 = (vs ++ (itvsS (m - j) s').1, (itvsS (m - j) s').2))) (fun _ vi _ => m - (intOf vi).toNat)
  case atStart => exact ⟨0, [], s1, by omega, rfl, rfl, hM2, hR2, hX2, Lib.hid (by simp)⟩
  case round =>
    clear hM2 hR2 hX2 k4 f4
    obtain ⟨j, vs, s', hjm, rfl, rfl, hM, hRj, hX, heq⟩ := hrel
    obtain ⟨w0, hw0, hMm⟩ := hM
    obtain ⟨a2, c2, rfl, hl2⟩ := hMm.form 0 rfl
    have hM : MemX W.heap.size [own mono_ItvR 8 43 (.slice a2 vs.length c2) vs] noH wr := ⟨w0, hw0, hMm⟩
    clear hMm hw0
    have hOr := hO4.keepW hX hbg (by simp)
    obtain ⟨cr, fr⟩ := hOr.facts
    have kr : _ = some (Value.pointer (some ⟨g, 0, none⟩)) := cr 0
    have hbr := hOr.lt
    clear cr
    rcases (Decidable.em (vs.length < m)).symm with hlt | hlt
    · have hja : decide (vs.length < m) = false := by simpa using hlt
      obtain rfl : m = vs.length := by omega
      rw [Nat.sub_self] at heq
      have heq2 : itvsS vs.length s1 = (vs, s') := by rw [heq.out]; simp [itvsS]
      have hsm2 := small_itvs vs.length hsm1.out
      rw [heq2] at hsm2
      have hRA2 : Hid (readA (some xs) = (vs, s')) := Lib.hid (hRA.out.trans heq2)
      have hl33 : vs.length ≤ 33 := hm33
      obtain ⟨w0, hw0, hMm⟩ := hM
      have hrep := hMm.rep 0 rfl
      have hxw : Ext w wr := hX.toExt hxW hge (fun i hi => by cases hi)
      have hsw := hs0.mono mono_ByteR hxw.ple
      have hRe := Lib.hid (fun w' (hx : Ext wr w') => rend_c g s' w' (hRj.keep hx) hsm2)
      have hVa := Lib.hid (fun w' (hx : Ext wr w') => valid_c _ vs w' (hrep.mono mono_ItvR hx.ple))
      have hEn := Lib.hid (fun w' (hx : Ext wr w') => enc_c _ vs w' (hrep.mono mono_ItvR hx.ple) (by omega))
      have hcx := Lib.hid (fun w' (hx : Ext wr w') => conv_bytes (hsw.mono mono_ByteR hx.ple))
      have hrep' := Lib.hid hrep
      rw [hRA2.out] at hD
      clear hMm hRA hRA2 heq heq2 hsm hsm1 hsm2 hRj hOr hX hrep hsw hs0
      generalize hvl : vs.length = vn at *
      generalize hxl : xs.length = xn at *
      replace hvl := Lib.hid hvl
      replace hxl := Lib.hid hxl
      go_upto_region 8 with (fail)
      by_cases hs' : s' = some []
      · by_cases hv : setE vs = 0
        · by_cases he : encA vs = xs
          · have hD2 : Hid (decA xs = (vs, 0)) := Lib.hid (by rw [hD.out, if_pos ⟨hs', hv, he⟩])
            (refine wp_region_I 16 (by kernel_rfl) (by kernel_rfl) ?_; simp only [List.toList_toArray, List.take_succ_cons, List.take_zero, List.drop_succ_cons, List.drop_zero])
            (refine walkI_is (u := ?_) rfl (by simp) rfl ?_ ?_; rotate_left; (focus (intro A w' hS hA K hK; (simp only [List.map_cons, List.map_nil, knows, Is, Op.operands, Call.operands, List.lookup_cons, List.lookup_nil, Nat.reduceBEq, Bool.false_eq_true, if_false, if_true, Act.eval, Array.getD_eq_getD_getElem?, List.getElem?_toArray, List.getElem?_cons_succ, List.getElem?_cons_zero, Option.getD_some, and_true, true_and, List.append_toArray, List.nil_append, List.cons_append, List.toList_toArray, Array.toList_append, Option.toArray, List.append_nil] at hA); first | (obtain ⟨hSc, hSf, hSs⟩ := hS.cells; go_simp; exact hK _ (Ext.rfl' _)) | (obtain ⟨hSc, hSf, hSs⟩ := hS.cells; go_simp; exact hK _ (by first | exact Ext.rfl' _ | exact Ext.new _ _ | assumption)))); (try simp only [List.nil_append, List.cons_append]))
            (refine walkI_is (u := ?_) rfl (by simp) rfl ?_ ?_; rotate_left; (focus (intro A w' hS hA K hK; (simp only [List.map_cons, List.map_nil, knows, Is, Op.operands, Call.operands, List.lookup_cons, List.lookup_nil, Nat.reduceBEq, Bool.false_eq_true, if_false, if_true, Act.eval, Array.getD_eq_getD_getElem?, List.getElem?_toArray, List.getElem?_cons_succ, List.getElem?_cons_zero, Option.getD_some, and_true, true_and, List.append_toArray, List.nil_append, List.cons_append, List.toList_toArray, Array.toList_append, Option.toArray, List.append_nil] at hA); first | (go_simp; refine (hRe.out w' hS).mono ?_; rintro e w5 ⟨n, rfl, hn, hx⟩; obtain rfl := hn.2 hs'; exact hK _ hx) | (obtain ⟨hSc, hSf, hSs⟩ := hS.cells; go_simp; exact hK _ (by first | exact Ext.rfl' _ | exact Ext.new _ _ | assumption)))); (try simp only [List.nil_append, List.cons_append]))
            (refine walkI_is (u := ?_) rfl (by simp) rfl ?_ ?_; rotate_left; (focus (intro A w' hS hA K hK; (simp only [List.map_cons, List.map_nil, knows, Is, Op.operands, Call.operands, List.lookup_cons, List.lookup_nil, Nat.reduceBEq, Bool.false_eq_true, if_false, if_true, Act.eval, Array.getD_eq_getD_getElem?, List.getElem?_toArray, List.getElem?_cons_succ, List.getElem?_cons_zero, Option.getD_some, and_true, true_and, List.append_toArray, List.nil_append, List.cons_append, List.toList_toArray, Array.toList_append, Option.toArray, List.append_nil] at hA); first | fail | (obtain ⟨hSc, hSf, hSs⟩ := hS.cells; go_simp; exact hK _ (by first | exact Ext.rfl' _ | exact Ext.new _ _ | assumption)))); (try simp only [List.nil_append, List.cons_append]))
            (refine walkI_is (u := ?_) rfl (by simp) rfl ?_ ?_; rotate_left; (focus (intro A w' hS hA K hK; (simp only [List.map_cons, List.map_nil, knows, Is, Op.operands, Call.operands, List.lookup_cons, List.lookup_nil, Nat.reduceBEq, Bool.false_eq_true, if_false, if_true, Act.eval, Array.getD_eq_getD_getElem?, List.getElem?_toArray, List.getElem?_cons_succ, List.getElem?_cons_zero, Option.getD_some, and_true, true_and, List.append_toArray, List.nil_append, List.cons_append, List.toList_toArray, Array.toList_append, Option.toArray, List.append_nil] at hA); first | fail | (obtain ⟨hSc, hSf, hSs⟩ := hS.cells; go_simp; exact hK _ (by first | exact Ext.rfl' _ | exact Ext.new _ _ | assumption)))); (try simp only [List.nil_append, List.cons_append]))
            (refine walkI_yesis (u := ?_) rfl (by simp) rfl rfl rfl ?_ ?_; rotate_left; (focus (intro A w' hS hA K hK; (simp only [List.map_cons, List.map_nil, knows, Is, Op.operands, Call.operands, List.lookup_cons, List.lookup_nil, Nat.reduceBEq, Bool.false_eq_true, if_false, if_true, Act.eval, Array.getD_eq_getD_getElem?, List.getElem?_toArray, List.getElem?_cons_succ, List.getElem?_cons_zero, Option.getD_some, and_true, true_and, List.append_toArray, List.nil_append, List.cons_append, List.toList_toArray, Array.toList_append, Option.toArray, List.append_nil] at hA); first | fail | (obtain ⟨hSc, hSf, hSs⟩ := hS.cells; go_simp; exact hK _ (by first | exact Ext.rfl' _ | exact Ext.new _ _ | assumption)))); (try simp only [List.nil_append, List.cons_append]))
            (refine walkI_yesis (u := ?_) rfl (by simp) rfl rfl rfl ?_ ?_; rotate_left; (focus (intro A w' hS hA K hK; (simp only [List.map_cons, List.map_nil, knows, Is, Op.operands, Call.operands, List.lookup_cons, List.lookup_nil, Nat.reduceBEq, Bool.false_eq_true, if_false, if_true, Act.eval, Array.getD_eq_getD_getElem?, List.getElem?_toArray, List.getElem?_cons_succ, List.getElem?_cons_zero, Option.getD_some, and_true, true_and, List.append_toArray, List.nil_append, List.cons_append, List.toList_toArray, Array.toList_append, Option.toArray, List.append_nil] at hA); first | (go_simp; refine RetV_at (hVa.out w' hS) ?_; intro w5 hx; exact hK _ hx) | (obtain ⟨hSc, hSf, hSs⟩ := hS.cells; go_simp; exact hK _ (by first | exact Ext.rfl' _ | exact Ext.new _ _ | assumption)))); (try simp only [List.nil_append, List.cons_append]))
            (refine walkI_yesis (u := ?_) rfl (by simp) rfl rfl rfl ?_ ?_; rotate_left; (focus (intro A w' hS hA K hK; (simp only [List.map_cons, List.map_nil, knows, Is, Op.operands, Call.operands, List.lookup_cons, List.lookup_nil, Nat.reduceBEq, Bool.false_eq_true, if_false, if_true, Act.eval, Array.getD_eq_getD_getElem?, List.getElem?_toArray, List.getElem?_cons_succ, List.getElem?_cons_zero, Option.getD_some, and_true, true_and, List.append_toArray, List.nil_append, List.cons_append, List.toList_toArray, Array.toList_append, Option.toArray, List.append_nil] at hA); first | fail | (obtain ⟨hSc, hSf, hSs⟩ := hS.cells; go_simp; exact hK _ (by first | exact Ext.rfl' _ | exact Ext.new _ _ | assumption)))); (try simp only [List.nil_append, List.cons_append]))
            (refine walkI_is (u := ?_) rfl (by simp) rfl ?_ ?_; rotate_left; (focus (intro A w' hS hA K hK; (simp only [List.map_cons, List.map_nil, knows, Is, Op.operands, Call.operands, List.lookup_cons, List.lookup_nil, Nat.reduceBEq, Bool.false_eq_true, if_false, if_true, Act.eval, Array.getD_eq_getD_getElem?, List.getElem?_toArray, List.getElem?_cons_succ, List.getElem?_cons_zero, Option.getD_some, and_true, true_and, List.append_toArray, List.nil_append, List.cons_append, List.toList_toArray, Array.toList_append, Option.toArray, List.append_nil] at hA); first | fail | (obtain ⟨hSc, hSf, hSs⟩ := hS.cells; go_simp; exact hK _ (by first | exact Ext.rfl' _ | exact Ext.new _ _ | assumption)))); (try simp only [List.nil_append, List.cons_append]))
            (refine walkI_is (u := ?_) rfl (by simp) rfl ?_ ?_; rotate_left; (focus (intro A w' hS hA K hK; (simp only [List.map_cons, List.map_nil, knows, Is, Op.operands, Call.operands, List.lookup_cons, List.lookup_nil, Nat.reduceBEq, Bool.false_eq_true, if_false, if_true, Act.eval, Array.getD_eq_getD_getElem?, List.getElem?_toArray, List.getElem?_cons_succ, List.getElem?_cons_zero, Option.getD_some, and_true, true_and, List.append_toArray, List.nil_append, List.cons_append, List.toList_toArray, Array.toList_append, Option.toArray, List.append_nil] at hA); first | fail | (obtain ⟨hSc, hSf, hSs⟩ := hS.cells; go_simp; exact hK _ (by first | exact Ext.rfl' _ | exact Ext.new _ _ | assumption)))); (try simp only [List.nil_append, List.cons_append]))
            (refine walkI_yesis (u := ?_) rfl (by simp) rfl rfl rfl ?_ ?_; rotate_left; (focus (intro A w' hS hA K hK; (simp only [List.map_cons, List.map_nil, knows, Is, Op.operands, Call.operands, List.lookup_cons, List.lookup_nil, Nat.reduceBEq, Bool.false_eq_true, if_false, if_true, Act.eval, Array.getD_eq_getD_getElem?, List.getElem?_toArray, List.getElem?_cons_succ, List.getElem?_cons_zero, Option.getD_some, and_true, true_and, List.append_toArray, List.nil_append, List.cons_append, List.toList_toArray, Array.toList_append, Option.toArray, List.append_nil] at hA); first | fail | (obtain ⟨hSc, hSf, hSs⟩ := hS.cells; go_simp; exact hK _ (by first | exact Ext.rfl' _ | exact Ext.new _ _ | assumption)))); (try simp only [List.nil_append, List.cons_append]))
            (refine walkI_yes ((fun v w' => BytesR (ph w') v (encA vs))) rfl (by simp) rfl rfl rfl ((fun v w w' _ h e => h.mono mono_ByteR e.ple)) ?_ ?_; (focus (intro A w' hS hA K hK; (simp only [List.map_cons, List.map_nil, knows, Is, Op.operands, Call.operands, List.lookup_cons, List.lookup_nil, Nat.reduceBEq, Bool.false_eq_true, if_false, if_true, Act.eval, Array.getD_eq_getD_getElem?, List.getElem?_toArray, List.getElem?_cons_succ, List.getElem?_cons_zero, Option.getD_some, and_true, true_and, List.append_toArray, List.nil_append, List.cons_append, List.toList_toArray, Array.toList_append, Option.toArray, List.append_nil] at hA); (go_simp; refine (hEn.out w' hS).mono ?_; rintro e w5 ⟨v, rfl, ho, hx⟩; exact hK _ _ hx (ho.rep mono_ByteR (noH_le _))))); (try simp only [List.nil_append, List.cons_append]))
            (refine walkI_yesis (u := ?_) rfl (by simp) rfl rfl rfl ?_ ?_; rotate_left; (focus (intro A w' hS hA K hK; (simp only [List.map_cons, List.map_nil, knows, Is, Op.operands, Call.operands, List.lookup_cons, List.lookup_nil, Nat.reduceBEq, Bool.false_eq_true, if_false, if_true, Act.eval, Array.getD_eq_getD_getElem?, List.getElem?_toArray, List.getElem?_cons_succ, List.getElem?_cons_zero, Option.getD_some, and_true, true_and, List.append_toArray, List.nil_append, List.cons_append, List.toList_toArray, Array.toList_append, Option.toArray, List.append_nil] at hA); first | (have hcv := conv_bytes hA; go_simp; exact hK _ (Ext.rfl' _)) | (obtain ⟨hSc, hSf, hSs⟩ := hS.cells; go_simp; exact hK _ (by first | exact Ext.rfl' _ | exact Ext.new _ _ | assumption)))); (try simp only [List.nil_append, List.cons_append]))
            (refine walkI_yesis (u := ?_) rfl (by simp) rfl rfl rfl ?_ ?_; rotate_left; (focus (intro A w' hS hA K hK; (simp only [List.map_cons, List.map_nil, knows, Is, Op.operands, Call.operands, List.lookup_cons, List.lookup_nil, Nat.reduceBEq, Bool.false_eq_true, if_false, if_true, Act.eval, Array.getD_eq_getD_getElem?, List.getElem?_toArray, List.getElem?_cons_succ, List.getElem?_cons_zero, Option.getD_some, and_true, true_and, List.append_toArray, List.nil_append, List.cons_append, List.toList_toArray, Array.toList_append, Option.toArray, List.append_nil] at hA); first | fail | (obtain ⟨hSc, hSf, hSs⟩ := hS.cells; go_simp; exact hK _ (by first | exact Ext.rfl' _ | exact Ext.new _ _ | assumption)))); (try simp only [List.nil_append, List.cons_append]))
            (refine walkI_yesis (u := ?_) rfl (by simp) rfl rfl rfl ?_ ?_; rotate_left; (focus (intro A w' hS hA K hK; (simp only [List.map_cons, List.map_nil, knows, Is, Op.operands, Call.operands, List.lookup_cons, List.lookup_nil, Nat.reduceBEq, Bool.false_eq_true, if_false, if_true, Act.eval, Array.getD_eq_getD_getElem?, List.getElem?_toArray, List.getElem?_cons_succ, List.getElem?_cons_zero, Option.getD_some, and_true, true_and, List.append_toArray, List.nil_append, List.cons_append, List.toList_toArray, Array.toList_append, Option.toArray, List.append_nil] at hA); first | (have hcv := hcx.out w' hS; go_simp; exact hK _ (Ext.rfl' _)) | (obtain ⟨hSc, hSf, hSs⟩ := hS.cells; go_simp; exact hK _ (by first | exact Ext.rfl' _ | exact Ext.new _ _ | assumption)))); (try simp only [List.nil_append, List.cons_append]))
            (refine walkI_yesis (u := ?_) rfl (by simp) rfl rfl rfl ?_ ?_; rotate_left; (focus (intro A w' hS hA K hK; (simp only [List.map_cons, List.map_nil, knows, Is, Op.operands, Call.operands, List.lookup_cons, List.lookup_nil, Nat.reduceBEq, Bool.false_eq_true, if_false, if_true, Act.eval, Array.getD_eq_getD_getElem?, List.getElem?_toArray, List.getElem?_cons_succ, List.getElem?_cons_zero, Option.getD_some, and_true, true_and, List.append_toArray, List.nil_append, List.cons_append, List.toList_toArray, Array.toList_append, Option.toArray, List.append_nil] at hA); first | fail | (obtain ⟨hSc, hSf, hSs⟩ := hS.cells; go_simp; exact hK _ (by first | exact Ext.rfl' _ | exact Ext.new _ _ | assumption)))); (try simp only [List.nil_append, List.cons_append]))
            (refine walkI_is (u := ?_) rfl (by simp) rfl ?_ ?_; rotate_left; (focus (intro A w' hS hA K hK; (simp only [List.map_cons, List.map_nil, knows, Is, Op.operands, Call.operands, List.lookup_cons, List.lookup_nil, Nat.reduceBEq, Bool.false_eq_true, if_false, if_true, Act.eval, Array.getD_eq_getD_getElem?, List.getElem?_toArray, List.getElem?_cons_succ, List.getElem?_cons_zero, Option.getD_some, and_true, true_and, List.append_toArray, List.nil_append, List.cons_append, List.toList_toArray, Array.toList_append, Option.toArray, List.append_nil] at hA); first | fail | (obtain ⟨hSc, hSf, hSs⟩ := hS.cells; go_simp; exact hK _ (by first | exact Ext.rfl' _ | exact Ext.new _ _ | assumption)))); (try simp only [List.nil_append, List.cons_append]))
            (refine walkI_nil ?_; simp only [List.nil_append, List.cons_append, fins, Is, forall_eq, Act.put, List.setIfInBounds_toArray, List.set_cons_zero, List.set_cons_succ])
            rintro w5 hx5 v9 -
            have hr9 := hrep'.out.mono mono_ItvR hx5.ple
            go_wp2_with fail
            rw [hD2.out]
            exact bodyPost_ret (v := .tuple #[.slice a2 vn c2, .int .i64 0]) (by simp [results, Try.results37, go_sem]) rfl ⟨_, rfl, hxw.then hx5, hr9⟩
          · have hD2 : Hid (decA xs = ([], 2)) := Lib.hid (by rw [hD.out, if_neg (fun h => he h.2.2)])
            have hq : ((baOf (encA vs)).toList == (baOf xs).toList) = false := by rw [baOf_list, baOf_list]; simpa using he
            replace he := Lib.hid he
            (refine wp_region_I 16 (by kernel_rfl) (by kernel_rfl) ?_; simp only [List.toList_toArray, List.take_succ_cons, List.take_zero, List.drop_succ_cons, List.drop_zero])
            (refine walkI_is (u := ?_) rfl (by simp) rfl ?_ ?_; rotate_left; (focus (intro A w' hS hA K hK; (simp only [List.map_cons, List.map_nil, knows, Is, Op.operands, Call.operands, List.lookup_cons, List.lookup_nil, Nat.reduceBEq, Bool.false_eq_true, if_false, if_true, Act.eval, Array.getD_eq_getD_getElem?, List.getElem?_toArray, List.getElem?_cons_succ, List.getElem?_cons_zero, Option.getD_some, and_true, true_and, List.append_toArray, List.nil_append, List.cons_append, List.toList_toArray, Array.toList_append, Option.toArray, List.append_nil] at hA); first | (obtain ⟨hSc, hSf, hSs⟩ := hS.cells; go_simp; exact hK _ (Ext.rfl' _)) | (obtain ⟨hSc, hSf, hSs⟩ := hS.cells; go_simp; exact hK _ (by first | exact Ext.rfl' _ | exact Ext.new _ _ | assumption)))); (try simp only [List.nil_append, List.cons_append]))
            (refine walkI_is (u := ?_) rfl (by simp) rfl ?_ ?_; rotate_left; (focus (intro A w' hS hA K hK; (simp only [List.map_cons, List.map_nil, knows, Is, Op.operands, Call.operands, List.lookup_cons, List.lookup_nil, Nat.reduceBEq, Bool.false_eq_true, if_false, if_true, Act.eval, Array.getD_eq_getD_getElem?, List.getElem?_toArray, List.getElem?_cons_succ, List.getElem?_cons_zero, Option.getD_some, and_true, true_and, List.append_toArray, List.nil_append, List.cons_append, List.toList_toArray, Array.toList_append, Option.toArray, List.append_nil] at hA); first | (go_simp; refine (hRe.out w' hS).mono ?_; rintro e w5 ⟨n, rfl, hn, hx⟩; obtain rfl := hn.2 hs'; exact hK _ hx) | (obtain ⟨hSc, hSf, hSs⟩ := hS.cells; go_simp; exact hK _ (by first | exact Ext.rfl' _ | exact Ext.new _ _ | assumption)))); (try simp only [List.nil_append, List.cons_append]))
            (refine walkI_is (u := ?_) rfl (by simp) rfl ?_ ?_; rotate_left; (focus (intro A w' hS hA K hK; (simp only [List.map_cons, List.map_nil, knows, Is, Op.operands, Call.operands, List.lookup_cons, List.lookup_nil, Nat.reduceBEq, Bool.false_eq_true, if_false, if_true, Act.eval, Array.getD_eq_getD_getElem?, List.getElem?_toArray, List.getElem?_cons_succ, List.getElem?_cons_zero, Option.getD_some, and_true, true_and, List.append_toArray, List.nil_append, List.cons_append, List.toList_toArray, Array.toList_append, Option.toArray, List.append_nil] at hA); first | fail | (obtain ⟨hSc, hSf, hSs⟩ := hS.cells; go_simp; exact hK _ (by first | exact Ext.rfl' _ | exact Ext.new _ _ | assumption)))); (try simp only [List.nil_append, List.cons_append]))
            (refine walkI_is (u := ?_) rfl (by simp) rfl ?_ ?_; rotate_left; (focus (intro A w' hS hA K hK; (simp only [List.map_cons, List.map_nil, knows, Is, Op.operands, Call.operands, List.lookup_cons, List.lookup_nil, Nat.reduceBEq, Bool.false_eq_true, if_false, if_true, Act.eval, Array.getD_eq_getD_getElem?, List.getElem?_toArray, List.getElem?_cons_succ, List.getElem?_cons_zero, Option.getD_some, and_true, true_and, List.append_toArray, List.nil_append, List.cons_append, List.toList_toArray, Array.toList_append, Option.toArray, List.append_nil] at hA); first | fail | (obtain ⟨hSc, hSf, hSs⟩ := hS.cells; go_simp; exact hK _ (by first | exact Ext.rfl' _ | exact Ext.new _ _ | assumption)))); (try simp only [List.nil_append, List.cons_append]))
            (refine walkI_yesis (u := ?_) rfl (by simp) rfl rfl rfl ?_ ?_; rotate_left; (focus (intro A w' hS hA K hK; (simp only [List.map_cons, List.map_nil, knows, Is, Op.operands, Call.operands, List.lookup_cons, List.lookup_nil, Nat.reduceBEq, Bool.false_eq_true, if_false, if_true, Act.eval, Array.getD_eq_getD_getElem?, List.getElem?_toArray, List.getElem?_cons_succ, List.getElem?_cons_zero, Option.getD_some, and_true, true_and, List.append_toArray, List.nil_append, List.cons_append, List.toList_toArray, Array.toList_append, Option.toArray, List.append_nil] at hA); first | fail | (obtain ⟨hSc, hSf, hSs⟩ := hS.cells; go_simp; exact hK _ (by first | exact Ext.rfl' _ | exact Ext.new _ _ | assumption)))); (try simp only [List.nil_append, List.cons_append]))
            (refine walkI_yesis (u := ?_) rfl (by simp) rfl rfl rfl ?_ ?_; rotate_left; (focus (intro A w' hS hA K hK; (simp only [List.map_cons, List.map_nil, knows, Is, Op.operands, Call.operands, List.lookup_cons, List.lookup_nil, Nat.reduceBEq, Bool.false_eq_true, if_false, if_true, Act.eval, Array.getD_eq_getD_getElem?, List.getElem?_toArray, List.getElem?_cons_succ, List.getElem?_cons_zero, Option.getD_some, and_true, true_and, List.append_toArray, List.nil_append, List.cons_append, List.toList_toArray, Array.toList_append, Option.toArray, List.append_nil] at hA); first | (go_simp; refine RetV_at (hVa.out w' hS) ?_; intro w5 hx; exact hK _ hx) | (obtain ⟨hSc, hSf, hSs⟩ := hS.cells; go_simp; exact hK _ (by first | exact Ext.rfl' _ | exact Ext.new _ _ | assumption)))); (try simp only [List.nil_append, List.cons_append]))
            (refine walkI_yesis (u := ?_) rfl (by simp) rfl rfl rfl ?_ ?_; rotate_left; (focus (intro A w' hS hA K hK; (simp only [List.map_cons, List.map_nil, knows, Is, Op.operands, Call.operands, List.lookup_cons, List.lookup_nil, Nat.reduceBEq, Bool.false_eq_true, if_false, if_true, Act.eval, Array.getD_eq_getD_getElem?, List.getElem?_toArray, List.getElem?_cons_succ, List.getElem?_cons_zero, Option.getD_some, and_true, true_and, List.append_toArray, List.nil_append, List.cons_append, List.toList_toArray, Array.toList_append, Option.toArray, List.append_nil] at hA); first | fail | (obtain ⟨hSc, hSf, hSs⟩ := hS.cells; go_simp; exact hK _ (by first | exact Ext.rfl' _ | exact Ext.new _ _ | assumption)))); (try simp only [List.nil_append, List.cons_append]))
            (refine walkI_is (u := ?_) rfl (by simp) rfl ?_ ?_; rotate_left; (focus (intro A w' hS hA K hK; (simp only [List.map_cons, List.map_nil, knows, Is, Op.operands, Call.operands, List.lookup_cons, List.lookup_nil, Nat.reduceBEq, Bool.false_eq_true, if_false, if_true, Act.eval, Array.getD_eq_getD_getElem?, List.getElem?_toArray, List.getElem?_cons_succ, List.getElem?_cons_zero, Option.getD_some, and_true, true_and, List.append_toArray, List.nil_append, List.cons_append, List.toList_toArray, Array.toList_append, Option.toArray, List.append_nil] at hA); first | fail | (obtain ⟨hSc, hSf, hSs⟩ := hS.cells; go_simp; exact hK _ (by first | exact Ext.rfl' _ | exact Ext.new _ _ | assumption)))); (try simp only [List.nil_append, List.cons_append]))
            (refine walkI_is (u := ?_) rfl (by simp) rfl ?_ ?_; rotate_left; (focus (intro A w' hS hA K hK; (simp only [List.map_cons, List.map_nil, knows, Is, Op.operands, Call.operands, List.lookup_cons, List.lookup_nil, Nat.reduceBEq, Bool.false_eq_true, if_false, if_true, Act.eval, Array.getD_eq_getD_getElem?, List.getElem?_toArray, List.getElem?_cons_succ, List.getElem?_cons_zero, Option.getD_some, and_true, true_and, List.append_toArray, List.nil_append, List.cons_append, List.toList_toArray, Array.toList_append, Option.toArray, List.append_nil] at hA); first | fail | (obtain ⟨hSc, hSf, hSs⟩ := hS.cells; go_simp; exact hK _ (by first | exact Ext.rfl' _ | exact Ext.new _ _ | assumption)))); (try simp only [List.nil_append, List.cons_append]))
            (refine walkI_yesis (u := ?_) rfl (by simp) rfl rfl rfl ?_ ?_; rotate_left; (focus (intro A w' hS hA K hK; (simp only [List.map_cons, List.map_nil, knows, Is, Op.operands, Call.operands, List.lookup_cons, List.lookup_nil, Nat.reduceBEq, Bool.false_eq_true, if_false, if_true, Act.eval, Array.getD_eq_getD_getElem?, List.getElem?_toArray, List.getElem?_cons_succ, List.getElem?_cons_zero, Option.getD_some, and_true, true_and, List.append_toArray, List.nil_append, List.cons_append, List.toList_toArray, Array.toList_append, Option.toArray, List.append_nil] at hA); first | fail | (obtain ⟨hSc, hSf, hSs⟩ := hS.cells; go_simp; exact hK _ (by first | exact Ext.rfl' _ | exact Ext.new _ _ | assumption)))); (try simp only [List.nil_append, List.cons_append]))
            (refine walkI_yes ((fun v w' => BytesR (ph w') v (encA vs))) rfl (by simp) rfl rfl rfl ((fun v w w' _ h e => h.mono mono_ByteR e.ple)) ?_ ?_; (focus (intro A w' hS hA K hK; (simp only [List.map_cons, List.map_nil, knows, Is, Op.operands, Call.operands, List.lookup_cons, List.lookup_nil, Nat.reduceBEq, Bool.false_eq_true, if_false, if_true, Act.eval, Array.getD_eq_getD_getElem?, List.getElem?_toArray, List.getElem?_cons_succ, List.getElem?_cons_zero, Option.getD_some, and_true, true_and, List.append_toArray, List.nil_append, List.cons_append, List.toList_toArray, Array.toList_append, Option.toArray, List.append_nil] at hA); (go_simp; refine (hEn.out w' hS).mono ?_; rintro e w5 ⟨v, rfl, ho, hx⟩; exact hK _ _ hx (ho.rep mono_ByteR (noH_le _))))); (try simp only [List.nil_append, List.cons_append]))
            (refine walkI_yesis (u := ?_) rfl (by simp) rfl rfl rfl ?_ ?_; rotate_left; (focus (intro A w' hS hA K hK; (simp only [List.map_cons, List.map_nil, knows, Is, Op.operands, Call.operands, List.lookup_cons, List.lookup_nil, Nat.reduceBEq, Bool.false_eq_true, if_false, if_true, Act.eval, Array.getD_eq_getD_getElem?, List.getElem?_toArray, List.getElem?_cons_succ, List.getElem?_cons_zero, Option.getD_some, and_true, true_and, List.append_toArray, List.nil_append, List.cons_append, List.toList_toArray, Array.toList_append, Option.toArray, List.append_nil] at hA); first | (have hcv := conv_bytes hA; go_simp; exact hK _ (Ext.rfl' _)) | (obtain ⟨hSc, hSf, hSs⟩ := hS.cells; go_simp; exact hK _ (by first | exact Ext.rfl' _ | exact Ext.new _ _ | assumption)))); (try simp only [List.nil_append, List.cons_append]))
            (refine walkI_yesis (u := ?_) rfl (by simp) rfl rfl rfl ?_ ?_; rotate_left; (focus (intro A w' hS hA K hK; (simp only [List.map_cons, List.map_nil, knows, Is, Op.operands, Call.operands, List.lookup_cons, List.lookup_nil, Nat.reduceBEq, Bool.false_eq_true, if_false, if_true, Act.eval, Array.getD_eq_getD_getElem?, List.getElem?_toArray, List.getElem?_cons_succ, List.getElem?_cons_zero, Option.getD_some, and_true, true_and, List.append_toArray, List.nil_append, List.cons_append, List.toList_toArray, Array.toList_append, Option.toArray, List.append_nil] at hA); first | fail | (obtain ⟨hSc, hSf, hSs⟩ := hS.cells; go_simp; exact hK _ (by first | exact Ext.rfl' _ | exact Ext.new _ _ | assumption)))); (try simp only [List.nil_append, List.cons_append]))
            (refine walkI_yesis (u := ?_) rfl (by simp) rfl rfl rfl ?_ ?_; rotate_left; (focus (intro A w' hS hA K hK; (simp only [List.map_cons, List.map_nil, knows, Is, Op.operands, Call.operands, List.lookup_cons, List.lookup_nil, Nat.reduceBEq, Bool.false_eq_true, if_false, if_true, Act.eval, Array.getD_eq_getD_getElem?, List.getElem?_toArray, List.getElem?_cons_succ, List.getElem?_cons_zero, Option.getD_some, and_true, true_and, List.append_toArray, List.nil_append, List.cons_append, List.toList_toArray, Array.toList_append, Option.toArray, List.append_nil] at hA); first | (have hcv := hcx.out w' hS; go_simp; exact hK _ (Ext.rfl' _)) | (obtain ⟨hSc, hSf, hSs⟩ := hS.cells; go_simp; exact hK _ (by first | exact Ext.rfl' _ | exact Ext.new _ _ | assumption)))); (try simp only [List.nil_append, List.cons_append]))
            (refine walkI_yesis (u := ?_) rfl (by simp) rfl rfl rfl ?_ ?_; rotate_left; (focus (intro A w' hS hA K hK; (simp only [List.map_cons, List.map_nil, knows, Is, Op.operands, Call.operands, List.lookup_cons, List.lookup_nil, Nat.reduceBEq, Bool.false_eq_true, if_false, if_true, Act.eval, Array.getD_eq_getD_getElem?, List.getElem?_toArray, List.getElem?_cons_succ, List.getElem?_cons_zero, Option.getD_some, and_true, true_and, List.append_toArray, List.nil_append, List.cons_append, List.toList_toArray, Array.toList_append, Option.toArray, List.append_nil] at hA); first | fail | (obtain ⟨hSc, hSf, hSs⟩ := hS.cells; go_simp; exact hK _ (by first | exact Ext.rfl' _ | exact Ext.new _ _ | assumption)))); (try simp only [List.nil_append, List.cons_append]))
            (refine walkI_is (u := ?_) rfl (by simp) rfl ?_ ?_; rotate_left; (focus (intro A w' hS hA K hK; (simp only [List.map_cons, List.map_nil, knows, Is, Op.operands, Call.operands, List.lookup_cons, List.lookup_nil, Nat.reduceBEq, Bool.false_eq_true, if_false, if_true, Act.eval, Array.getD_eq_getD_getElem?, List.getElem?_toArray, List.getElem?_cons_succ, List.getElem?_cons_zero, Option.getD_some, and_true, true_and, List.append_toArray, List.nil_append, List.cons_append, List.toList_toArray, Array.toList_append, Option.toArray, List.append_nil] at hA); first | fail | (obtain ⟨hSc, hSf, hSs⟩ := hS.cells; go_simp; exact hK _ (by first | exact Ext.rfl' _ | exact Ext.new _ _ | assumption)))); (try simp only [List.nil_append, List.cons_append]))
            (refine walkI_nil ?_; simp only [List.nil_append, List.cons_append, fins, Is, forall_eq, Act.put, List.setIfInBounds_toArray, List.set_cons_zero, List.set_cons_succ])
            rintro w5 hx5 v9 -
            go_wp2_with fail
            rw [hD2.out]
            exact bodyPost_ret (v := .tuple #[.slice none 0 0, .int .i64 2]) (by simp [results, Try.results37, go_sem]) rfl ⟨_, rfl, hxw.then hx5, SliceRep.nil _ _ _⟩
        · have hD2 : Hid (decA xs = ([], 2)) := Lib.hid (by rw [hD.out, if_neg (fun h => hv h.2.1)])
          generalize setE vs = ev at *
          have hvb : (ev != 0) = true := by simpa using hv
          replace hv := Lib.hid hv
          (refine wp_region_I 16 (by kernel_rfl) (by kernel_rfl) ?_; simp only [List.toList_toArray, List.take_succ_cons, List.take_zero, List.drop_succ_cons, List.drop_zero])
          (refine walkI_is (u := ?_) rfl (by simp) rfl ?_ ?_; rotate_left; (focus (intro A w' hS hA K hK; (simp only [List.map_cons, List.map_nil, knows, Is, Op.operands, Call.operands, List.lookup_cons, List.lookup_nil, Nat.reduceBEq, Bool.false_eq_true, if_false, if_true, Act.eval, Array.getD_eq_getD_getElem?, List.getElem?_toArray, List.getElem?_cons_succ, List.getElem?_cons_zero, Option.getD_some, and_true, true_and, List.append_toArray, List.nil_append, List.cons_append, List.toList_toArray, Array.toList_append, Option.toArray, List.append_nil] at hA); first | (obtain ⟨hSc, hSf, hSs⟩ := hS.cells; go_simp; exact hK _ (Ext.rfl' _)) | (obtain ⟨hSc, hSf, hSs⟩ := hS.cells; go_simp; exact hK _ (by first | exact Ext.rfl' _ | exact Ext.new _ _ | assumption)))); (try simp only [List.nil_append, List.cons_append]))
          (refine walkI_is (u := ?_) rfl (by simp) rfl ?_ ?_; rotate_left; (focus (intro A w' hS hA K hK; (simp only [List.map_cons, List.map_nil, knows, Is, Op.operands, Call.operands, List.lookup_cons, List.lookup_nil, Nat.reduceBEq, Bool.false_eq_true, if_false, if_true, Act.eval, Array.getD_eq_getD_getElem?, List.getElem?_toArray, List.getElem?_cons_succ, List.getElem?_cons_zero, Option.getD_some, and_true, true_and, List.append_toArray, List.nil_append, List.cons_append, List.toList_toArray, Array.toList_append, Option.toArray, List.append_nil] at hA); first | (go_simp; refine (hRe.out w' hS).mono ?_; rintro e w5 ⟨n, rfl, hn, hx⟩; obtain rfl := hn.2 hs'; exact hK _ hx) | (obtain ⟨hSc, hSf, hSs⟩ := hS.cells; go_simp; exact hK _ (by first | exact Ext.rfl' _ | exact Ext.new _ _ | assumption)))); (try simp only [List.nil_append, List.cons_append]))
          (refine walkI_is (u := ?_) rfl (by simp) rfl ?_ ?_; rotate_left; (focus (intro A w' hS hA K hK; (simp only [List.map_cons, List.map_nil, knows, Is, Op.operands, Call.operands, List.lookup_cons, List.lookup_nil, Nat.reduceBEq, Bool.false_eq_true, if_false, if_true, Act.eval, Array.getD_eq_getD_getElem?, List.getElem?_toArray, List.getElem?_cons_succ, List.getElem?_cons_zero, Option.getD_some, and_true, true_and, List.append_toArray, List.nil_append, List.cons_append, List.toList_toArray, Array.toList_append, Option.toArray, List.append_nil] at hA); first | fail | (obtain ⟨hSc, hSf, hSs⟩ := hS.cells; go_simp; exact hK _ (by first | exact Ext.rfl' _ | exact Ext.new _ _ | assumption)))); (try simp only [List.nil_append, List.cons_append]))
          (refine walkI_is (u := ?_) rfl (by simp) rfl ?_ ?_; rotate_left; (focus (intro A w' hS hA K hK; (simp only [List.map_cons, List.map_nil, knows, Is, Op.operands, Call.operands, List.lookup_cons, List.lookup_nil, Nat.reduceBEq, Bool.false_eq_true, if_false, if_true, Act.eval, Array.getD_eq_getD_getElem?, List.getElem?_toArray, List.getElem?_cons_succ, List.getElem?_cons_zero, Option.getD_some, and_true, true_and, List.append_toArray, List.nil_append, List.cons_append, List.toList_toArray, Array.toList_append, Option.toArray, List.append_nil] at hA); first | fail | (obtain ⟨hSc, hSf, hSs⟩ := hS.cells; go_simp; exact hK _ (by first | exact Ext.rfl' _ | exact Ext.new _ _ | assumption)))); (try simp only [List.nil_append, List.cons_append]))
          (refine walkI_yesis (u := ?_) rfl (by simp) rfl rfl rfl ?_ ?_; rotate_left; (focus (intro A w' hS hA K hK; (simp only [List.map_cons, List.map_nil, knows, Is, Op.operands, Call.operands, List.lookup_cons, List.lookup_nil, Nat.reduceBEq, Bool.false_eq_true, if_false, if_true, Act.eval, Array.getD_eq_getD_getElem?, List.getElem?_toArray, List.getElem?_cons_succ, List.getElem?_cons_zero, Option.getD_some, and_true, true_and, List.append_toArray, List.nil_append, List.cons_append, List.toList_toArray, Array.toList_append, Option.toArray, List.append_nil] at hA); first | fail | (obtain ⟨hSc, hSf, hSs⟩ := hS.cells; go_simp; exact hK _ (by first | exact Ext.rfl' _ | exact Ext.new _ _ | assumption)))); (try simp only [List.nil_append, List.cons_append]))
          (refine walkI_yesis (u := ?_) rfl (by simp) rfl rfl rfl ?_ ?_; rotate_left; (focus (intro A w' hS hA K hK; (simp only [List.map_cons, List.map_nil, knows, Is, Op.operands, Call.operands, List.lookup_cons, List.lookup_nil, Nat.reduceBEq, Bool.false_eq_true, if_false, if_true, Act.eval, Array.getD_eq_getD_getElem?, List.getElem?_toArray, List.getElem?_cons_succ, List.getElem?_cons_zero, Option.getD_some, and_true, true_and, List.append_toArray, List.nil_append, List.cons_append, List.toList_toArray, Array.toList_append, Option.toArray, List.append_nil] at hA); first | (go_simp; refine RetV_at (hVa.out w' hS) ?_; intro w5 hx; exact hK _ hx) | (obtain ⟨hSc, hSf, hSs⟩ := hS.cells; go_simp; exact hK _ (by first | exact Ext.rfl' _ | exact Ext.new _ _ | assumption)))); (try simp only [List.nil_append, List.cons_append]))
          (refine walkI_yesis (u := ?_) rfl (by simp) rfl rfl rfl ?_ ?_; rotate_left; (focus (intro A w' hS hA K hK; (simp only [List.map_cons, List.map_nil, knows, Is, Op.operands, Call.operands, List.lookup_cons, List.lookup_nil, Nat.reduceBEq, Bool.false_eq_true, if_false, if_true, Act.eval, Array.getD_eq_getD_getElem?, List.getElem?_toArray, List.getElem?_cons_succ, List.getElem?_cons_zero, Option.getD_some, and_true, true_and, List.append_toArray, List.nil_append, List.cons_append, List.toList_toArray, Array.toList_append, Option.toArray, List.append_nil] at hA); first | fail | (obtain ⟨hSc, hSf, hSs⟩ := hS.cells; go_simp; exact hK _ (by first | exact Ext.rfl' _ | exact Ext.new _ _ | assumption)))); (try simp only [List.nil_append, List.cons_append]))
          (refine walkI_is (u := ?_) rfl (by simp) rfl ?_ ?_; rotate_left; (focus (intro A w' hS hA K hK; (simp only [List.map_cons, List.map_nil, knows, Is, Op.operands, Call.operands, List.lookup_cons, List.lookup_nil, Nat.reduceBEq, Bool.false_eq_true, if_false, if_true, Act.eval, Array.getD_eq_getD_getElem?, List.getElem?_toArray, List.getElem?_cons_succ, List.getElem?_cons_zero, Option.getD_some, and_true, true_and, List.append_toArray, List.nil_append, List.cons_append, List.toList_toArray, Array.toList_append, Option.toArray, List.append_nil] at hA); first | fail | (obtain ⟨hSc, hSf, hSs⟩ := hS.cells; go_simp; exact hK _ (by first | exact Ext.rfl' _ | exact Ext.new _ _ | assumption)))); (try simp only [List.nil_append, List.cons_append]))
          (refine walkI_is (u := ?_) rfl (by simp) rfl ?_ ?_; rotate_left; (focus (intro A w' hS hA K hK; (simp only [List.map_cons, List.map_nil, knows, Is, Op.operands, Call.operands, List.lookup_cons, List.lookup_nil, Nat.reduceBEq, Bool.false_eq_true, if_false, if_true, Act.eval, Array.getD_eq_getD_getElem?, List.getElem?_toArray, List.getElem?_cons_succ, List.getElem?_cons_zero, Option.getD_some, and_true, true_and, List.append_toArray, List.nil_append, List.cons_append, List.toList_toArray, Array.toList_append, Option.toArray, List.append_nil] at hA); first | fail | (obtain ⟨hSc, hSf, hSs⟩ := hS.cells; go_simp; exact hK _ (by first | exact Ext.rfl' _ | exact Ext.new _ _ | assumption)))); (try simp only [List.nil_append, List.cons_append]))
          (refine walkI_no rfl (by simp) rfl rfl rfl ?_ ?_; (focus (simp [undef]; done)); (try simp only [List.nil_append, List.cons_append]))
          (refine walkI_no rfl (by simp) rfl rfl rfl ?_ ?_; (focus (simp [undef]; done)); (try simp only [List.nil_append, List.cons_append]))
          (refine walkI_no rfl (by simp) rfl rfl rfl ?_ ?_; (focus (simp [undef]; done)); (try simp only [List.nil_append, List.cons_append]))
          (refine walkI_no rfl (by simp) rfl rfl rfl ?_ ?_; (focus (simp [undef]; done)); (try simp only [List.nil_append, List.cons_append]))
          (refine walkI_no rfl (by simp) rfl rfl rfl ?_ ?_; (focus (simp [undef]; done)); (try simp only [List.nil_append, List.cons_append]))
          (refine walkI_no rfl (by simp) rfl rfl rfl ?_ ?_; (focus (simp [undef]; done)); (try simp only [List.nil_append, List.cons_append]))
          (refine walkI_is (u := ?_) rfl (by simp) rfl ?_ ?_; rotate_left; (focus (intro A w' hS hA K hK; (simp only [List.map_cons, List.map_nil, knows, Is, Op.operands, Call.operands, List.lookup_cons, List.lookup_nil, Nat.reduceBEq, Bool.false_eq_true, if_false, if_true, Act.eval, Array.getD_eq_getD_getElem?, List.getElem?_toArray, List.getElem?_cons_succ, List.getElem?_cons_zero, Option.getD_some, and_true, true_and, List.append_toArray, List.nil_append, List.cons_append, List.toList_toArray, Array.toList_append, Option.toArray, List.append_nil] at hA); first | fail | (obtain ⟨hSc, hSf, hSs⟩ := hS.cells; go_simp; exact hK _ (by first | exact Ext.rfl' _ | exact Ext.new _ _ | assumption)))); (try simp only [List.nil_append, List.cons_append]))
          (refine walkI_nil ?_; simp only [List.nil_append, List.cons_append, fins, Is, forall_eq, Act.put, List.setIfInBounds_toArray, List.set_cons_zero, List.set_cons_succ])
          intro w5 hx5
          go_wp2_with fail
          rw [hD2.out]
          exact bodyPost_ret (v := .tuple #[.slice none 0 0, .int .i64 2]) (by simp [results, Try.results37, go_sem]) rfl ⟨_, rfl, hxw.then hx5, SliceRep.nil _ _ _⟩
      · have hD2 : Hid (decA xs = ([], 2)) := Lib.hid (by rw [hD.out, if_neg (fun h => hs' h.1)])
        (refine wp_region_I 16 (by kernel_rfl) (by kernel_rfl) ?_; simp only [List.toList_toArray, List.take_succ_cons, List.take_zero, List.drop_succ_cons, List.drop_zero])
        (refine walkI_is (u := ?_) rfl (by simp) rfl ?_ ?_; rotate_left; (focus (intro A w' hS hA K hK; (simp only [List.map_cons, List.map_nil, knows, Is, Op.operands, Call.operands, List.lookup_cons, List.lookup_nil, Nat.reduceBEq, Bool.false_eq_true, if_false, if_true, Act.eval, Array.getD_eq_getD_getElem?, List.getElem?_toArray, List.getElem?_cons_succ, List.getElem?_cons_zero, Option.getD_some, and_true, true_and, List.append_toArray, List.nil_append, List.cons_append, List.toList_toArray, Array.toList_append, Option.toArray, List.append_nil] at hA); first | (obtain ⟨hSc, hSf, hSs⟩ := hS.cells; go_simp; exact hK _ (Ext.rfl' _)) | (obtain ⟨hSc, hSf, hSs⟩ := hS.cells; go_simp; exact hK _ (by first | exact Ext.rfl' _ | exact Ext.new _ _ | assumption)))); (try simp only [List.nil_append, List.cons_append]))
        (refine walkI_step ((fun v _ => ∃ n : Int, v = .int .i64 n ∧ (n != 0) = true)) rfl (by simp) rfl ((fun _ _ _ _ h _ => h)) ?_ ?_; (focus (intro A w' hS hA K hK; (simp only [List.map_cons, List.map_nil, knows, Is, Op.operands, Call.operands, List.lookup_cons, List.lookup_nil, Nat.reduceBEq, Bool.false_eq_true, if_false, if_true, Act.eval, Array.getD_eq_getD_getElem?, List.getElem?_toArray, List.getElem?_cons_succ, List.getElem?_cons_zero, Option.getD_some, and_true, true_and, List.append_toArray, List.nil_append, List.cons_append, List.toList_toArray, Array.toList_append, Option.toArray, List.append_nil] at hA); (go_simp; refine (hRe.out w' hS).mono ?_; rintro e w5 ⟨n, rfl, hn, hx⟩; exact hK _ _ hx ⟨n, rfl, by simpa using fun h => hs' (hn.1 h)⟩))); (try simp only [List.nil_append, List.cons_append]))
        (refine walkI_is (u := ?_) rfl (by simp) rfl ?_ ?_; rotate_left; (focus (intro A w' hS hA K hK; (simp only [List.map_cons, List.map_nil, knows, Is, Op.operands, Call.operands, List.lookup_cons, List.lookup_nil, Nat.reduceBEq, Bool.false_eq_true, if_false, if_true, Act.eval, Array.getD_eq_getD_getElem?, List.getElem?_toArray, List.getElem?_cons_succ, List.getElem?_cons_zero, Option.getD_some, and_true, true_and, List.append_toArray, List.nil_append, List.cons_append, List.toList_toArray, Array.toList_append, Option.toArray, List.append_nil] at hA); first | (obtain ⟨n, hA, hA2⟩ := hA; go_simp; exact hK _ (Ext.rfl' _)) | (obtain ⟨hSc, hSf, hSs⟩ := hS.cells; go_simp; exact hK _ (by first | exact Ext.rfl' _ | exact Ext.new _ _ | assumption)))); (try simp only [List.nil_append, List.cons_append]))
        (refine walkI_is (u := ?_) rfl (by simp) rfl ?_ ?_; rotate_left; (focus (intro A w' hS hA K hK; (simp only [List.map_cons, List.map_nil, knows, Is, Op.operands, Call.operands, List.lookup_cons, List.lookup_nil, Nat.reduceBEq, Bool.false_eq_true, if_false, if_true, Act.eval, Array.getD_eq_getD_getElem?, List.getElem?_toArray, List.getElem?_cons_succ, List.getElem?_cons_zero, Option.getD_some, and_true, true_and, List.append_toArray, List.nil_append, List.cons_append, List.toList_toArray, Array.toList_append, Option.toArray, List.append_nil] at hA); first | fail | (obtain ⟨hSc, hSf, hSs⟩ := hS.cells; go_simp; exact hK _ (by first | exact Ext.rfl' _ | exact Ext.new _ _ | assumption)))); (try simp only [List.nil_append, List.cons_append]))
        (refine walkI_no rfl (by simp) rfl rfl rfl ?_ ?_; (focus (simp [undef]; done)); (try simp only [List.nil_append, List.cons_append]))
        (refine walkI_no rfl (by simp) rfl rfl rfl ?_ ?_; (focus (simp [undef]; done)); (try simp only [List.nil_append, List.cons_append]))
        (refine walkI_no rfl (by simp) rfl rfl rfl ?_ ?_; (focus (simp [undef]; done)); (try simp only [List.nil_append, List.cons_append]))
        (refine walkI_is (u := ?_) rfl (by simp) rfl ?_ ?_; rotate_left; (focus (intro A w' hS hA K hK; (simp only [List.map_cons, List.map_nil, knows, Is, Op.operands, Call.operands, List.lookup_cons, List.lookup_nil, Nat.reduceBEq, Bool.false_eq_true, if_false, if_true, Act.eval, Array.getD_eq_getD_getElem?, List.getElem?_toArray, List.getElem?_cons_succ, List.getElem?_cons_zero, Option.getD_some, and_true, true_and, List.append_toArray, List.nil_append, List.cons_append, List.toList_toArray, Array.toList_append, Option.toArray, List.append_nil] at hA); first | fail | (obtain ⟨hSc, hSf, hSs⟩ := hS.cells; go_simp; exact hK _ (by first | exact Ext.rfl' _ | exact Ext.new _ _ | assumption)))); (try simp only [List.nil_append, List.cons_append]))
        (refine walkI_is (u := ?_) rfl (by simp) rfl ?_ ?_; rotate_left; (focus (intro A w' hS hA K hK; (simp only [List.map_cons, List.map_nil, knows, Is, Op.operands, Call.operands, List.lookup_cons, List.lookup_nil, Nat.reduceBEq, Bool.false_eq_true, if_false, if_true, Act.eval, Array.getD_eq_getD_getElem?, List.getElem?_toArray, List.getElem?_cons_succ, List.getElem?_cons_zero, Option.getD_some, and_true, true_and, List.append_toArray, List.nil_append, List.cons_append, List.toList_toArray, Array.toList_append, Option.toArray, List.append_nil] at hA); first | fail | (obtain ⟨hSc, hSf, hSs⟩ := hS.cells; go_simp; exact hK _ (by first | exact Ext.rfl' _ | exact Ext.new _ _ | assumption)))); (try simp only [List.nil_append, List.cons_append]))
        (refine walkI_no rfl (by simp) rfl rfl rfl ?_ ?_; (focus (simp [undef]; done)); (try simp only [List.nil_append, List.cons_append]))
        (refine walkI_no rfl (by simp) rfl rfl rfl ?_ ?_; (focus (simp [undef]; done)); (try simp only [List.nil_append, List.cons_append]))
        (refine walkI_no rfl (by simp) rfl rfl rfl ?_ ?_; (focus (simp [undef]; done)); (try simp only [List.nil_append, List.cons_append]))
        (refine walkI_no rfl (by simp) rfl rfl rfl ?_ ?_; (focus (simp [undef]; done)); (try simp only [List.nil_append, List.cons_append]))
        (refine walkI_no rfl (by simp) rfl rfl rfl ?_ ?_; (focus (simp [undef]; done)); (try simp only [List.nil_append, List.cons_append]))
        (refine walkI_no rfl (by simp) rfl rfl rfl ?_ ?_; (focus (simp [undef]; done)); (try simp only [List.nil_append, List.cons_append]))
        (refine walkI_is (u := ?_) rfl (by simp) rfl ?_ ?_; rotate_left; (focus (intro A w' hS hA K hK; (simp only [List.map_cons, List.map_nil, knows, Is, Op.operands, Call.operands, List.lookup_cons, List.lookup_nil, Nat.reduceBEq, Bool.false_eq_true, if_false, if_true, Act.eval, Array.getD_eq_getD_getElem?, List.getElem?_toArray, List.getElem?_cons_succ, List.getElem?_cons_zero, Option.getD_some, and_true, true_and, List.append_toArray, List.nil_append, List.cons_append, List.toList_toArray, Array.toList_append, Option.toArray, List.append_nil] at hA); first | fail | (obtain ⟨hSc, hSf, hSs⟩ := hS.cells; go_simp; exact hK _ (by first | exact Ext.rfl' _ | exact Ext.new _ _ | assumption)))); (try simp only [List.nil_append, List.cons_append]))
        (refine walkI_nil ?_; simp only [List.nil_append, List.cons_append, fins, Is, forall_eq, Act.put, List.setIfInBounds_toArray, List.set_cons_zero, List.set_cons_succ])
        rintro w5 hx5 v9 ⟨n, rfl, hn⟩
        go_wp2_with fail
        rw [hD2.out]
        exact bodyPost_ret (v := .tuple #[.slice none 0 0, .int .i64 2]) (by simp [results, Try.results37, go_sem]) rfl ⟨_, rfl, hxw.then hx5, SliceRep.nil _ _ _⟩
    · have hja : decide (vs.length < m) = true := decide_eq_true hlt
      have hI := itvS_I s'
      go_wp2_with fail
      (refine Ph.wp_region_I 15 (S := rdSys HR [own mono_ItvR 8 43 (.slice a2 vs.length c2) vs] W.heap.size g wr [2, 4, 6, 8, 10, 12] (fun c => match c with | 0 => s' | 1 => (ratS s').2 | 2 => (ratS (ratS s').2).2 | 3 => (boolS (ratS (ratS s').2).2).2 | 4 => (boolS (boolS (ratS (ratS s').2).2).2).2 | 5 => (boolS (boolS (boolS (ratS (ratS s').2).2).2).2).2 | _ => (boolS (boolS (boolS (boolS (ratS (ratS s').2).2).2).2).2).2)) ?h0 (by kernel_rfl) (by kernel_rfl) (by kernel_rfl) ?_; (case h0 => (exact ⟨hM.step (fun w0 m => m.ext (by repeat (first | (with_reducible assumption) | (with_reducible exact Ext.rfl' _) | (with_reducible exact Ext.new _ _) | (with_reducible refine Ext.alloc' ?_ _) | (with_reducible refine Ext.drew' ?_) | (with_reducible refine Ext.drewN' ?_ _) | (with_reducible refine Ext.set' ?_ ?_ _; rotate_left; (focus (first | omega | (simp; done) | (simp; omega)))) | (with_reducible refine Ext.then (b := ?_) ?_ ?_; rotate_left; rotate_left; (with_reducible assumption))))), hRj.keep (by repeat (first | (with_reducible assumption) | (with_reducible exact Ext.rfl' _) | (with_reducible exact Ext.new _ _) | (with_reducible refine Ext.alloc' ?_ _) | (with_reducible refine Ext.drew' ?_) | (with_reducible refine Ext.drewN' ?_ _) | (with_reducible refine Ext.set' ?_ ?_ _; rotate_left; (focus (first | omega | (simp; done) | (simp; omega)))) | (with_reducible refine Ext.then (b := ?_) ?_ ?_; rotate_left; rotate_left; (with_reducible assumption)))), (Ext.drew' (Ext.rfl' _)).toW g none⟩)); simp only [List.toList_toArray, List.take_succ_cons, List.take_zero, List.drop_succ_cons, List.drop_zero])
      (refine Ph.walkI_is (u := ?_) rfl (by simp) rfl ?_ ?_ (by simp) (by simp [rdSys]); rotate_left; (focus (intro A w' cc hG hA K hK; (simp only [List.map_cons, List.map_nil, knows, Is, Op.operands, Call.operands, List.lookup_cons, List.lookup_nil, Nat.reduceBEq, Bool.false_eq_true, if_false, if_true, Act.eval, Array.getD_eq_getD_getElem?, List.getElem?_toArray, List.getElem?_cons_succ, List.getElem?_cons_zero, Option.getD_some, and_true, true_and, List.append_toArray, List.nil_append, List.cons_append, List.toList_toArray, Array.toList_append, Option.toArray, List.append_nil] at hA); first | fail | (go_simp; exact hK _ (by repeat (first | (with_reducible assumption) | (with_reducible exact Ext.rfl' _) | (with_reducible exact Ext.new _ _) | (with_reducible refine Ext.alloc' ?_ _) | (with_reducible refine Ext.drew' ?_) | (with_reducible refine Ext.drewN' ?_ _) | (with_reducible refine Ext.set' ?_ ?_ _; rotate_left; (focus (first | omega | (simp; done) | (simp; omega)))) | (with_reducible refine Ext.then (b := ?_) ?_ ?_; rotate_left; rotate_left; (with_reducible assumption))))))); (try simp only [List.nil_append, List.cons_append]))
      (refine Ph.walkI_is (u := ?_) rfl (by simp) rfl ?_ ?_ (by simp) (by simp [rdSys]); rotate_left; (focus (intro A w' cc hG hA K hK; (simp only [List.map_cons, List.map_nil, knows, Is, Op.operands, Call.operands, List.lookup_cons, List.lookup_nil, Nat.reduceBEq, Bool.false_eq_true, if_false, if_true, Act.eval, Array.getD_eq_getD_getElem?, List.getElem?_toArray, List.getElem?_cons_succ, List.getElem?_cons_zero, Option.getD_some, and_true, true_and, List.append_toArray, List.nil_append, List.cons_append, List.toList_toArray, Array.toList_append, Option.toArray, List.append_nil] at hA); first | fail | (go_simp; exact hK _ (by repeat (first | (with_reducible assumption) | (with_reducible exact Ext.rfl' _) | (with_reducible exact Ext.new _ _) | (with_reducible refine Ext.alloc' ?_ _) | (with_reducible refine Ext.drew' ?_) | (with_reducible refine Ext.drewN' ?_ _) | (with_reducible refine Ext.set' ?_ ?_ _; rotate_left; (focus (first | omega | (simp; done) | (simp; omega)))) | (with_reducible refine Ext.then (b := ?_) ?_ ?_; rotate_left; rotate_left; (with_reducible assumption))))))); (try simp only [List.nil_append, List.cons_append]))
      (refine Ph.walkI_chain (u := ?_) 0 rfl rfl (by simp) rfl ?_ ?_; rotate_left; (focus (intro A w' hG hA K hK; (simp only [List.map_cons, List.map_nil, knows, Is, Op.operands, Call.operands, List.lookup_cons, List.lookup_nil, Nat.reduceBEq, Bool.false_eq_true, if_false, if_true, Act.eval, Array.getD_eq_getD_getElem?, List.getElem?_toArray, List.getElem?_cons_succ, List.getElem?_cons_zero, Option.getD_some, and_true, true_and, List.append_toArray, List.nil_append, List.cons_append, List.toList_toArray, Array.toList_append, Option.toArray, List.append_nil] at hA); (go_simp; refine (pair_c g b4 _ _ hG.2.1 (hOr.keepW hG.2.2 hbg (by simp)) hbg).mono ?_; rintro e w'' ⟨rfl, hR'', hX''⟩; exact hK _ hX'' ⟨hG.1.reader hX'' hgW, hR'', hG.2.2.then hX'' (fun i hi => by cases hi)⟩))); (try simp only [List.nil_append, List.cons_append]))
      (refine Ph.walkI_is (u := ?_) rfl (by simp) rfl ?_ ?_ (by simp) (by simp [rdSys]); rotate_left; (focus (intro A w' cc hG hA K hK; (simp only [List.map_cons, List.map_nil, knows, Is, Op.operands, Call.operands, List.lookup_cons, List.lookup_nil, Nat.reduceBEq, Bool.false_eq_true, if_false, if_true, Act.eval, Array.getD_eq_getD_getElem?, List.getElem?_toArray, List.getElem?_cons_succ, List.getElem?_cons_zero, Option.getD_some, and_true, true_and, List.append_toArray, List.nil_append, List.cons_append, List.toList_toArray, Array.toList_append, Option.toArray, List.append_nil] at hA); first | fail | (go_simp; exact hK _ (by repeat (first | (with_reducible assumption) | (with_reducible exact Ext.rfl' _) | (with_reducible exact Ext.new _ _) | (with_reducible refine Ext.alloc' ?_ _) | (with_reducible refine Ext.drew' ?_) | (with_reducible refine Ext.drewN' ?_ _) | (with_reducible refine Ext.set' ?_ ?_ _; rotate_left; (focus (first | omega | (simp; done) | (simp; omega)))) | (with_reducible refine Ext.then (b := ?_) ?_ ?_; rotate_left; rotate_left; (with_reducible assumption))))))); (try simp only [List.nil_append, List.cons_append]))
      (refine Ph.walkI_chain (u := ?_) 1 rfl rfl (by simp) rfl ?_ ?_; rotate_left; (focus (intro A w' hG hA K hK; (simp only [List.map_cons, List.map_nil, knows, Is, Op.operands, Call.operands, List.lookup_cons, List.lookup_nil, Nat.reduceBEq, Bool.false_eq_true, if_false, if_true, Act.eval, Array.getD_eq_getD_getElem?, List.getElem?_toArray, List.getElem?_cons_succ, List.getElem?_cons_zero, Option.getD_some, and_true, true_and, List.append_toArray, List.nil_append, List.cons_append, List.toList_toArray, Array.toList_append, Option.toArray, List.append_nil] at hA); (go_simp; refine (pair_c g b4 _ _ hG.2.1 (hOr.keepW hG.2.2 hbg (by simp)) hbg).mono ?_; rintro e w'' ⟨rfl, hR'', hX''⟩; exact hK _ hX'' ⟨hG.1.reader hX'' hgW, hR'', hG.2.2.then hX'' (fun i hi => by cases hi)⟩))); (try simp only [List.nil_append, List.cons_append]))
      (refine Ph.walkI_is (u := ?_) rfl (by simp) rfl ?_ ?_ (by simp) (by simp [rdSys]); rotate_left; (focus (intro A w' cc hG hA K hK; (simp only [List.map_cons, List.map_nil, knows, Is, Op.operands, Call.operands, List.lookup_cons, List.lookup_nil, Nat.reduceBEq, Bool.false_eq_true, if_false, if_true, Act.eval, Array.getD_eq_getD_getElem?, List.getElem?_toArray, List.getElem?_cons_succ, List.getElem?_cons_zero, Option.getD_some, and_true, true_and, List.append_toArray, List.nil_append, List.cons_append, List.toList_toArray, Array.toList_append, Option.toArray, List.append_nil] at hA); first | (have q1 := (hG.2.2.cells.1 b4 0 hbr hbg).trans kr; have q2 := Nat.lt_of_lt_of_le hbr hG.2.2.size; go_simp; exact hK _ (by repeat (first | (with_reducible assumption) | (with_reducible exact Ext.rfl' _) | (with_reducible exact Ext.new _ _) | (with_reducible refine Ext.alloc' ?_ _) | (with_reducible refine Ext.drew' ?_) | (with_reducible refine Ext.drewN' ?_ _) | (with_reducible refine Ext.set' ?_ ?_ _; rotate_left; (focus (first | omega | (simp; done) | (simp; omega)))) | (with_reducible refine Ext.then (b := ?_) ?_ ?_; rotate_left; rotate_left; (with_reducible assumption))))) | (go_simp; exact hK _ (by repeat (first | (with_reducible assumption) | (with_reducible exact Ext.rfl' _) | (with_reducible exact Ext.new _ _) | (with_reducible refine Ext.alloc' ?_ _) | (with_reducible refine Ext.drew' ?_) | (with_reducible refine Ext.drewN' ?_ _) | (with_reducible refine Ext.set' ?_ ?_ _; rotate_left; (focus (first | omega | (simp; done) | (simp; omega)))) | (with_reducible refine Ext.then (b := ?_) ?_ ?_; rotate_left; rotate_left; (with_reducible assumption))))))); (try simp only [List.nil_append, List.cons_append]))
      (refine Ph.walkI_chain (u := ?_) 2 rfl rfl (by simp) rfl ?_ ?_; rotate_left; (focus (intro A w' hG hA K hK; (simp only [List.map_cons, List.map_nil, knows, Is, Op.operands, Call.operands, List.lookup_cons, List.lookup_nil, Nat.reduceBEq, Bool.false_eq_true, if_false, if_true, Act.eval, Array.getD_eq_getD_getElem?, List.getElem?_toArray, List.getElem?_cons_succ, List.getElem?_cons_zero, Option.getD_some, and_true, true_and, List.append_toArray, List.nil_append, List.cons_append, List.toList_toArray, Array.toList_append, Option.toArray, List.append_nil] at hA); (go_simp; refine (rbl_c g _ _ hG.2.1).mono ?_; rintro e w'' ⟨rfl, hR'', hX''⟩; exact hK _ hX'' ⟨hG.1.reader hX'' hgW, hR'', hG.2.2.then hX'' (fun i hi => by cases hi)⟩))); (try simp only [List.nil_append, List.cons_append]))
      (refine Ph.walkI_is (u := ?_) rfl (by simp) rfl ?_ ?_ (by simp) (by simp [rdSys]); rotate_left; (focus (intro A w' cc hG hA K hK; (simp only [List.map_cons, List.map_nil, knows, Is, Op.operands, Call.operands, List.lookup_cons, List.lookup_nil, Nat.reduceBEq, Bool.false_eq_true, if_false, if_true, Act.eval, Array.getD_eq_getD_getElem?, List.getElem?_toArray, List.getElem?_cons_succ, List.getElem?_cons_zero, Option.getD_some, and_true, true_and, List.append_toArray, List.nil_append, List.cons_append, List.toList_toArray, Array.toList_append, Option.toArray, List.append_nil] at hA); first | (have q1 := (hG.2.2.cells.1 b4 0 hbr hbg).trans kr; have q2 := Nat.lt_of_lt_of_le hbr hG.2.2.size; go_simp; exact hK _ (by repeat (first | (with_reducible assumption) | (with_reducible exact Ext.rfl' _) | (with_reducible exact Ext.new _ _) | (with_reducible refine Ext.alloc' ?_ _) | (with_reducible refine Ext.drew' ?_) | (with_reducible refine Ext.drewN' ?_ _) | (with_reducible refine Ext.set' ?_ ?_ _; rotate_left; (focus (first | omega | (simp; done) | (simp; omega)))) | (with_reducible refine Ext.then (b := ?_) ?_ ?_; rotate_left; rotate_left; (with_reducible assumption))))) | (go_simp; exact hK _ (by repeat (first | (with_reducible assumption) | (with_reducible exact Ext.rfl' _) | (with_reducible exact Ext.new _ _) | (with_reducible refine Ext.alloc' ?_ _) | (with_reducible refine Ext.drew' ?_) | (with_reducible refine Ext.drewN' ?_ _) | (with_reducible refine Ext.set' ?_ ?_ _; rotate_left; (focus (first | omega | (simp; done) | (simp; omega)))) | (with_reducible refine Ext.then (b := ?_) ?_ ?_; rotate_left; rotate_left; (with_reducible assumption))))))); (try simp only [List.nil_append, List.cons_append]))
      (refine Ph.walkI_chain (u := ?_) 3 rfl rfl (by simp) rfl ?_ ?_; rotate_left; (focus (intro A w' hG hA K hK; (simp only [List.map_cons, List.map_nil, knows, Is, Op.operands, Call.operands, List.lookup_cons, List.lookup_nil, Nat.reduceBEq, Bool.false_eq_true, if_false, if_true, Act.eval, Array.getD_eq_getD_getElem?, List.getElem?_toArray, List.getElem?_cons_succ, List.getElem?_cons_zero, Option.getD_some, and_true, true_and, List.append_toArray, List.nil_append, List.cons_append, List.toList_toArray, Array.toList_append, Option.toArray, List.append_nil] at hA); (go_simp; refine (rbl_c g _ _ hG.2.1).mono ?_; rintro e w'' ⟨rfl, hR'', hX''⟩; exact hK _ hX'' ⟨hG.1.reader hX'' hgW, hR'', hG.2.2.then hX'' (fun i hi => by cases hi)⟩))); (try simp only [List.nil_append, List.cons_append]))
      (refine Ph.walkI_is (u := ?_) rfl (by simp) rfl ?_ ?_ (by simp) (by simp [rdSys]); rotate_left; (focus (intro A w' cc hG hA K hK; (simp only [List.map_cons, List.map_nil, knows, Is, Op.operands, Call.operands, List.lookup_cons, List.lookup_nil, Nat.reduceBEq, Bool.false_eq_true, if_false, if_true, Act.eval, Array.getD_eq_getD_getElem?, List.getElem?_toArray, List.getElem?_cons_succ, List.getElem?_cons_zero, Option.getD_some, and_true, true_and, List.append_toArray, List.nil_append, List.cons_append, List.toList_toArray, Array.toList_append, Option.toArray, List.append_nil] at hA); first | (have q1 := (hG.2.2.cells.1 b4 0 hbr hbg).trans kr; have q2 := Nat.lt_of_lt_of_le hbr hG.2.2.size; go_simp; exact hK _ (by repeat (first | (with_reducible assumption) | (with_reducible exact Ext.rfl' _) | (with_reducible exact Ext.new _ _) | (with_reducible refine Ext.alloc' ?_ _) | (with_reducible refine Ext.drew' ?_) | (with_reducible refine Ext.drewN' ?_ _) | (with_reducible refine Ext.set' ?_ ?_ _; rotate_left; (focus (first | omega | (simp; done) | (simp; omega)))) | (with_reducible refine Ext.then (b := ?_) ?_ ?_; rotate_left; rotate_left; (with_reducible assumption))))) | (go_simp; exact hK _ (by repeat (first | (with_reducible assumption) | (with_reducible exact Ext.rfl' _) | (with_reducible exact Ext.new _ _) | (with_reducible refine Ext.alloc' ?_ _) | (with_reducible refine Ext.drew' ?_) | (with_reducible refine Ext.drewN' ?_ _) | (with_reducible refine Ext.set' ?_ ?_ _; rotate_left; (focus (first | omega | (simp; done) | (simp; omega)))) | (with_reducible refine Ext.then (b := ?_) ?_ ?_; rotate_left; rotate_left; (with_reducible assumption))))))); (try simp only [List.nil_append, List.cons_append]))
      (refine Ph.walkI_chain (u := ?_) 4 rfl rfl (by simp) rfl ?_ ?_; rotate_left; (focus (intro A w' hG hA K hK; (simp only [List.map_cons, List.map_nil, knows, Is, Op.operands, Call.operands, List.lookup_cons, List.lookup_nil, Nat.reduceBEq, Bool.false_eq_true, if_false, if_true, Act.eval, Array.getD_eq_getD_getElem?, List.getElem?_toArray, List.getElem?_cons_succ, List.getElem?_cons_zero, Option.getD_some, and_true, true_and, List.append_toArray, List.nil_append, List.cons_append, List.toList_toArray, Array.toList_append, Option.toArray, List.append_nil] at hA); (go_simp; refine (rbl_c g _ _ hG.2.1).mono ?_; rintro e w'' ⟨rfl, hR'', hX''⟩; exact hK _ hX'' ⟨hG.1.reader hX'' hgW, hR'', hG.2.2.then hX'' (fun i hi => by cases hi)⟩))); (try simp only [List.nil_append, List.cons_append]))
      (refine Ph.walkI_is (u := ?_) rfl (by simp) rfl ?_ ?_ (by simp) (by simp [rdSys]); rotate_left; (focus (intro A w' cc hG hA K hK; (simp only [List.map_cons, List.map_nil, knows, Is, Op.operands, Call.operands, List.lookup_cons, List.lookup_nil, Nat.reduceBEq, Bool.false_eq_true, if_false, if_true, Act.eval, Array.getD_eq_getD_getElem?, List.getElem?_toArray, List.getElem?_cons_succ, List.getElem?_cons_zero, Option.getD_some, and_true, true_and, List.append_toArray, List.nil_append, List.cons_append, List.toList_toArray, Array.toList_append, Option.toArray, List.append_nil] at hA); first | (have q1 := (hG.2.2.cells.1 b4 0 hbr hbg).trans kr; have q2 := Nat.lt_of_lt_of_le hbr hG.2.2.size; go_simp; exact hK _ (by repeat (first | (with_reducible assumption) | (with_reducible exact Ext.rfl' _) | (with_reducible exact Ext.new _ _) | (with_reducible refine Ext.alloc' ?_ _) | (with_reducible refine Ext.drew' ?_) | (with_reducible refine Ext.drewN' ?_ _) | (with_reducible refine Ext.set' ?_ ?_ _; rotate_left; (focus (first | omega | (simp; done) | (simp; omega)))) | (with_reducible refine Ext.then (b := ?_) ?_ ?_; rotate_left; rotate_left; (with_reducible assumption))))) | (go_simp; exact hK _ (by repeat (first | (with_reducible assumption) | (with_reducible exact Ext.rfl' _) | (with_reducible exact Ext.new _ _) | (with_reducible refine Ext.alloc' ?_ _) | (with_reducible refine Ext.drew' ?_) | (with_reducible refine Ext.drewN' ?_ _) | (with_reducible refine Ext.set' ?_ ?_ _; rotate_left; (focus (first | omega | (simp; done) | (simp; omega)))) | (with_reducible refine Ext.then (b := ?_) ?_ ?_; rotate_left; rotate_left; (with_reducible assumption))))))); (try simp only [List.nil_append, List.cons_append]))
      (refine Ph.walkI_chain (u := ?_) 5 rfl rfl (by simp) rfl ?_ ?_; rotate_left; (focus (intro A w' hG hA K hK; (simp only [List.map_cons, List.map_nil, knows, Is, Op.operands, Call.operands, List.lookup_cons, List.lookup_nil, Nat.reduceBEq, Bool.false_eq_true, if_false, if_true, Act.eval, Array.getD_eq_getD_getElem?, List.getElem?_toArray, List.getElem?_cons_succ, List.getElem?_cons_zero, Option.getD_some, and_true, true_and, List.append_toArray, List.nil_append, List.cons_append, List.toList_toArray, Array.toList_append, Option.toArray, List.append_nil] at hA); (go_simp; refine (rbl_c g _ _ hG.2.1).mono ?_; rintro e w'' ⟨rfl, hR'', hX''⟩; exact hK _ hX'' ⟨hG.1.reader hX'' hgW, hR'', hG.2.2.then hX'' (fun i hi => by cases hi)⟩))); (try simp only [List.nil_append, List.cons_append]))
      (refine Ph.walkI_is (u := ?_) rfl (by simp) rfl ?_ ?_ (by simp) (by simp [rdSys]); rotate_left; (focus (intro A w' cc hG hA K hK; (simp only [List.map_cons, List.map_nil, knows, Is, Op.operands, Call.operands, List.lookup_cons, List.lookup_nil, Nat.reduceBEq, Bool.false_eq_true, if_false, if_true, Act.eval, Array.getD_eq_getD_getElem?, List.getElem?_toArray, List.getElem?_cons_succ, List.getElem?_cons_zero, Option.getD_some, and_true, true_and, List.append_toArray, List.nil_append, List.cons_append, List.toList_toArray, Array.toList_append, Option.toArray, List.append_nil] at hA); first | fail | (go_simp; exact hK _ (by repeat (first | (with_reducible assumption) | (with_reducible exact Ext.rfl' _) | (with_reducible exact Ext.new _ _) | (with_reducible refine Ext.alloc' ?_ _) | (with_reducible refine Ext.drew' ?_) | (with_reducible refine Ext.drewN' ?_ _) | (with_reducible refine Ext.set' ?_ ?_ _; rotate_left; (focus (first | omega | (simp; done) | (simp; omega)))) | (with_reducible refine Ext.then (b := ?_) ?_ ?_; rotate_left; rotate_left; (with_reducible assumption))))))); (try simp only [List.nil_append, List.cons_append]))
      have hxs := hX.size
      (refine Ph.walkI_step (fun v w' => ∃ g', v = .slice (some ⟨g', 0, none⟩) 1 1 ∧ Own w' g' #[.int .i64 (itvS s').1.lo.num, .int .i64 (itvS s').1.lo.den, .int .i64 (itvS s').1.hi.num, .int .i64 (itvS s').1.hi.den, .bool (itvS s').1.loO, .bool (itvS s').1.hiO, .bool (itvS s').1.loI, .bool (itvS s').1.hiI] 43 ∧ wr.heap.size ≤ g') rfl (by simp) rfl (fun c v a b _ ⟨g', q1, q2, q3⟩ hL => ⟨g', q1, q2.keepW hL (by omega) (by simp), q3⟩) ?_ ?_ (by simp) (by simp [rdSys]); (focus (intro A w' cc hG hA K hK; (simp only [List.map_cons, List.map_nil, knows, Is, Op.operands, Call.operands, List.lookup_cons, List.lookup_nil, Nat.reduceBEq, Bool.false_eq_true, if_false, if_true, Act.eval, Array.getD_eq_getD_getElem?, List.getElem?_toArray, List.getElem?_cons_succ, List.getElem?_cons_zero, Option.getD_some, and_true, true_and, List.append_toArray, List.nil_append, List.cons_append, List.toList_toArray, Array.toList_append, Option.toArray, List.append_nil] at hA); (have hs' := hG.2.2.size; go_simp; exact hK _ _ (Ext.new _ _) ⟨_, rfl, Own.new _ _ _, by omega⟩))); (try simp only [List.nil_append, List.cons_append]))
      (refine Ph.walkI_nil ?_; simp only [List.nil_append, List.cons_append, fins, Is, forall_eq, Act.put, List.setIfInBounds_toArray, List.set_cons_zero, List.set_cons_succ])
      rintro w3 hG3 v30 ⟨g', rfl, ho, hge'⟩
      obtain ⟨⟨w0, hw0, hMm⟩, hR4, hX4⟩ := hG3
      clear hM hRj
      have hS1 := Src.lit1 (H := noH) (E := ItvR) (sz := 8) (w := w3) (b := g') (x := (itvS s').1) (cs := itC (itvS s').1) ⟨rfl, hI⟩ rfl (fun j => by rw [ho.facts.1]; simp [itC])
      have hst2 : (fun c => match c with | 0 => s' | _ => s') 0 = s' := rfl
      have hR4 : Rd HR w3 g (itvS s').2 := hR4
      have heq6 : Hid (itvsS m s1 = ((vs ++ [(itvS s').1]) ++ (itvsS (m - (vs.length + 1)) (itvS s').2).1, (itvsS (m - (vs.length + 1)) (itvS s').2).2)) := by
        show _ = _
        rw [heq.out, show m - vs.length = (m - (vs.length + 1)) + 1 by omega, itvsS, List.append_assoc]; rfl
      generalize (itvS s').2 = s'' at *
      generalize (itvS s').1 = x at *
      clear hst2
      at_builtin
      refine wpList_append_M 0 rfl _ _ 23 rfl Try.underlying23 infoItv rfl rfl rfl hMm rfl hS1 one_ItvR ?c3 ?c4 ?c5
      case c3 => simp; omega
      case c4 => simp; omega
      case c5 =>
        intro v' w5 hM5
        simp only [List.set_cons_zero] at hM5
        have hR6 := hMm.rd hM5 hR4 (fun k o h => by rw [hw0]; exact hbd.out k o h) (by omega)
        have hX6 := hMm.xw hM5 (hX.then hX4 (fun i h => by cases h)) hw0
        clear hMm hR4 hX4 hX heq ho hS1
        go_wp2_with fail
        go_roundw
        case rel => exact ⟨vs.length + 1, vs ++ [x], s'', by omega, by go_num, by simp, ⟨w0, hw0, hM5⟩, hR6, hX6, heq6⟩
        case measure => simp [intOf]; omega
end Go.Proofs.Ytmbkefgmiehdiaa
