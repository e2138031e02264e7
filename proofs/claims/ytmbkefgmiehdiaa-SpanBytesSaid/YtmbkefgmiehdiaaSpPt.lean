/- the reference of package span: Points. -/
import Derived.Deep.CutBlock
import Derived.Test.YtmbkefgmiehdiaaSpT
import Derived.Test.YtmbkefgmiehdiaaSpC
namespace Go.Proofs.Ytmbkefgmiehdiaa
open Go.RowKit Go.Shelf
set_option linter.unusedSimpArgs false
set_option linter.unusedVariables false
theorem putR_len : ∀ (l : List Rat2) (r : Rat2), (putR l r).length ≤ l.length + 1
  | [], r => by simp [putR]
  | p :: l, r => by
    unfold putR
    have := putR_len l r
    split
    · simp; omega
    · split <;> simp
theorem ptsL_len (l : List Itv) : (ptsL l).length ≤ 2 * l.length := by
  have key : ∀ n, n ≤ l.length → (ptsL (l.take n)).length ≤ 2 * n := by
    intro n
    induction n with
    | zero => intro _; simp [ptsL]
    | succ n ih =>
      intro hn
      have h0 := ih (by omega)
      rw [List.take_succ_eq_append_getElem (by omega), ptsL_snoc]
      unfold ptsX
      dsimp only
      have h1 : ((if l[n].loI then ptsL (l.take n) else putR (ptsL (l.take n)) l[n].lo)).length ≤ 2 * n + 1 := by
        split
        · omega
        · have := putR_len (ptsL (l.take n)) l[n].lo; omega
      split
      · omega
      · have := putR_len (if l[n].loI then ptsL (l.take n) else putR (ptsL (l.take n)) l[n].lo) l[n].hi; omega
  have := key l.length (Nat.le_refl _)
  rwa [List.take_length] at this
theorem Pts.bd {l : List Itv} {ps : List Rat2} (h : Pts l ps) : ∀ p ∈ ps, p.bd := fun p hp => smallB_bd (h.sm p hp)
set_option maxRecDepth 100000 in
set_option maxHeartbeats 8000000 in
theorem points_c (vl : Value) (ls : List (List Itv)) (w : World) (hr : SetsR (ph w) vl ls) (hg : ∀ x ∈ ls.flatten, goodB x = true) (hlen : ls.flatten.length ≤ 10000) :
    Calls Try.prog 34 #[vl] w (PutP w (ptsL ls.flatten)) := by
  obtain ⟨a, c, rfl, hlen2, hr⟩ := hr.form
  obtain ⟨N, hN⟩ : ∃ N, ls.length = N := ⟨_, rfl⟩
  rw [hN] at hr hlen2 ⊢
  replace hN := Lib.hid hN
  replace hg := Lib.hid hg
  replace hlen := Lib.hid hlen
  go_enter Try.func34, Try.ntmps34
  go_wp2_with fail
  go_loopw [3, 4] (fun vp vi wr => ∃ k : Nat, k ≤ N ∧ vi = .int .i64 k ∧ RatsR (ph wr) vp (ptsL (ls.take k).flatten) ∧ Ext w wr) (fun _ vi _ => N - (intOf vi).toNat)
  case atStart => exact ⟨0, by omega, rfl, SliceRep.nil _ _ _, Ext.rfl' _⟩
  case round =>
    obtain ⟨k, hk, rfl, hp, hx⟩ := hrel
    by_cases hlt : k < N
    · obtain ⟨b, o, p, q, rfl, h0, hbl, hI⟩ := SetsR.at hr k (by rw [hN.out]; exact hlt)
      have hja : decide (k < N) = true := decide_eq_true hlt
      have hltl : k < ls.length := by rw [hN.out]; exact hlt
      have hgk : ∀ x ∈ ls[k], goodB x = true := fun x hx => hg.out x (List.mem_flatten.2 ⟨ls[k], List.getElem_mem hltl, hx⟩)
      have hgp : ∀ j, ∀ x ∈ (ls.take k).flatten ++ ls[k].take j, goodB x = true := fun j x hx => by
        rcases List.mem_append.1 hx with hx | hx
        · obtain ⟨l, hl, hx⟩ := List.mem_flatten.1 hx
          exact hg.out x (List.mem_flatten.2 ⟨l, List.mem_of_mem_take hl, hx⟩)
        · exact hgk x (List.mem_of_mem_take hx)
      have hle := fun j => flat_le (k := k) (j := j) hltl
      have hfl := flat_take hltl
      obtain ⟨l, hl⟩ : ∃ l, l = ls[k] := ⟨_, rfl⟩
      rw [← hl] at h0 hI hgk hgp hfl
      have hle2 : ∀ j, (ls.take k).flatten.length + (l.take j).length ≤ ls.flatten.length := fun j => by rw [hl]; exact hle j
      clear hle
      obtain ⟨n, hn⟩ : ∃ n, l.length = n := ⟨_, rfl⟩
      rw [hn] at h0 hI
      have hn6 : n ≤ 10000 := by
        have h1 := hle2 n
        have h2 := hlen.out
        rw [List.take_of_length_le (l := l) (by omega), hn] at h1
        omega
      generalize (ls.take k).flatten = pre at *
      have hst : Hid (ptsL (pre ++ l.take 0) = ptsL pre) := Lib.hid (by simp)
      have hdn : Hid (pre ++ l.take n = (ls.take (k + 1)).flatten) := Lib.hid (by rw [hfl, List.take_of_length_le (by omega)])
      replace hl := Lib.hid hl
      replace hn := Lib.hid hn
      replace hgp := Lib.hid hgp
      replace hgk := Lib.hid hgk
      replace hle2 := Lib.hid hle2
      clear hfl
      go_wp2_with fail
      go_loopw [3, 5] (fun vp vj wi => ∃ j : Nat, j ≤ n ∧ vj = .int .i64 j ∧ RatsR (ph wi) vp (ptsL (pre ++ l.take j)) ∧ Ext w wi) (fun _ vj _ => n - (intOf vj).toNat)
      case atStart => exact ⟨0, by omega, rfl, by rw [hst.out]; exact hp, hx⟩
      case round =>
        clear hp hx
        obtain ⟨j, hj, rfl, hp, hx⟩ := hrel
        have h0' := hx.cell1 h0
        have hbl' := cell_lt h0'
        by_cases hlj : j < n
        · obtain ⟨b', o', rfl, x0, x1, x2, x3, x4, x5, x6, x7, hbl2, hxI⟩ := ItvsR.at hI j (by rw [hn.out]; exact hlj)
          replace x0 := hx.cell1 x0
          replace x1 := hx.cell1 x1
          replace x2 := hx.cell1 x2
          replace x3 := hx.cell1 x3
          replace x4 := hx.cell1 x4
          replace x5 := hx.cell1 x5
          replace x6 := hx.cell1 x6
          replace x7 := hx.cell1 x7
          replace hbl2 := cell_lt x0
          have hjb : decide (j < n) = true := decide_eq_true hlj
          have hljl : j < l.length := by rw [hn.out]; exact hlj
          have hgx := hgk.out _ (List.getElem_mem hljl)
          have hpts := pts_of (hgp.out j)
          have hpl : (ptsL (pre ++ l.take j)).length ≤ 20000 := by
            have h1 := ptsL_len (pre ++ l.take j)
            have h2 := hle2.out j
            have h3 := hlen.out
            rw [List.length_append] at h1
            omega
          have hnx : Hid (ptsL (pre ++ l.take (j + 1)) = ptsX (ptsL (pre ++ l.take j)) (l[j]'(by rw [hn.out]; exact hlj))) := Lib.hid (by
            rw [List.take_succ_eq_append_getElem hljl, ← List.append_assoc, ptsL_snoc])
          have hbd := hpts.bd
          generalize ptsL (pre ++ l.take j) = ps at *
          have hlo := fun (h : (l[j]'(by rw [hn.out]; exact hlj)).loI = false) => goodB.smlo hgx h
          have hhi := fun (h : (l[j]'(by rw [hn.out]; exact hlj)).hiI = false) => goodB.smhi hgx h
          generalize (l[j]'(by rw [hn.out]; exact hlj)) = x at *
          clear hgx hpts
          obtain ⟨⟨p1, p2⟩, ⟨p3, p4⟩, lO, rO, lI, rI⟩ := x
          dsimp only at *
          have hnx2 : Hid (ptsL (pre ++ l.take (j + 1)) = if rI then (if lI then ps else putR ps ⟨p1, p2⟩) else putR (if lI then ps else putR ps ⟨p1, p2⟩) ⟨p3, p4⟩) := Lib.hid (by rw [hnx.out]; rfl)
          clear hnx
          have hps : Hid (∀ q ∈ ps, q.bd) := hbd
          have hps1 : Hid (∀ q ∈ (if lI then ps else putR ps ⟨p1, p2⟩), q.bd) := Lib.hid (by
            intro q hq
            split at hq
            · exact hps.out q hq
            · rename_i hli
              rcases mem_putR.1 hq with rfl | hq
              · exact smallB_bd (hlo (by simpa using hli))
              · exact hps.out q hq)
          have hpl1 : (if lI then ps else putR ps ⟨p1, p2⟩).length ≤ 20001 := by
            split
            · omega
            · have := putR_len ps ⟨p1, p2⟩; omega
          clear hbd
          go_upto_region 9 with (fail)
          have hO := Proofs.Ytmbkefgmiehdiaa.Own.new wr #[.int .i64 p1, .int .i64 p2, .int .i64 p3, .int .i64 p4, .bool lO, .bool rO, .bool lI, .bool rI] 43
          have hx1 := Ext.new wr (.cells #[.int .i64 p1, .int .i64 p2, .int .i64 p3, .int .i64 p4, .bool lO, .bool rO, .bool lI, .bool rI] 43)
          replace hx := hx.then hx1
          replace hp := hp.mono mono_RatR hx1.ple
          clear hx1 x0 x1 x2 x3 x4 x5 x6 x7 h0' hbl' hbl2
          generalize wr.heap.size = b6 at *
          generalize wr.alloc _ = W at *
          obtain ⟨c1, f1⟩ := hO.facts
          have z1 := hO.lt
          go_upto_if 31 with (fail)
          go_cut [3] (fun v3 wx => RatsR (ph wx) v3 (if lI then ps else putR ps ⟨p1, p2⟩) ∧ Own wx b6 #[.int .i64 p1, .int .i64 p2, .int .i64 p3, .int .i64 p4, .bool lO, .bool rO, .bool lI, .bool rI] 43 ∧ Ext w wx)
          case first =>
            cases lI with
            | true =>
              go_wp2_with fail
              go_meet
              case rel => exact ⟨by simpa using hp, hO, hx⟩
            | false =>
              have hput := put_c _ ps ⟨p1, p2⟩ _ hp (by omega) hps.out (smallB_bd (hlo rfl)) (smallB_I (hlo rfl))
              unfold raA at hput
              replace hput := Lib.hid hput
              go_wp2_with fail
              refine hput.out.mono ?_
              rintro e w5 ⟨v5, rfl, hx5, hr5⟩
              have hO5 := hO.keep hx5
              go_wp2_with fail
              go_meet
              case rel => exact ⟨by simpa using hr5, hO5, hx.then hx5⟩
          case rest =>
            clear hp hO hx c1 f1 z1
            obtain ⟨hp, hO, hx⟩ := hcut
            generalize (if lI then ps else putR ps ⟨p1, p2⟩) = qs at *
            obtain ⟨c1, f1⟩ := hO.facts
            have z1 := hO.lt
            cases rI with
            | true =>
              have hnx3 : Hid (ptsL (pre ++ l.take (j + 1)) = qs) := Lib.hid (by rw [hnx2.out]; simp)
              go_wp2_with fail
              go_roundw
              case rel => exact ⟨j + 1, by omega, by go_num, by rw [hnx3.out]; exact hp, hx⟩
              case measure => simp [intOf]; omega
            | false =>
              have hnx3 : Hid (ptsL (pre ++ l.take (j + 1)) = putR qs ⟨p3, p4⟩) := Lib.hid (by rw [hnx2.out]; simp)
              have hput := put_c _ qs ⟨p3, p4⟩ _ hp (by omega) hps1.out (smallB_bd (hhi rfl)) (smallB_I (hhi rfl))
              unfold raA at hput
              replace hput := Lib.hid hput
              go_wp2_with fail
              refine hput.out.mono ?_
              rintro e w5 ⟨v5, rfl, hx5, hr5⟩
              go_wp2_with fail
              go_roundw
              case rel => exact ⟨j + 1, by omega, by go_num, by rw [hnx3.out]; exact hr5, hx.then hx5⟩
              case measure => simp [intOf]; omega
        · have hjb : decide (j < n) = false := by simpa using hlj
          have hjn : j = n := by omega
          have hp2 : Hid (RatsR (ph wr) u3 (ptsL (ls.take (k + 1)).flatten)) := Lib.hid (by rw [← hdn.out, ← hjn]; exact hp)
          go_wp2_with fail
          go_roundw
          case rel => exact ⟨k + 1, by omega, by go_num, hp2.out, hx⟩
          case measure => simp [intOf]; omega
    · have hja : decide (k < N) = false := by simpa using hlt
      have hkn : k = N := by omega
      have hall : Hid ((ls.take k).flatten = ls.flatten) := Lib.hid (by rw [List.take_of_length_le (by rw [hN.out]; omega)])
      rw [hall.out] at hp
      go_wp2_with fail
      go_ret
      exact ⟨_, rfl, hx, hp⟩
end Go.Proofs.Ytmbkefgmiehdiaa
