/- package span: combine. -/
import Derived.Deep.CutBlock
import Derived.Test.YtmbkefgmiehdiaaSpB
import Derived.Test.YtmbkefgmiehdiaaSpQ
namespace Go.Proofs.Ytmbkefgmiehdiaa
open Go.RowKit Go.Shelf
set_option linter.unusedSimpArgs false
set_option linter.unusedVariables false
/-- a list of intervals and an error come back -/
def SetRes (w : World) (r : List Itv × Int) (e : Ending) (w' : World) : Prop := ∃ v, e = .returned (.tuple #[v, .int .i64 r.2]) ∧ Ext w w' ∧ ItvsR (ph w') v r.1
def NewSl (W : World) (n : Nat) (c : Array Value) (T : TypeId) : Prop1 := fun v w => ∃ g, v = .slice (some ⟨g, 0, none⟩) n n ∧ Own w g c T ∧ W.heap.size ≤ g
theorem stab_NewSl {W : World} (W0 : World) (n : Nat) (c : Array Value) (T : TypeId) : Stable W (NewSl W0 n c T) := fun v w w' _ ⟨g, h1, h2, h3⟩ e => ⟨g, h1, h2.keep e, h3⟩
theorem gat_take {l : List Itv} {j : Nat} (h : j < l.length) : gat (l.take (j + 1)) = gat (l.take j) ++ [loE l[j], hiE l[j]] := by
  rw [List.take_succ_eq_append_getElem h, gat_append]; rfl
theorem flat_take {ls : List (List Itv)} {k : Nat} (h : k < ls.length) : (ls.take (k + 1)).flatten = (ls.take k).flatten ++ ls[k] := by
  rw [List.take_succ_eq_append_getElem h, List.flatten_append]; simp
theorem flat_le {ls : List (List Itv)} {k j : Nat} (h : k < ls.length) : (ls.take k).flatten.length + (ls[k].take j).length ≤ ls.flatten.length := by
  have e : ls.flatten = (ls.take k).flatten ++ (ls[k] ++ (ls.drop (k + 1)).flatten) := by
    conv => lhs; rw [← List.take_append_drop k ls, List.flatten_append, List.drop_eq_getElem_cons h]
    rfl
  rw [e]
  simp only [List.length_append, List.length_take]; omega
theorem cells_sm {H : PH} : ∀ {ys : List En} {c : List Value} (hs : ∀ e ∈ ys, e.sm), Cells H EnR 4 c ys → ∃ zs : List SmT, zs.map (·.1) = ys ∧ Cells H SmR 4 c zs
  | [], c, _, h => ⟨[], rfl, h⟩
  | y :: ys, c, hs, h => by
    obtain ⟨cs, rest, rfl, h1, h2, h3⟩ := h
    obtain ⟨zs, h4, h5⟩ := cells_sm (fun e he => hs e (List.mem_cons_of_mem _ he)) h3
    exact ⟨⟨y, hs y List.mem_cons_self⟩ :: zs, by rw [List.map_cons, h4], cs, rest, rfl, h1, h2, h5⟩
theorem cells_en {H : PH} : ∀ {zs : List SmT} {c : List Value}, Cells H SmR 4 c zs → Cells H EnR 4 c (zs.map (·.1))
  | [], c, h => h
  | z :: zs, c, h => by
    obtain ⟨cs, rest, rfl, h1, h2, h3⟩ := h
    exact ⟨cs, rest, rfl, h1, h2, cells_en h3⟩
theorem ownC_sm {H : PH} {w : World} {T : TypeId} {v : Value} {ys : List En} (h : OwnC H w EnR 4 T v ys) (hs : ∀ e ∈ ys, e.sm) : ∃ zs : List SmT, zs.map (·.1) = ys ∧ OwnC H w SmR 4 T v zs := by
  rcases h with ⟨h1, rfl⟩ | ⟨g, cap, cur, h1, h2, h3, h4, h5, h6⟩
  · exact ⟨[], rfl, .inl ⟨h1, rfl⟩⟩
  · obtain ⟨zs, h7, h8⟩ := cells_sm hs h6
    have hl : zs.length = ys.length := by rw [← h7, List.length_map]
    exact ⟨zs, h7, .inr ⟨g, cap, cur, by rw [hl]; exact h1, h2, by rw [hl]; exact h3, h4, h5, by rw [hl]; exact h8⟩⟩
theorem ownC_en {H : PH} {w : World} {T : TypeId} {v : Value} {zs : List SmT} (h : OwnC H w SmR 4 T v zs) : OwnC H w EnR 4 T v (zs.map (·.1)) := by
  rcases h with ⟨h1, rfl⟩ | ⟨g, cap, cur, h1, h2, h3, h4, h5, h6⟩
  · exact .inl ⟨h1, rfl⟩
  · exact .inr ⟨g, cap, cur, by rw [List.length_map]; exact h1, h2, by rw [List.length_map]; exact h3, h4, h5, by rw [List.length_map]; exact cells_en h6⟩
theorem fin_len (D : List En) : (fin D).length ≤ D.length + 1 := by unfold fin; split <;> simp
theorem ddP_len : ∀ (l : List En) (d : Option En), (ddP d l).length ≤ l.length
  | [], _ => Nat.le_refl _
  | x :: r, d => by
    rw [ddP]
    have := ddP_len r (some x.k)
    split
    · simp; omega
    · simp; omega
abbrev ownV (v : Value) (xs : List Itv) : Chunk := own mono_ItvR 8 43 v xs
theorem marks_drop {keep : List Bool → Bool} {ls : List (List Itv)} {E : List En} {k : Nat} (h : k < E.length) : (marks keep ls E).drop k = (E[k], decide (E[k].far ≠ 1) && keep (ls.map fun l => covB l E[k])) :: (marks keep ls E).drop (k + 1) := by
  have hl : k < (marks keep ls E).length := by unfold marks; rw [List.length_map]; exact h
  rw [List.drop_eq_getElem_cons hl]
  congr 1
  simp [marks]
theorem marks_len (keep : List Bool → Bool) (ls : List (List Itv)) (E : List En) : (marks keep ls E).length = E.length := by unfold marks; rw [List.length_map]
theorem pairs_append (l r : List (En × En)) : pairs (l ++ r) = pairs l ++ pairs r := by unfold pairs; rw [List.map_append]
theorem pairs_len (l : List (En × En)) : (pairs l).length = l.length := by unfold pairs; rw [List.length_map]
theorem betw_I {a b : En} (ha : a.at'.I) (hb : b.at'.I) : (betw a b).I := by
  have z : Rat2.I ⟨0, 0⟩ := by unfold Rat2.I I64; simp
  unfold betw Itv.I
  dsimp only
  constructor
  · split
    · exact z
    · exact ha
  · split
    · exact z
    · exact hb
def ptrE (g : Nat) (f : Option Nat) : Value := .pointer (f.map fun j => ⟨g, j * 4, none⟩)
theorem last_get (D : List En) (h : 0 < D.length) : D.getLast?.getD botE = D[D.length - 1] := by
  rw [List.getLast?_eq_getElem?, List.getElem?_eq_getElem (by omega)]; rfl
set_option maxRecDepth 100000 in
set_option maxHeartbeats 8000000 in
theorem combine_c (fid : Nat) (keep : List Bool → Bool) (ls : List (List Itv)) (vl : Value) (w : World) (hr : SetsR (ph w) vl ls) (hg : ∀ x ∈ ls.flatten, goodB x = true) (hlen : ls.flatten.length ≤ 10000) (hls : ls.length ≤ 10000) (hk : KeepC fid keep ls.length)
    (hfn : ∀ args w, (callFunc fid args).run Try.prog w = .ok (.enter fid args) w) : Calls Try.prog 41 #[.func (.func fid) #[] #[], vl] w (SetRes w (fewE (combF keep ls))) := by
  obtain ⟨a, c, rfl, hlen2, hr⟩ := hr.form
  have hfin : ∀ ys : List En, ys.Perm (botE :: gat ls.flatten) → ys.Pairwise (fun x y => lessE y x = false) → Ends ls (fin (dd ys)) ∧ 0 < (dd ys).length := fun ys h1 h2 => ends_of hg h1 h2
  have hgl : Hid (∀ k (h : k < ls.length), ∀ x ∈ ls[k], goodB x = true) := Lib.hid fun k h x hx => hg x (List.mem_flatten.2 ⟨ls[k], List.getElem_mem h, hx⟩)
  have hsm : Hid (∀ e ∈ botE :: gat ls.flatten, e.sm) := Lib.hid fun e he => by
    rcases List.mem_cons.1 he with rfl | he
    · exact .inr (.inl rfl)
    · exact gat_sm hg e he
  replace hfin := Lib.hid hfin
  replace hk := Lib.hid hk
  replace hlen := Lib.hid hlen
  replace hg := Lib.hid hg
  have hM0 := ((Mem.start w noH (noH_le _)).new (enC botE).toArray 73).asOwn (xs := [botE]) (E := EnR) (sz := 4) 0 rfl mono_EnR (n := 1) (by simp) (by decide) rfl ⟨enC botE, [], rfl, rfl, ⟨rfl, En.sm.I (.inr (.inl rfl))⟩, rfl⟩
  simp only [List.nil_append, List.set_cons_zero] at hM0
  replace hM0 : Mem w noH [ownN (.slice (some ⟨w.heap.size, 0, none⟩) 1 1) [botE]] noH (w.alloc (.cells #[.int .i64 (-1), .int .i64 0, .int .i64 0, .bool false] 73)) := hM0
  go_enter Try.func41, Try.ntmps41
  go_upto_region 2 with (fail)
  generalize w.alloc _ = W0 at *
  generalize Value.slice (some ⟨w.heap.size, 0, none⟩) 1 1 = v0 at *
  go_upto_block 0 with (fail)
  go_cut [6] (fun v6 wx => ∃ (ys : List En), Hid (ys = botE :: gat ls.flatten) ∧ Mem w noH [ownN v6 ys] noH wx)
  case first =>
    go_wp2_with fail
    go_loopw [6, 26] (fun v6 vi wr => ∃ (k : Nat) (ys : List En), k ≤ ls.length ∧ vi = .int .i64 k ∧ Hid (ys = botE :: gat (ls.take k).flatten) ∧ Mem w noH [ownN v6 ys] noH wr) (fun _ vi _ => ls.length - (intOf vi).toNat)
    case atStart => exact ⟨0, [botE], by omega, rfl, Lib.hid rfl, hM0⟩
    case round =>
      clear hM0
      obtain ⟨k, ys, hkl, rfl, hys, hM⟩ := hrel
      by_cases hlt : k < ls.length
      · obtain ⟨b, o, p, q, rfl, h0, hbl, hI⟩ := SetsR.at hr k hlt
        replace h0 := hM.ex.cell1 h0
        replace hbl := cell_lt h0
        have hja : decide (k < ls.length) = true := decide_eq_true hlt
        have hgk := hgl.out k hlt
        have hle := Lib.hid (fun j => flat_le (k := k) (j := j) hlt)
        have hfl := Lib.hid (flat_take hlt)
        obtain ⟨l, hl⟩ : ∃ l, l = ls[k] := ⟨_, rfl⟩
        rw [← hl] at h0 hI hgk
        replace hl := Lib.hid hl
        obtain ⟨n, hn⟩ : ∃ n, l.length = n := ⟨_, rfl⟩
        rw [hn] at h0 hI
        have hn6 : n ≤ 10000 := by
          have h1 := hle.out n
          have h2 := hlen.out
          rw [← hl.out, List.take_of_length_le (l := l) (by omega), hn] at h1
          omega
        replace hn := Lib.hid hn
        replace hgk := Lib.hid hgk
        have hIw : Hid (∀ w', Ext w w' → ItvsR (ph w') (.slice p n q) l) := Lib.hid fun w' hx => hI.mono mono_ItvR hx.ple
        go_wp2_with fail
        go_loopw [6, 32] (fun v6 vi wi => ∃ (j : Nat) (ys : List En), j ≤ n ∧ vi = .int .i64 j ∧ Hid (ys = botE :: gat ((ls.take k).flatten ++ l.take j)) ∧ Mem w noH [ownN v6 ys] noH wi) (fun _ vi _ => n - (intOf vi).toNat)
        case atStart => exact ⟨0, ys, by omega, rfl, Lib.hid (by rw [hys.out]; simp), hM⟩
        case round =>
          clear hM
          obtain ⟨j, zs, hjn, rfl, hzs, hM⟩ := hrel
          by_cases hlj : j < n
          · obtain ⟨b', o', rfl, x0, x1, x2, x3, x4, x5, x6, x7, hbl', hxI⟩ := ItvsR.at (hIw.out _ hM.ex) j (by rw [hn.out]; exact hlj)
            have hjb : decide (j < n) = true := decide_eq_true hlj
            have hends := fun w => ends_c (l[j]'(by rw [hn.out]; exact hlj)) w
            have hgx := hgk.out (l[j]'(by rw [hn.out]; exact hlj)) (List.getElem_mem _)
            have hz2 : Hid (zs ++ [loE (l[j]'(by rw [hn.out]; exact hlj)), hiE (l[j]'(by rw [hn.out]; exact hlj))] = botE :: gat ((ls.take k).flatten ++ l.take (j + 1))) := Lib.hid (by
              rw [hzs.out, gat_append, gat_append, gat_take (by rw [hn.out]; exact hlj)]; simp)
            have hLI := (goodB.lo hgx).I
            have hRI := (goodB.hi hgx).I
            unfold endsV at hends
            generalize loE (l[j]'(by rw [hn.out]; exact hlj)) = L at *
            generalize hiE (l[j]'(by rw [hn.out]; exact hlj)) = R at *
            generalize l[j]'(by rw [hn.out]; exact hlj) = x at *
            obtain ⟨⟨p1, p2⟩, ⟨p3, p4⟩, lO, rO, lI, rI⟩ := x
            unfold itA at hends
            dsimp only at *
            have hzl : zs.length ≤ 30000 := by
              have h1 := hle.out j
              have h2 := hlen.out
              have h3 := congrArg List.length hzs.out
              rw [List.length_cons, gat_len, List.length_append, hl.out] at h3
              omega
            replace hends := Lib.hid hends
            clear hgx
            go_upto_region 8 with (fail)
            have hM2 := hM.ext (Ext.new wr (.cells #[.int .i64 p1, .int .i64 p2, .int .i64 p3, .int .i64 p4, .bool lO, .bool rO, .bool lI, .bool rI] 43))
            have hO := Proofs.Ytmbkefgmiehdiaa.Own.new wr #[.int .i64 p1, .int .i64 p2, .int .i64 p3, .int .i64 p4, .bool lO, .bool rO, .bool lI, .bool rI] 43
            generalize wr.heap.size = b10 at *
            generalize wr.alloc _ = W1 at *
            obtain ⟨c1, f1⟩ := hO.facts
            have z1 := hO.lt
            clear x0 x1 x2 x3 x4 x5 x6 x7 hM hO
            go_wp2_with fail
            refine RetV_at (hends.out _) ?_
            intro w2 hx2
            replace hM2 := hM2.ext hx2
            clear c1 f1 z1 hx2 hends
            obtain ⟨f, ⟨n1, d1⟩, t⟩ := L
            obtain ⟨f', ⟨n', d'⟩, t'⟩ := R
            unfold enA
            dsimp only at *
            go_upto_region 9 with (fail)
            have k1 := (Proofs.Ytmbkefgmiehdiaa.Own.new w2 #[.int .i64 f, .int .i64 n1, .int .i64 d1, .bool t] 73).alloc (.cells #[.int .i64 f', .int .i64 n', .int .i64 d', .bool t'] 73)
            have k2 := Proofs.Ytmbkefgmiehdiaa.Own.new' (w2.alloc (.cells #[.int .i64 f, .int .i64 n1, .int .i64 d1, .bool t] 73)) #[.int .i64 f', .int .i64 n', .int .i64 d', .bool t'] 73 (n := w2.heap.size + 1) (by simp)
            have hy := (Ext.new w2 (.cells #[.int .i64 f, .int .i64 n1, .int .i64 d1, .bool t] 73)).alloc' (.cells #[.int .i64 f', .int .i64 n', .int .i64 d', .bool t'] 73)
            replace hM2 := hM2.ext hy
            generalize w2.heap.size = b11 at *
            generalize (w2.alloc _).alloc _ = W2 at *
            obtain ⟨c1, f1⟩ := k1.facts
            obtain ⟨c2, f2⟩ := k2.facts
            have z1 := k1.lt
            have z2 := k2.lt
            have hM3 := hM2.ext (Ext.new W2 (.cells #[.int .i64 f, .int .i64 n1, .int .i64 d1, .bool t, .int .i64 f', .int .i64 n', .int .i64 d', .bool t'] 73))
            have hS := Src.lit2 (H := noH) (E := EnR) (sz := 4) (w := W2.alloc (.cells #[.int .i64 f, .int .i64 n1, .int .i64 d1, .bool t, .int .i64 f', .int .i64 n', .int .i64 d', .bool t'] 73)) (b := W2.heap.size) (x := ⟨f, ⟨n1, d1⟩, t⟩) (y := ⟨f', ⟨n', d'⟩, t'⟩) (cs := enC ⟨f, ⟨n1, d1⟩, t⟩) (ds := enC ⟨f', ⟨n', d'⟩, t'⟩) ⟨rfl, hLI⟩ rfl ⟨rfl, hRI⟩ rfl (fun j => by rw [(Proofs.Ytmbkefgmiehdiaa.Own.new W2 _ _).facts.1]; simp [enC])
            obtain ⟨a6, c6, e6, -⟩ := hM3.form 0 rfl
            clear hM2 k1 k2 hy
            go_wp2_with (first | (at_builtin; refine wpList_append_M 0 rfl _ _ 108 rfl Try.underlying108 infoEn rfl rfl rfl hM3 rfl hS one_EnR (by simp; omega) (by simp; omega) ?c5))
            case c5 =>
              intro v' w' hM4
              try simp only [List.set_cons_zero] at hM4
              rw [hz2.out] at hM4
              obtain ⟨a7, c7, rfl, -⟩ := hM4.form 0 rfl
              clear hM3 hS c1 f1 c2 f2 z1 z2
              go_wp2_with fail
              go_roundw
              case rel => exact ⟨j + 1, _, by omega, by go_num, hz2 ▸ Lib.hid rfl, hM4⟩
              case measure => simp [intOf]; omega
          · have hjb : decide (j < n) = false := by simpa using hlj
            have hzs2 : Hid (zs = botE :: gat (ls.take (k + 1)).flatten) := Lib.hid (by
              rw [hzs.out, hfl.out, hl.out]
              congr 2
              rw [← hl.out, List.take_of_length_le (l := l) (i := j) (by rw [hn.out]; omega)])
            go_wp2_with fail
            go_roundw
            case rel => exact ⟨k + 1, zs, by omega, by go_num, hzs2, hM⟩
            case measure => simp [intOf]; omega
      · have hja : decide (k < ls.length) = false := by simpa using hlt
        have hys2 : Hid (ys = botE :: gat ls.flatten) := Lib.hid (by rw [hys.out, List.take_of_length_le (by omega)])
        go_wp2_with fail
        go_meet
        case rel => exact ⟨ys, hys2, hM⟩
  case rest =>
    clear hM0
    obtain ⟨ys, hys, hM⟩ := hcut
    obtain ⟨zs, hzs, hZ⟩ := ownC_sm (hM.ok 0 _ rfl) (by rw [hys.out]; exact hsm.out)
    have hzl : zs.length ≤ 30000 := by
      have h2 := hlen.out
      have h3 := congrArg List.length hys.out
      rw [List.length_cons, gat_len, ← hzs, List.length_map] at h3
      omega
    obtain ⟨a6, c6, e6, -⟩ := OwnC.form hZ
    subst e6
    have hso2 := sortE_c noH _ zs _ hZ (by omega)
    replace hso2 := Lib.hid hso2
    clear hsm hgl
    go_wp2_with fail
    refine hso2.out.mono ?_
    rintro e w3 ⟨rfl, xs, hp1, hs1, hO1, hg1⟩
    have hM3 := hM.put 0 rfl (c' := ownN (.slice a6 zs.length c6) (xs.map fun x : SmT => x.1)) (ownC_en hO1) (fun k hk => .inl hk) (hM.ex.grown hg1 fun k hk => (hM.fr 0 _ rfl k hk).1) fun k hk hne => hg1.block k hk (fun e => hne e.symm)
    simp only [List.set_cons_zero] at hM3
    have hp2 : Hid ((xs.map fun x : SmT => x.1).Perm (botE :: gat ls.flatten)) := Lib.hid (by rw [← hys.out, ← hzs]; exact hp1.map _)
    have hs2 : Hid ((xs.map fun x : SmT => x.1).Pairwise fun x y => lessE y x = false) := Lib.hid (by rw [List.pairwise_map]; exact hs1)
    have hxl : xs.length ≤ 30000 := by rw [hp1.length_eq]; exact hzl
    have hcp := compactEn_c _ (xs.map fun x : SmT => x.1) w w3 [] hM3 (by rw [List.length_map]; omega)
    have hD := hfin.out _ hp2.out hs2.out
    have hDl : (dd (xs.map fun x : SmT => x.1)).length ≤ 30000 := by
      have := ddP_len (xs.map fun x : SmT => x.1) none
      rw [List.length_map] at this
      show (ddP none _).length ≤ _
      omega
    replace hcp := Lib.hid hcp
    clear hso2 hM hM3 hg1 hO1 hs1 hp1 hp2 hs2 hxl hZ hzl hzs
    generalize dd (xs.map fun x : SmT => x.1) = D at *
    obtain ⟨hE, hD0⟩ := hD
    go_wp2_with fail
    refine hcp.out.mono ?_
    rintro e w4 ⟨v4, rfl, hM4⟩
    obtain ⟨a4, c4, rfl, -⟩ := hM4.form 0 rfl
    clear hcp hfin hys
    obtain ⟨g, rfl, hgz, gc, -⟩ := endsM_row hM4 (List.getElem?_eq_getElem (show D.length - 1 < D.length by omega))
    have hlast := last_get D hD0
    have hfd : Hid (fin D = if D[D.length - 1].far ≠ 1 then D ++ [topE] else D) := Lib.hid (by unfold fin; rw [hlast])
    generalize D[D.length - 1] = z at *
    have g0 : _ = some (Value.int .i64 z.far) := gc 0 _ rfl
    rw [Nat.add_zero] at g0
    have hwl : IntKind.i64.wrap ((D.length : Int) - 1) = ((D.length - 1 : Nat) : Int) := by rw [IntKind.wrap_i64]; omega
    clear gc hlast
    go_upto_if 59 with (fail)
    go_cut [6] (fun v6 wx => Mem w noH [ownN v6 (fin D)] noH wx)
    case first =>
      by_cases hz1 : z.far = 1
      · have hzb : (z.far != 1) = false := by simpa using hz1
        rw [if_neg (by simpa using hz1)] at hfd
        generalize z.far = zf at *
        go_wp2_with fail
        go_meet
        case rel => rw [hfd.out]; exact hM4
      · have hzb : (z.far != 1) = true := by simpa using hz1
        rw [if_pos hz1] at hfd
        generalize z.far = zf at *
        have hM5 := hM4.ext (Ext.new w4 (.cells #[.int .i64 1, .int .i64 0, .int .i64 0, .bool false] 73))
        have hS := Src.lit1 (H := noH) (E := EnR) (sz := 4) (w := w4.alloc (.cells #[.int .i64 1, .int .i64 0, .int .i64 0, .bool false] 73)) (b := w4.heap.size) (x := topE) (cs := enC topE) ⟨rfl, En.sm.I (.inr (.inr rfl))⟩ rfl (fun j => by rw [(Proofs.Ytmbkefgmiehdiaa.Own.new w4 _ _).facts.1]; simp [enC, topE])
        go_wp2_with (first | (at_builtin; refine wpList_append_M 0 rfl _ _ 108 rfl Try.underlying108 infoEn rfl rfl rfl hM5 rfl hS one_EnR (by simp; omega) (by simp; omega) ?d5))
        case d5 =>
          intro v' w' hM6
          try simp only [List.set_cons_zero] at hM6
          rw [← hfd.out] at hM6
          obtain ⟨a7, c7, rfl, -⟩ := hM6.form 0 rfl
          clear hM5 hS
          go_wp2_with fail
          go_meet
          case rel => exact hM6
    case rest =>
      have hDl2 : (fin D).length ≤ 30001 := by have := fin_len D; omega
      clear hM4 g0 hgz hfd hwl hDl hD0
      generalize fin D = E at *
      have hM := hcut
      clear hcut
      obtain ⟨a6, c6, rfl, -⟩ := hM.form 0 rfl
      obtain ⟨Z, hZd⟩ : ∃ Z, Z = marks keep ls E := ⟨_, rfl⟩
      have hZl : Z.length = E.length := by rw [hZd, marks_len]
      have hres : Hid (combF keep ls = pairs (runZ none Z)) := Lib.hid (by
        rw [hZd]; unfold combF
        exact Ends.uniq (ends_starts hg.out) hE)
      have hpos : 0 < E.length := by
        obtain ⟨es, he⟩ := hE.shape
        rw [he]; simp
      obtain ⟨g, rfl, -, -, -⟩ := endsM_row hM (List.getElem?_eq_getElem hpos)
      have hEsm := hE.sm
      replace hEsm := Lib.hid hEsm
      replace hE := Lib.hid hE
      have hZl2 := runZ_len Z none
      replace hZd := Lib.hid hZd
      go_upto_block 4 with (fail)
      go_cut [13] (fun v13 wx => Mem w noH [ownV v13 (pairs (runZ none Z))] noH wx)
      case first =>
        have hM1 := hM.nil mono_ItvR 8 43
        simp only [List.cons_append, List.nil_append] at hM1
        go_wp2_with fail
        go_loopw [13, 14, 66] (fun vo vf vi wr => ∃ (k : Nat) (f : Option Nat) (out : List Itv), k ≤ E.length ∧ vi = .int .i64 k ∧ vf = ptrE g f ∧ Hid ((∀ j, f = some j → j < E.length) ∧ pairs (runZ none Z) = out ++ pairs (runZ (f.map fun j => E.getD j botE) (Z.drop k))) ∧ Mem w noH [ownN (.slice (some ⟨g, 0, none⟩) E.length c6) E, ownV vo out] noH wr) (fun _ _ vi _ => E.length - (intOf vi).toNat)
        case atStart => exact ⟨0, none, [], by omega, rfl, rfl, Lib.hid ⟨(fun j h => by cases h), rfl⟩, hM1⟩
        case round =>
          clear hM hM1
          obtain ⟨k, f, out, hkE, rfl, rfl, hrun, hM⟩ := hrel
          by_cases hlt : k < E.length
          · obtain ⟨g', e', hgz, gc, hEI⟩ := endsM_row hM (List.getElem?_eq_getElem hlt)
            cases e'
            have hja : decide (k < E.length) = true := decide_eq_true hlt
            have hzk := marks_drop (keep := keep) (ls := ls) hlt
            rw [← hZd.out] at hzk
            have hesm := hEsm.out _ (List.getElem_mem hlt)
            obtain ⟨yes, hyes⟩ : ∃ yes, (decide (E[k].far ≠ 1) && keep (ls.map fun l => covB l E[k])) = yes := ⟨_, rfl⟩
            rw [hyes] at hzk
            have hgetk : E.getD k botE = E[k] := by simp [List.getD_eq_getElem?_getD, hlt]
            obtain ⟨e, he⟩ : ∃ e, e = E[k] := ⟨_, rfl⟩
            rw [← he] at gc hEI hzk hesm hyes hgetk
            replace he := Lib.hid he
            replace hzk := Lib.hid hzk
            replace hyes := Lib.hid hyes
            replace hgetk := Lib.hid hgetk
            obtain ⟨oa, oc, rfl, -⟩ := hM.form 1 rfl
            have hout : out.length ≤ 30001 := by
              have h1 := congrArg List.length hrun.out.2
              rw [pairs_len, List.length_append] at h1
              omega
            have g0 : _ = some (Value.int .i64 e.far) := gc 0 _ rfl
            have g1 : _ = some (Value.int .i64 e.at'.num) := gc 1 _ rfl
            have g2 : _ = some (Value.int .i64 e.at'.den) := gc 2 _ rfl
            have g3 : _ = some (Value.bool e.aft) := gc 3 _ rfl
            rw [Nat.add_zero] at g0
            go_upto_region 21 with (fail)
            have hM2 := hM.new #[.int .i64 e.far, .int .i64 e.at'.num, .int .i64 e.at'.den, .bool e.aft] 73
            simp only [List.cons_append, List.nil_append] at hM2
            generalize wr.heap.size = b16 at *
            generalize wr.alloc _ = W1 at *
            clear gc g0 g1 g2 g3 hM hgz
            go_upto_block 6 with (fail)
            go_cut [17] (fun v17 wx => Mem w noH [ownN (.slice (some ⟨g, 0, none⟩) E.length c6) E, ownV (.slice oa out.length oc) out, box b16 #[.int .i64 e.far, .int .i64 e.at'.num, .int .i64 e.at'.den, .bool e.aft] 73, own mono_BoolR 1 4 v17 (ls.map fun l => covB l e)] noH wx)
            case first =>
              have hM3 := hM2.nil mono_BoolR 1 4
              simp only [List.cons_append, List.nil_append] at hM3
              go_wp2_with fail
              go_loopw [17, 73] (fun vb vj wi => ∃ (j : Nat) (bs : List Bool), j ≤ ls.length ∧ vj = .int .i64 j ∧ Hid (bs = (ls.take j).map fun l => covB l e) ∧ Mem w noH [ownN (.slice (some ⟨g, 0, none⟩) E.length c6) E, ownV (.slice oa out.length oc) out, box b16 #[.int .i64 e.far, .int .i64 e.at'.num, .int .i64 e.at'.den, .bool e.aft] 73, own mono_BoolR 1 4 vb bs] noH wi) (fun _ vj _ => ls.length - (intOf vj).toNat)
              case atStart => exact ⟨0, [], by omega, rfl, Lib.hid rfl, hM3⟩
              case round =>
                clear hM2 hM3
                obtain ⟨j, bs, hjl, rfl, hbs, hM⟩ := hrel
                by_cases hlj : j < ls.length
                · obtain ⟨b, o, p, q, rfl, h0, hbl, hI⟩ := SetsR.at hr j hlj
                  replace h0 := hM.ex.cell1 h0
                  replace hbl := cell_lt h0
                  have hjb : decide (j < ls.length) = true := decide_eq_true hlj
                  have hgk : ∀ x ∈ ls[j], goodB x = true := fun x hx => hg.out x (List.mem_flatten.2 ⟨ls[j], List.getElem_mem hlj, hx⟩)
                  have hbs2 : Hid (bs ++ [covB ls[j] e] = (ls.take (j + 1)).map fun l => covB l e) := Lib.hid (by rw [hbs.out, List.take_succ_eq_append_getElem hlj, List.map_append]; rfl)
                  have hbl2 : bs.length ≤ 10000 := by rw [hbs.out, List.length_map, List.length_take]; omega
                  obtain ⟨ba, bc, rfl, -⟩ := hM.form 3 rfl
                  have hcf := fun (w' : World) (hx : Ext w w') (hO : Own w' b16 (enC e).toArray 73) => containsFunc_itv (fun x => insB x e) 90 #[.pointer (some ⟨b16, 0, none⟩)] (.slice p ls[j].length q) ls[j] w' (hI.mono mono_ItvR hx.ple) (enters_of Try.func90 (by kernel_rfl) rfl) (by
                    rintro w'' hx2 x hx3 cs ⟨rfl, -⟩
                    exact cmb3_c x e b16 w'' (hgk x hx3) hesm.bd (hO.keep hx2))
                  change ∀ w' hx hO, Calls _ _ _ w' (RetV w' (.bool (covB ls[j] e))) at hcf
                  have hO1 : Own wr b16 (enC e).toArray 73 := hM.box 2 rfl
                  have hcf2 := hcf _ hM.ex hO1
                  generalize covB ls[j] e = cb at *
                  generalize ls[j].length = nj at *
                  replace hcf2 := Lib.hid hcf2
                  clear hcf hgk hI
                  go_wp2_with fail
                  refine RetV_at hcf2.out ?_
                  intro w5 hx5
                  have hM5 := (hM.ext hx5).ext (Ext.new w5 (.cells #[.bool cb] 4))
                  have hS := Src.lit1 (H := noH) (E := BoolR) (sz := 1) (w := w5.alloc (.cells #[.bool cb] 4)) (b := w5.heap.size) (x := cb) (cs := [.bool cb]) rfl rfl (fun j => by rw [(Proofs.Ytmbkefgmiehdiaa.Own.new w5 _ _).facts.1]; simp)
                  clear hM hx5 hcf2 hO1
                  go_wp2_with (first | (at_builtin; refine wpList_append_M 3 rfl _ _ 67 rfl Try.underlying67 infoBool rfl rfl rfl hM5 rfl hS one_BoolR (by simp; omega) (by simp; omega) ?e5))
                  case e5 =>
                    intro v' w' hM6
                    try simp only [List.set_cons_zero, List.set_cons_succ] at hM6
                    rw [hbs2.out] at hM6
                    obtain ⟨a7, c7, rfl, -⟩ := hM6.form 3 rfl
                    clear hM5 hS
                    go_wp2_with fail
                    go_roundw
                    case rel => exact ⟨j + 1, _, by omega, by go_num, Lib.hid rfl, hM6⟩
                    case measure => simp [intOf]; omega
                · have hjb : decide (j < ls.length) = false := by simpa using hlj
                  have hbs2 : bs = ls.map fun l => covB l e := by rw [hbs.out, List.take_of_length_le (by omega)]
                  rw [hbs2] at hM
                  clear hbs2
                  go_wp2_with fail
                  go_meet
                  case rel => exact hM
            case rest =>
              clear hM2
              have hM := hcut
              clear hcut
              obtain ⟨ba, bc, rfl, -⟩ := hM.form 3 rfl
              have hbr := hM.rep 3 rfl
              rw [List.length_map] at hbr hM ⊢
              have hkc := hk.out _ _ (ls.map fun l => covB l e) hbr (by rw [List.length_map])
              generalize keep (ls.map fun l => covB l e) = kp at *
              replace hkc := Lib.hid hkc
              clear hbr
              obtain ⟨q0, q1⟩ := (hM.box 2 rfl).facts
              have qz := (hM.box 2 rfl).lt
              go_upto_region 27 with (fail)
              go_cut [20] (fun v20 wx => v20 = .bool yes ∧ Mem w noH [ownN (.slice (some ⟨g, 0, none⟩) E.length c6) E, ownV (.slice oa out.length oc) out, box b16 #[.int .i64 e.far, .int .i64 e.at'.num, .int .i64 e.at'.den, .bool e.aft] 73] noH wx)
              case first =>
                by_cases hf1 : e.far = 1
                · have hfb : (e.far != 1) = false := by simpa using hf1
                  have hy2 : Hid (yes = false) := Lib.hid (by rw [← hyes.out]; simp [hf1])
                  generalize e.far = ef at *
                  go_wp2_with fail
                  go_meet
                  case rel => exact ⟨by rw [hy2.out], by simpa using hM.pick [0, 1, 2] (by decide)⟩
                · have hfb : (e.far != 1) = true := by simpa using hf1
                  have hy2 : Hid (yes = kp) := Lib.hid (by rw [← hyes.out]; simp [hf1])
                  generalize e.far = ef at *
                  go_wp2_with fail
                  refine RetV_at hkc.out ?_
                  intro w6 hx6
                  have hM6 := hM.ext hx6
                  go_wp2_with fail
                  go_meet
                  case rel => exact ⟨by rw [hy2.out], by simpa using hM6.pick [0, 1, 2] (by decide)⟩
              case rest =>
                clear hM hkc q0 q1 qz
                obtain ⟨rfl, hM⟩ := hcut
                have hMo : Hid (Mem w noH [ownN (.slice (some ⟨g, 0, none⟩) E.length c6) E, ownV (.slice oa out.length oc) out] noH wc) := Lib.hid (by simpa using hM.pick [0, 1] (by decide))
                cases yes with
                | true =>
                  cases f with
                  | none =>
                    have hrun2 : Hid ((∀ j, some k = some j → j < E.length) ∧ pairs (runZ none Z) = out ++ pairs (runZ ((some k).map fun j => E.getD j botE) (Z.drop (k + 1)))) := Lib.hid ⟨(fun j h => by cases h; exact hlt), by
                      rw [hrun.out.2, hzk.out, Option.map_none, Option.map_some, hgetk.out]; rfl⟩
                    simp only [ptrE, Option.map_none]
                    clear hM
                    go_wp2_with fail
                    go_roundw
                    case rel => exact ⟨k + 1, some k, out, by omega, by go_num, rfl, hrun2, hMo.out⟩
                    case measure => simp [intOf]; omega
                  | some j =>
                    have hrun2 : Hid ((∀ i, some j = some i → i < E.length) ∧ pairs (runZ none Z) = out ++ pairs (runZ ((some j).map fun j => E.getD j botE) (Z.drop (k + 1)))) := Lib.hid ⟨hrun.out.1, by
                      rw [hrun.out.2, hzk.out, Option.map_some]; rfl⟩
                    simp only [ptrE, Option.map_some]
                    clear hM
                    go_wp2_with fail
                    go_roundw
                    case rel => exact ⟨k + 1, some j, out, by omega, by go_num, rfl, hrun2, hMo.out⟩
                    case measure => simp [intOf]; omega
                | false =>
                  cases f with
                  | none =>
                    have hrun2 : Hid ((∀ j, (none : Option Nat) = some j → j < E.length) ∧ pairs (runZ none Z) = out ++ pairs (runZ ((none : Option Nat).map fun j => E.getD j botE) (Z.drop (k + 1)))) := Lib.hid ⟨(fun j h => by cases h), by
                      rw [hrun.out.2, hzk.out, Option.map_none]; rfl⟩
                    simp only [ptrE, Option.map_none]
                    clear hM
                    go_wp2_with fail
                    go_roundw
                    case rel => exact ⟨k + 1, none, out, by omega, by go_num, rfl, hrun2, hMo.out⟩
                    case measure => simp [intOf]; omega
                  | some j =>
                    have hjE := hrun.out.1 j rfl
                    have hgj : E.getD j botE = E[j] := by simp [List.getD_eq_getElem?_getD, hjE]
                    have hrun2 : Hid ((∀ i, (none : Option Nat) = some i → i < E.length) ∧ pairs (runZ none Z) = (out ++ [betw E[j] e]) ++ pairs (runZ ((none : Option Nat).map fun j => E.getD j botE) (Z.drop (k + 1)))) := Lib.hid ⟨(fun j h => by cases h), by
                      rw [hrun.out.2, hzk.out, Option.map_some, Option.map_none, hgj, List.append_assoc]; rfl⟩
                    obtain ⟨g', e', hgz, gc, hEI2⟩ := endsM_row hM (List.getElem?_eq_getElem hjE)
                    cases e'
                    have hsj := hEsm.out _ (List.getElem_mem hjE)
                    have hgood : Hid ((betw E[j] e).I) := Lib.hid (betw_I hEI2.2 hEI.2)
                    have hbt := fun w => between_c E[j] e w
                    generalize E[j] = s at *
                    have g0 : _ = some (Value.int .i64 s.far) := gc 0 _ rfl
                    have g1 : _ = some (Value.int .i64 s.at'.num) := gc 1 _ rfl
                    have g2 : _ = some (Value.int .i64 s.at'.den) := gc 2 _ rfl
                    have g3 : _ = some (Value.bool s.aft) := gc 3 _ rfl
                    rw [Nat.add_zero] at g0
                    obtain ⟨q0, q1⟩ := (hM.box 2 rfl).facts
                    have qz := (hM.box 2 rfl).lt
                    have r0 : _ = some (Value.int .i64 e.far) := q0 0
                    have r1 : _ = some (Value.int .i64 e.at'.num) := q0 1
                    have r2 : _ = some (Value.int .i64 e.at'.den) := q0 2
                    have r3 : _ = some (Value.bool e.aft) := q0 3
                    obtain ⟨bt, hbtd⟩ : ∃ bt, betw s e = bt := ⟨_, rfl⟩
                    rw [hbtd] at hbt hrun2 hgood
                    unfold enA itA at hbt
                    replace hbt := Lib.hid hbt
                    clear gc q0 q1 hM hbtd
                    simp only [ptrE, Option.map_some]
                    go_wp2_with fail
                    (refine wp_region_I 7 (by kernel_rfl) (by kernel_rfl) ?_; simp only [List.toList_toArray, List.take_succ_cons, List.take_zero, List.drop_succ_cons, List.drop_zero])
                    (refine walkI_is (u := ?_) rfl (by simp) rfl ?_ ?_; rotate_left; (focus (intro A w' hS hA K hK; (simp only [List.map_cons, List.map_nil, knows, Is, Op.operands, Call.operands, List.lookup_cons, List.lookup_nil, Nat.reduceBEq, Bool.false_eq_true, if_false, if_true, Act.eval, Array.getD_eq_getD_getElem?, List.getElem?_toArray, List.getElem?_cons_succ, List.getElem?_cons_zero, Option.getD_some, and_true, true_and, List.append_toArray, List.nil_append, List.cons_append, List.toList_toArray, Array.toList_append, Option.toArray, List.append_nil] at hA); first | fail | (obtain ⟨hSc, hSf, hSs⟩ := hS.cells; go_simp; exact hK _ (by first | exact Ext.rfl' _ | exact Ext.new _ _ | assumption)))); (try simp only [List.nil_append, List.cons_append]))
                    (refine walkI_is (u := ?_) rfl (by simp) rfl ?_ ?_; rotate_left; (focus (intro A w' hS hA K hK; (simp only [List.map_cons, List.map_nil, knows, Is, Op.operands, Call.operands, List.lookup_cons, List.lookup_nil, Nat.reduceBEq, Bool.false_eq_true, if_false, if_true, Act.eval, Array.getD_eq_getD_getElem?, List.getElem?_toArray, List.getElem?_cons_succ, List.getElem?_cons_zero, Option.getD_some, and_true, true_and, List.append_toArray, List.nil_append, List.cons_append, List.toList_toArray, Array.toList_append, Option.toArray, List.append_nil] at hA); first | fail | (obtain ⟨hSc, hSf, hSs⟩ := hS.cells; go_simp; exact hK _ (by first | exact Ext.rfl' _ | exact Ext.new _ _ | assumption)))); (try simp only [List.nil_append, List.cons_append]))
                    (refine walkI_is (u := ?_) rfl (by simp) rfl ?_ ?_; rotate_left; (focus (intro A w' hS hA K hK; (simp only [List.map_cons, List.map_nil, knows, Is, Op.operands, Call.operands, List.lookup_cons, List.lookup_nil, Nat.reduceBEq, Bool.false_eq_true, if_false, if_true, Act.eval, Array.getD_eq_getD_getElem?, List.getElem?_toArray, List.getElem?_cons_succ, List.getElem?_cons_zero, Option.getD_some, and_true, true_and, List.append_toArray, List.nil_append, List.cons_append, List.toList_toArray, Array.toList_append, Option.toArray, List.append_nil] at hA); first | fail | (obtain ⟨hSc, hSf, hSs⟩ := hS.cells; go_simp; exact hK _ (by first | exact Ext.rfl' _ | exact Ext.new _ _ | assumption)))); (try simp only [List.nil_append, List.cons_append]))
                    (refine walkI_is (u := ?_) rfl (by simp) rfl ?_ ?_; rotate_left; (focus (intro A w' hS hA K hK; (simp only [List.map_cons, List.map_nil, knows, Is, Op.operands, Call.operands, List.lookup_cons, List.lookup_nil, Nat.reduceBEq, Bool.false_eq_true, if_false, if_true, Act.eval, Array.getD_eq_getD_getElem?, List.getElem?_toArray, List.getElem?_cons_succ, List.getElem?_cons_zero, Option.getD_some, and_true, true_and, List.append_toArray, List.nil_append, List.cons_append, List.toList_toArray, Array.toList_append, Option.toArray, List.append_nil] at hA); first | fail | (obtain ⟨hSc, hSf, hSs⟩ := hS.cells; go_simp; exact hK _ (by first | exact Ext.rfl' _ | exact Ext.new _ _ | assumption)))); (try simp only [List.nil_append, List.cons_append]))
                    (refine walkI_is (u := ?_) rfl (by simp) rfl ?_ ?_; rotate_left; (focus (intro A w' hS hA K hK; (simp only [List.map_cons, List.map_nil, knows, Is, Op.operands, Call.operands, List.lookup_cons, List.lookup_nil, Nat.reduceBEq, Bool.false_eq_true, if_false, if_true, Act.eval, Array.getD_eq_getD_getElem?, List.getElem?_toArray, List.getElem?_cons_succ, List.getElem?_cons_zero, Option.getD_some, and_true, true_and, List.append_toArray, List.nil_append, List.cons_append, List.toList_toArray, Array.toList_append, Option.toArray, List.append_nil] at hA); first | fail | (obtain ⟨hSc, hSf, hSs⟩ := hS.cells; go_simp; exact hK _ (by first | exact Ext.rfl' _ | exact Ext.new _ _ | assumption)))); (try simp only [List.nil_append, List.cons_append]))
                    (refine walkI_is (u := ?_) rfl (by simp) rfl ?_ ?_; rotate_left; (focus (intro A w' hS hA K hK; (simp only [List.map_cons, List.map_nil, knows, Is, Op.operands, Call.operands, List.lookup_cons, List.lookup_nil, Nat.reduceBEq, Bool.false_eq_true, if_false, if_true, Act.eval, Array.getD_eq_getD_getElem?, List.getElem?_toArray, List.getElem?_cons_succ, List.getElem?_cons_zero, Option.getD_some, and_true, true_and, List.append_toArray, List.nil_append, List.cons_append, List.toList_toArray, Array.toList_append, Option.toArray, List.append_nil] at hA); first | (go_simp; refine RetV_at (hbt.out w') ?_; intro w6 hx6; exact hK _ hx6) | (obtain ⟨hSc, hSf, hSs⟩ := hS.cells; go_simp; exact hK _ (by first | exact Ext.rfl' _ | exact Ext.new _ _ | assumption)))); (try simp only [List.nil_append, List.cons_append]))
                    (refine walkI_step (NewSl wc 1 #[.int .i64 bt.lo.num, .int .i64 bt.lo.den, .int .i64 bt.hi.num, .int .i64 bt.hi.den, .bool bt.loO, .bool bt.hiO, .bool bt.loI, .bool bt.hiI] 43) rfl (by simp) rfl (stab_NewSl _ _ _ _) ?_ ?_; (focus (intro A w' hS hA K hK; (simp only [List.map_cons, List.map_nil, knows, Is, Op.operands, Call.operands, List.lookup_cons, List.lookup_nil, Nat.reduceBEq, Bool.false_eq_true, if_false, if_true, Act.eval, Array.getD_eq_getD_getElem?, List.getElem?_toArray, List.getElem?_cons_succ, List.getElem?_cons_zero, Option.getD_some, and_true, true_and, List.append_toArray, List.nil_append, List.cons_append, List.toList_toArray, Array.toList_append, Option.toArray, List.append_nil] at hA); (go_simp; exact hK _ _ (Ext.new _ _) ⟨_, rfl, Proofs.Ytmbkefgmiehdiaa.Own.new _ _ _, hS.size⟩))); (try simp only [List.nil_append, List.cons_append]))
                    (refine walkI_nil ?_; simp only [List.nil_append, List.cons_append, fins, Is, forall_eq, Act.put, List.setIfInBounds_toArray, List.set_cons_zero, List.set_cons_succ])
                    rintro w7 hx7 v ⟨gq, rfl, hO2, hgq⟩
                    have hM7 := hMo.out.ext hx7
                    have hS := Src.lit1 (H := noH) (E := ItvR) (sz := 8) (w := w7) (b := gq) (x := bt) (cs := itC bt) ⟨rfl, hgood.out⟩ rfl (fun j => by rw [hO2.facts.1]; simp [itC])
                    clear hO2 hgq hx7 g0 g1 g2 g3 r0 r1 r2 r3 hbt
                    go_wp2_with (first | (at_builtin; refine wpList_append_M 1 rfl _ _ 23 rfl Try.underlying23 infoItv rfl rfl rfl hM7 rfl hS one_ItvR (by simp; omega) (by simp; omega) ?f5))
                    case f5 =>
                      intro v' w' hM8
                      try simp only [List.set_cons_zero, List.set_cons_succ] at hM8
                      clear hM7 hS hMo
                      go_wp2_with fail
                      go_roundw
                      case rel => exact ⟨k + 1, none, _, by omega, by go_num, rfl, hrun2, hM8⟩
                      case measure => simp [intOf]; omega
          · have hja : decide (k < E.length) = false := by simpa using hlt
            have hfin2 : Hid (pairs (runZ none Z) = out) := Lib.hid (by
              rw [hrun.out.2, List.drop_of_length_le (by omega)]
              cases f <;> simp [runZ, pairs])
            have hM9 := hM.pick [1] (by decide)
            simp only [List.nil_append, List.cons_append, List.map_cons, List.map_nil, List.getElem?_cons_zero, List.getElem?_cons_succ, Option.getD_some] at hM9
            go_wp2_with fail
            go_meet
            case rel => rw [hfin2.out]; exact hM9
      case rest =>
        clear hM
        have hM := hcut
        clear hcut
        rw [← hres.out] at hM
        obtain ⟨oa, oc, rfl, -⟩ := hM.form 0 rfl
        have hrp := hM.rep 0 rfl
        have hfw := few_c _ _ _ hrp
        have hxx := hM.ex
        have hfe : Hid (fewE (combF keep ls) = if 32 < (combF keep ls).length then ([], 4) else (combF keep ls, 0)) := rfl
        generalize combF keep ls = out at *
        replace hrp := Lib.hid hrp
        by_cases h32 : 32 < out.length
        · rw [if_pos h32] at hfe
          rw [hfe.out] at hfw
          replace hfw := Lib.hid hfw
          clear hM hE hEsm
          go_wp2_with fail
          refine RetV_at hfw.out ?_
          intro w5 hx5
          go_wp2_with fail
          go_ret2
          rw [hfe.out]
          exact ⟨_, rfl, (by repeat (first | (with_reducible assumption) | (with_reducible exact Ext.rfl' _) | (with_reducible exact Ext.new _ _) | (with_reducible refine Ext.alloc' ?_ _) | (with_reducible refine Ext.drew' ?_) | (with_reducible refine Ext.drewN' ?_ _) | (with_reducible refine Ext.set' ?_ ?_ _; rotate_left; (focus (first | omega | (simp; done) | (simp; omega)))) | (with_reducible refine Ext.then (b := ?_) ?_ ?_; rotate_left; rotate_left; (with_reducible assumption)))), SliceRep.nil _ _ _⟩
        · rw [if_neg h32] at hfe
          rw [hfe.out] at hfw
          replace hfw := Lib.hid hfw
          clear hM hE hEsm
          go_wp2_with fail
          refine RetV_at hfw.out ?_
          intro w5 hx5
          go_wp2_with fail
          go_ret2
          rw [hfe.out]
          exact ⟨_, rfl, (by repeat (first | (with_reducible assumption) | (with_reducible exact Ext.rfl' _) | (with_reducible exact Ext.new _ _) | (with_reducible refine Ext.alloc' ?_ _) | (with_reducible refine Ext.drew' ?_) | (with_reducible refine Ext.drewN' ?_ _) | (with_reducible refine Ext.set' ?_ ?_ _; rotate_left; (focus (first | omega | (simp; done) | (simp; omega)))) | (with_reducible refine Ext.then (b := ?_) ?_ ?_; rotate_left; rotate_left; (with_reducible assumption)))), hrp.out.mono mono_ItvR hx5.ple⟩
end Go.Proofs.Ytmbkefgmiehdiaa
