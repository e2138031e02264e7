/- Lemmas for NI, part 15: the stable sort: symMerge (printed by gen_stm.py), and more. -/
import Derived.Test.YtabajghokhfmhaaGreatNI13
set_option linter.unusedSimpArgs false
set_option linter.unusedVariables false
namespace Go.Proofs.YtabajghokhfmhaaGreat
open Go.RowKit Go.Shelf
set_option maxRecDepth 100000 in
set_option maxHeartbeats 8000000 in
theorem symM_N {α : Type} (c : α → α → Int) (hc : Ordr c) (E : PH → List Value → α → Prop) (hm : Mono E) (hone : ∀ H cs x, E H cs x → ∀ u ∈ cs, u.oneCell' = true) (fid g N cap : Nat) (w0 : World) (H0 H : PH) (LB : List Chunk)
    (hf : HCmp1 E H c fid) (hfn : ∀ args w, (callFunc fid args).run Tryz.prog w = .ok (.enter fid args) w) (hN6 : N ≤ 1000000) :
    ∀ (n a m b : Nat) (P A B R : List (α × Nat)) (w : World), A.length + B.length ≤ n → (P ++ A ++ B ++ R).length = N → P.length = a → a + A.length = m → m + B.length = b → 1 ≤ A.length → 1 ≤ B.length → InO c A → InO c B → Bef A B →
    Mem w0 H0 (own hm 1 3 (.slice (some ⟨g, 0, none⟩) N cap) ((P ++ A ++ B ++ R).map Prod.fst) :: LB) H w →
    Calls Tryz.prog 254 #[.slice (some ⟨g, 0, none⟩) N cap, .int .i64 a, .int .i64 m, .int .i64 b, .func (.func fid) #[] #[]] w
      (UnitP fun w' => ∃ S, InO c S ∧ S.Perm (A ++ B) ∧ Mem w0 H0 (own hm 1 3 (.slice (some ⟨g, 0, none⟩) N cap) ((P ++ S ++ R).map Prod.fst) :: LB) H w') := by
  intro n
  have HF := Lib.hid hf; clear hf
  induction n with
  | zero => intro a m b P A B R w hn hN ha hA hB hA1; omega
  | succ n ih =>
    intro a m b P A B R w hn hN ha hA hB hA1 hB1 oA oB hbef hM
    have hbN : b ≤ N := by rw [← hN, ← hB, ← hA, ← ha]; simp only [List.length_append]; omega
    obtain ⟨la, hla⟩ : ∃ l, A.length = l := ⟨_, rfl⟩
    obtain ⟨lb, hlb⟩ : ∃ l, B.length = l := ⟨_, rfl⟩
    rw [hla, hlb] at hn
    rw [hla] at hA hA1
    rw [hlb] at hB hB1
    have hw1 : IntKind.i64.wrap ((m : Int) - (a : Int)) = (la : Int) := by rw [IntKind.wrap_i64]; omega
    have hw2 : IntKind.i64.wrap ((b : Int) - (m : Int)) = (lb : Int) := by rw [IntKind.wrap_i64]; omega
    have hMo := Lib.hid hM
    replace hN := Lib.hid hN
    replace hla := Lib.hid hla
    replace hlb := Lib.hid hlb
    replace ha := Lib.hid ha
    replace ih := Lib.hid ih
    replace oA := Lib.hid oA
    replace oB := Lib.hid oB
    replace hbef := Lib.hid hbef
    clear hM
    by_cases h1 : la = 1
    · have hd1 : ((la : Int) == 1) = true := by simp; omega
      obtain ⟨x, rfl⟩ : ∃ x, A = [x] := List.length_eq_one_iff.1 (by rw [hla.out, h1])
      clear ih hw2
      have haN : a < N := by omega
      have hmN : m ≤ N := by omega
      go_enter Tryz.func254, Tryz.ntmps254
      go_wp2_with fail
      go_loopw [10, 11] (fun vi vj wr => ∃ p q : Nat, p ≤ q ∧ q ≤ lb ∧ vi = .int .i64 ((m + p : Nat) : Int) ∧ vj = .int .i64 ((m + q : Nat) : Int) ∧ Hid ((∀ k (hk : k < B.length), k < p → lx c B[k] x) ∧ (∀ k (hk : k < B.length), q ≤ k → lx c x B[k])) ∧ Ext w wr) (fun vi vj _ => (intOf vj - intOf vi).toNat)
      case atStart => exact ⟨0, lb, by omega, by omega, by go_num, by go_num, Lib.hid ⟨fun k hk h => by omega, fun k hk h => by rw [hlb.out] at hk; omega⟩, xE⟩
      case round =>
        obtain ⟨p, q, hpq, hql, rfl, rfl, hB2, hx⟩ := hrel
        by_cases hlt : p < q
        · obtain ⟨r, hr⟩ : ∃ r, (p + q) / 2 = r := ⟨_, rfl⟩
          have hd2 : decide (m + p < m + q) = true := by simp; omega
          have hmid : ((m : Int) + (p : Int) + ((m : Int) + (q : Int))) / 2 = (m : Int) + (r : Int) := by omega
          have hrq : p ≤ r ∧ r < q := by omega
          have hrB : r < B.length := by rw [hlb.out]; omega
          have hk0 : (([] : List α) ++ (P ++ [x] ++ B ++ R).map Prod.fst)[m + r]? = some B[r].1 := by
            rw [List.nil_append, List.getElem?_map, get_mid (P ++ [x]) B R r hrB (m + r) (by rw [List.length_append, ha.out]; simp; omega)]; rfl
          have hk1 : (([] : List α) ++ (P ++ [x] ++ B ++ R).map Prod.fst)[a]? = some x.1 := by
            rw [List.nil_append, List.getElem?_map, List.append_assoc (P ++ [x]), get_mid P [x] (B ++ R) 0 (by simp) a (by rw [ha.out]; rfl)]; rfl
          rw [List.nil_append] at hk0 hk1
          have hM3 := hMo.out.ext hx
          obtain ⟨g0, csy, e0, hxl, hg0, hcy, gy, hEy⟩ := hM3.row1 (i := 0) rfl hk0
          obtain ⟨g1, csx, e1, -, -, hcx, gx, hEx⟩ := hM3.row1 (i := 0) rfl hk1
          cases e0
          cases e1
          have hcall := Lib.hid (fun W (h : Ext wr W) => HF.out W csy csx B[r].1 x.1 (hM3.ple.trans h.ple) hEy hEx)
          have htg : x.2 < B[r].2 := hbef.out x (by simp) _ (List.getElem_mem hrB)
          have hyes : c B[r].1 x.1 < 0 → ∀ k (hk : k < B.length), k < r + 1 → lx c B[k] x := fun h k hk hkr => by
            have h0 := (lx_later (c := c) htg).2 h
            rcases Nat.lt_or_ge k r with h2 | h2
            · exact lx_trans hc (oB.out.le hc hrB h2) h0
            · obtain rfl : k = r := by omega
              exact h0
          have hno : ¬ c B[r].1 x.1 < 0 → ∀ k (hk : k < B.length), r ≤ k → lx c x B[k] := fun h k hk hkr => by
            have h0 := lx_not htg h
            rcases Nat.lt_or_ge r k with h2 | h2
            · exact lx_trans hc h0 (oB.out.le hc hk h2)
            · obtain rfl : k = r := by omega
              exact h0
          replace hyes := Lib.hid hyes
          replace hno := Lib.hid hno
          obtain ⟨z, hz⟩ : ∃ z, c B[r].1 x.1 = z := ⟨_, rfl⟩
          rw [hz] at hcall hyes hno
          replace gx := Lib.hid gx
          replace gy := Lib.hid gy
          replace hcx := Lib.hid hcx
          replace hcy := Lib.hid hcy
          clear hz hk0 hk1 htg hEx hEy hrB hxl hM3
          have hi1 : (m : Int) + (r : Int) < (N : Int) := by omega
          have hj1 : (0 : Int) ≤ (m : Int) + (r : Int) := by omega
          have hq1 : ((m : Int) + (r : Int)).toNat = m + r := by omega
          go_upto_region 5 with (fail)
          (refine wp_region_I 11 (by kernel_rfl) (by kernel_rfl) ?_; simp only [List.toList_toArray, List.take_succ_cons, List.take_zero, List.drop_succ_cons, List.drop_zero])
          iterate 4 (refine wiA rfl (by simp) rfl ?_; (try simp only [List.nil_append, List.cons_append]))
          (refine walkI_is (u := ?_) rfl (by simp) rfl ?_ ?_; rotate_left; (focus (intro A w' hS hA K hK; (simp only [List.map_cons, List.map_nil, knows, Is, Op.operands, Call.operands, List.lookup_cons, List.lookup_nil, Nat.reduceBEq, Bool.false_eq_true, if_false, if_true, Act.eval, Array.getD_eq_getD_getElem?, List.getElem?_toArray, List.getElem?_cons_succ, List.getElem?_cons_zero, Option.getD_some, and_true, true_and, List.append_toArray, List.nil_append, List.cons_append, List.toList_toArray, Array.toList_append, Option.toArray, List.append_nil] at hA); first | (refine oper_load_one 3 (.tmp 43) rfl g ((m + r)) (by simpa [Act.eval] using hA) csy _ (fun j u h => hS.cell1 (gy.out j u h)) Tryz.underlying3 rfl hcy.out ?_; exact hK _ (Ext.rfl' _)) | (obtain ⟨hSc, hSf, hSs⟩ := hS.cells; go_simp; exact hK _ xN))); (try simp only [List.nil_append, List.cons_append]))
          iterate 3 (refine wiA rfl (by simp) rfl ?_; (try simp only [List.nil_append, List.cons_append]))
          (refine walkI_is (u := ?_) rfl (by simp) rfl ?_ ?_; rotate_left; (focus (intro A w' hS hA K hK; (simp only [List.map_cons, List.map_nil, knows, Is, Op.operands, Call.operands, List.lookup_cons, List.lookup_nil, Nat.reduceBEq, Bool.false_eq_true, if_false, if_true, Act.eval, Array.getD_eq_getD_getElem?, List.getElem?_toArray, List.getElem?_cons_succ, List.getElem?_cons_zero, Option.getD_some, and_true, true_and, List.append_toArray, List.nil_append, List.cons_append, List.toList_toArray, Array.toList_append, Option.toArray, List.append_nil] at hA); first | (refine oper_load_one 3 (.tmp 47) rfl g (a) (by simpa [Act.eval] using hA) csx _ (fun j u h => hS.cell1 (gx.out j u h)) Tryz.underlying3 rfl hcx.out ?_; exact hK _ (Ext.rfl' _)) | (obtain ⟨hSc, hSf, hSs⟩ := hS.cells; go_simp; exact hK _ xN))); (try simp only [List.nil_append, List.cons_append]))
          (refine walkI_is (u := ?_) rfl (by simp) rfl ?_ ?_; rotate_left; (focus (intro A w' hS hA K hK; (simp only [List.map_cons, List.map_nil, knows, Is, Op.operands, Call.operands, List.lookup_cons, List.lookup_nil, Nat.reduceBEq, Bool.false_eq_true, if_false, if_true, Act.eval, Array.getD_eq_getD_getElem?, List.getElem?_toArray, List.getElem?_cons_succ, List.getElem?_cons_zero, Option.getD_some, and_true, true_and, List.append_toArray, List.nil_append, List.cons_append, List.toList_toArray, Array.toList_append, Option.toArray, List.append_nil] at hA); first | (go_simp; refine RetV_at (hcall.out w' hS) ?_; intro w6 hx6; exact hK _ hx6) | (obtain ⟨hSc, hSf, hSs⟩ := hS.cells; go_simp; exact hK _ xN))); (try simp only [List.nil_append, List.cons_append]))
          (refine wiA rfl (by simp) rfl ?_; (try simp only [List.nil_append, List.cons_append]))
          (refine walkI_nil ?_; simp only [List.nil_append, List.cons_append, fins, Is, forall_eq, Act.put, List.setIfInBounds_toArray, List.set_cons_zero, List.set_cons_succ])
          intro w3 hx3
          by_cases hzl : z < 0
          · have hd3 : decide (z < 0) = true := decide_eq_true hzl
            have hnx := Lib.hid (hyes.out hzl)
            clear gx gy hcall
            go_wp2_with fail
            go_roundw
            case rel => exact ⟨r + 1, q, by omega, hql, by go_num, rfl, Lib.hid ⟨hnx.out, hB2.out.2⟩, hx.then hx3⟩
            case measure => simp [intOf]; omega
          · have hd3 : decide (z < 0) = false := decide_eq_false hzl
            have hnx := Lib.hid (hno.out hzl)
            clear gx gy hcall
            go_wp2_with fail
            go_roundw
            case rel => exact ⟨p, r, by omega, by omega, rfl, by go_num, Lib.hid ⟨hB2.out.1, hnx.out⟩, hx.then hx3⟩
            case measure => simp [intOf]; omega
        · obtain rfl : p = q := by omega
          have hd2 : decide (m + p < m + p) = false := by simp
          have e1 : B.take p ++ B.drop p = B := List.take_append_drop p B
          have l1 : (B.take p).length = p := by rw [List.length_take, hlb.out]; omega
          have hlow : ∀ y ∈ B.take p, lx c y x := fun y hy => by
            obtain ⟨i, hi, rfl⟩ := List.getElem_of_mem hy
            rw [l1] at hi
            rw [List.getElem_take]
            exact hB2.out.1 i (by rw [hlb.out]; omega) hi
          have hhigh : ∀ y ∈ B.drop p, lx c x y := fun y hy => by
            obtain ⟨i, hi, rfl⟩ := List.getElem_of_mem hy
            rw [List.length_drop] at hi
            rw [List.getElem_drop]
            exact hB2.out.2 (p + i) (by omega) (by omega)
          have hM3 := hMo.out.ext hx
          generalize B.take p = B1 at *
          generalize B.drop p = B2 at *
          subst e1
          have hfin : Hid (InO c (B1 ++ x :: B2) ∧ (B1 ++ x :: B2).Perm ([x] ++ (B1 ++ B2))) := Lib.hid ⟨InO.insert hc oB.out hlow hhigh, List.perm_middle⟩
          obtain ⟨Q, hQ⟩ : ∃ Q, Q = B2 ++ R := ⟨_, rfl⟩
          have hMs : Mem w0 H0 (own hm 1 3 (.slice (some ⟨g, 0, none⟩) N cap) ((P ++ [] ++ x :: B1 ++ Q).map Prod.fst) :: LB) H wr := by rw [hQ]; simpa using hM3
          have hlN : (P ++ [] ++ x :: B1 ++ Q).length = N := by rw [hQ, ← hN.out]; simp only [List.length_append, List.length_cons, List.length_nil]; omega
          replace hlN := Lib.hid hlN
          replace l1 := Lib.hid l1
          replace hQ := Lib.hid hQ
          have hwi : IntKind.i64.wrap ((m : Int) + (p : Int) - 1) = ((a + p : Nat) : Int) := by rw [IntKind.wrap_i64]; omega
          clear hM3 hMo hlow hhigh hB2 oA oB hbef hN
          go_wp2_with fail
          go_loopw [13] (fun vk wr => ∃ (k : Nat) (L D : List (α × Nat)), vk = .int .i64 (k : Int) ∧ k = a + L.length ∧ Hid (B1 = L ++ D) ∧ Mem w0 H0 (own hm 1 3 (.slice (some ⟨g, 0, none⟩) N cap) ((P ++ L ++ x :: D ++ Q).map Prod.fst) :: LB) H wr) (fun vk _ => (N - (intOf vk)).toNat)
          case atStart => exact ⟨a, [], B1, rfl, by simp, Lib.hid rfl, hMs⟩
          case round =>
            clear hMs
            obtain ⟨k, L, D, rfl, hkL, hLD, hM⟩ := hrel
            match D with
            | [] =>
              have e2 : k = a + p := by
                have := congrArg List.length hLD.out
                rw [l1.out, List.append_nil] at this; omega
              have hd4 : decide (k < a + p) = false := by simp; omega
              go_wp2_with fail
              refine bodyPost_ret (v := .tuple #[]) (by simp [results, Tryz.results254, go_sem]) rfl ⟨rfl, B1 ++ x :: B2, hfin.out.1, hfin.out.2, ?_⟩
              rw [hQ.out] at hM
              rw [hLD.out]
              simpa using hM
            | y :: D =>
              have hkp : k < a + p := by
                have := congrArg List.length hLD.out
                rw [l1.out, List.length_append, List.length_cons] at this; omega
              have hd4 : decide (k < a + p) = true := by simp; omega
              have hPL : ((P ++ L).map Prod.fst).length = k := by rw [List.length_map, List.length_append, ha.out, hkL]
              have hMe : Mem w0 H0 (own hm 1 3 (.slice (some ⟨g, 0, none⟩) N cap) ((P ++ L).map Prod.fst ++ x.1 :: y.1 :: (D ++ Q).map Prod.fst) :: LB) H wr := by simpa using hM
              have hk0 : ((P ++ L).map Prod.fst ++ x.1 :: y.1 :: (D ++ Q).map Prod.fst)[k]? = some x.1 := by rw [List.getElem?_append_right (by omega), hPL, Nat.sub_self]; rfl
              have hk1 : ((P ++ L).map Prod.fst ++ x.1 :: y.1 :: (D ++ Q).map Prod.fst)[k + 1]? = some y.1 := by rw [List.getElem?_append_right (by omega), hPL, Nat.add_sub_cancel_left]; rfl
              have hsw := swap_mid ((P ++ L).map Prod.fst) [] ((D ++ Q).map Prod.fst) x.1 y.1
              simp only [List.length_nil, Nat.add_zero, List.append_assoc, List.cons_append, List.nil_append, hPL] at hsw
              replace hsw := Lib.hid hsw
              have hnx : Hid ((P ++ L).map Prod.fst ++ y.1 :: x.1 :: (D ++ Q).map Prod.fst = (P ++ (L ++ [y]) ++ x :: D ++ Q).map Prod.fst) := Lib.hid (by simp)
              have hLD2 : Hid (B1 = (L ++ [y]) ++ D) := Lib.hid (by rw [hLD.out]; simp)
              generalize (P ++ L).map Prod.fst ++ x.1 :: y.1 :: (D ++ Q).map Prod.fst = xs at *
              generalize (P ++ L).map Prod.fst ++ y.1 :: x.1 :: (D ++ Q).map Prod.fst = ys at *
              obtain ⟨g0, csx, e0, hxl, hg0, hcx, gx, hEx⟩ := hMe.row1 (i := 0) rfl hk0
              obtain ⟨g1, csy, e1, -, -, hcy, gy, hEy⟩ := hMe.row1 (i := 0) rfl hk1
              cases e0
              cases e1
              have hox := Lib.hid (hone H csx x.1 hEx)
              have hoy := Lib.hid (hone H csy y.1 hEy)
              have hNx : Hid (k < xs.length ∧ k + 1 < xs.length) := Lib.hid (by rw [← hxl]; omega)
              have gx3 := Lib.hid gx
              have gy3 := Lib.hid gy
              replace hEx := Lib.hid hEx
              replace hEy := Lib.hid hEy
              replace hcx := Lib.hid hcx
              replace hcy := Lib.hid hcy
              clear hk0 hk1 hxl gx gy hM hPL hLD
              replace hkL := Lib.hid hkL
              have hM3 := hMe
              clear hMe
              have hi1 : (k : Int) + 1 < (N : Int) := by omega
              have hi2 : (k : Int) < (N : Int) := by omega
              have hj1 : (0 : Int) ≤ (k : Int) + 1 := by omega
              have hq1 : ((k : Int) + 1).toNat = k + 1 := by omega
              have hw3 : IntKind.i64.wrap ((k : Int) + 1) = (k : Int) + 1 := by rw [IntKind.wrap_i64]; omega
              go_upto_region 11 with (fail)
              refine wp_region_any (by kernel_rfl) ?_
              change wpAny _ _ _ _ _ _ _ (World.drew _)
              have hM7 := hM3.ext (Ext.rfl' wr).drew'
              have gx7 := Lib.hid (fun j u h => (Ext.rfl' wr).drew'.cell1 (gx3.out j u h))
              have gy7 := Lib.hid (fun j u h => (Ext.rfl' wr).drew'.cell1 (gy3.out j u h))
              refine wpAny_take (i := 0) rfl tA tA tA (fun _ _ _ h => h) (Or.inl ⟨by rfl, yA⟩) ?_
              try simp only [List.getElem_toArray, List.getElem_cons_succ, List.getElem_cons_zero, Act.put, List.setIfInBounds_toArray, List.set_cons_zero, List.set_cons_succ]
              refine wpAny_take (i := 1) rfl tA tA tA (fun _ _ _ h => h) (Or.inl ⟨by rfl, yA⟩) ?_
              try simp only [List.getElem_toArray, List.getElem_cons_succ, List.getElem_cons_zero, Act.put, List.setIfInBounds_toArray, List.set_cons_zero, List.set_cons_succ]
              refine wpAny_take (i := 2) rfl tA tA tA (fun _ _ _ h => h) (Or.inl ⟨by rfl, yA⟩) ?_
              try simp only [List.getElem_toArray, List.getElem_cons_succ, List.getElem_cons_zero, Act.put, List.setIfInBounds_toArray, List.set_cons_zero, List.set_cons_succ]
              refine wpAny_take (i := 3) rfl tA tA tA (fun _ _ _ h => h) (Or.inl ⟨by rfl, yA⟩) ?_
              try simp only [List.getElem_toArray, List.getElem_cons_succ, List.getElem_cons_zero, Act.put, List.setIfInBounds_toArray, List.set_cons_zero, List.set_cons_succ]
              refine wpAny_take (i := 4) rfl tA tA tA (fun _ _ _ h => h) (Or.inl ⟨by rfl, yA⟩) ?_
              try simp only [List.getElem_toArray, List.getElem_cons_succ, List.getElem_cons_zero, Act.put, List.setIfInBounds_toArray, List.set_cons_zero, List.set_cons_succ]
              refine wpAny_take (i := 5) rfl tA tA tA (fun _ _ _ h => h) (Or.inl ⟨by rfl, yA⟩) ?_
              try simp only [List.getElem_toArray, List.getElem_cons_succ, List.getElem_cons_zero, Act.put, List.setIfInBounds_toArray, List.set_cons_zero, List.set_cons_succ]
              refine wpAny_take (i := 6) rfl tA tA tA (fun _ _ _ h => h) (Or.inl ⟨by rfl, yA⟩) ?_
              try simp only [List.getElem_toArray, List.getElem_cons_succ, List.getElem_cons_zero, Act.put, List.setIfInBounds_toArray, List.set_cons_zero, List.set_cons_succ]
              refine wpAny_take (i := 7) rfl tA tA tA (fun _ _ _ h => h) (Or.inl ⟨by rfl, yA⟩) ?_
              try simp only [List.getElem_toArray, List.getElem_cons_succ, List.getElem_cons_zero, Act.put, List.setIfInBounds_toArray, List.set_cons_zero, List.set_cons_succ]
              refine wpAny_take (i := 8) rfl tA tA tA (fun _ _ _ h => h) (Or.inl ⟨by rfl, yA⟩) ?_
              try simp only [List.getElem_toArray, List.getElem_cons_succ, List.getElem_cons_zero, Act.put, List.setIfInBounds_toArray, List.set_cons_zero, List.set_cons_succ]
              refine wpAny_take (i := 10) rfl tA tA tA (fun _ _ _ h => h) (Or.inl ⟨by rfl, yA⟩) ?_
              try simp only [List.getElem_toArray, List.getElem_cons_succ, List.getElem_cons_zero, Act.put, List.setIfInBounds_toArray, List.set_cons_zero, List.set_cons_succ]
              refine wpAny_take (i := 11) rfl tA tA tA (fun _ _ _ h => h) (Or.inl ⟨by rfl, yA⟩) ?_
              try simp only [List.getElem_toArray, List.getElem_cons_succ, List.getElem_cons_zero, Act.put, List.setIfInBounds_toArray, List.set_cons_zero, List.set_cons_succ]
              refine wpAny_take (i := 12) rfl tA tA tA (fun _ _ _ h => h) (Or.inl ⟨by rfl, yA⟩) ?_
              try simp only [List.getElem_toArray, List.getElem_cons_succ, List.getElem_cons_zero, Act.put, List.setIfInBounds_toArray, List.set_cons_zero, List.set_cons_succ]
              refine wpAny_ready (rs := [9, 13]) (by kernel_rfl) (by simp) ?_
              refine AllReady.load1 rfl rfl 3 _ rfl g ((k + 1)) rfl csy _ gy7.out Tryz.underlying3 rfl hcy.out ?_ (AllReady.load1 rfl rfl 3 _ rfl g (k) rfl csx _ gx7.out Tryz.underlying3 rfl hcx.out ?_ AllReady.nil)
              · try simp only [List.getElem_toArray, List.getElem_cons_succ, List.getElem_cons_zero, Act.put, List.setIfInBounds_toArray, List.set_cons_zero, List.set_cons_succ]
                refine wpAny_ready (rs := [13]) (by kernel_rfl) (by simp) (AllReady.load1 rfl rfl 3 _ rfl g (k) rfl csx _ gx7.out Tryz.underlying3 rfl hcx.out ?_ AllReady.nil)
                try simp only [List.getElem_toArray, List.getElem_cons_succ, List.getElem_cons_zero, Act.put, List.setIfInBounds_toArray, List.set_cons_zero, List.set_cons_succ]
                refine wpAny_take (i := 14) rfl tA tA tA (fun _ _ _ h => h) (Or.inl ⟨by rfl, yA⟩) ?_
                try simp only [List.getElem_toArray, List.getElem_cons_succ, List.getElem_cons_zero, Act.put, List.setIfInBounds_toArray, List.set_cons_zero, List.set_cons_succ]
                refine wpAny_ready (rs := [15]) (by kernel_rfl) (by simp) (AllReady.store1 (xs := xs) (n := N) (cap := cap) (g := g) rfl rfl 3 _ _ rfl k rfl (cs := csy) rfl (x' := y.1) hM7 0 rfl hNx.out.1 hEy.out hcy.out hoy.out (by kernel_rfl) ?_ AllReady.nil)
                intro w8 hM8
                simp only [List.set_cons_zero] at hM8
                try simp only [List.getElem_toArray, List.getElem_cons_succ, List.getElem_cons_zero, Act.put, List.setIfInBounds_toArray, List.set_cons_zero, List.set_cons_succ]
                refine wpAny_take (i := 16) rfl tA tA tA (fun _ _ _ h => h) (Or.inl ⟨by rfl, yA⟩) ?_
                try simp only [List.getElem_toArray, List.getElem_cons_succ, List.getElem_cons_zero, Act.put, List.setIfInBounds_toArray, List.set_cons_zero, List.set_cons_succ]
                refine wpAny_ready (rs := [17]) (by kernel_rfl) (by simp) (AllReady.store1 (xs := (xs.set k y.1)) (n := N) (cap := cap) (g := g) rfl rfl 3 _ _ rfl (k + 1) rfl (cs := csx) rfl (x' := x.1) hM8 0 rfl (by rw [List.length_set]; exact hNx.out.2) hEx.out hcx.out hox.out (by kernel_rfl) ?_ AllReady.nil)
                intro w8 hM9
                simp only [List.set_cons_zero] at hM9
                try simp only [List.getElem_toArray, List.getElem_cons_succ, List.getElem_cons_zero, Act.put, List.setIfInBounds_toArray, List.set_cons_zero, List.set_cons_succ]
                refine wpAny_done (by kernel_rfl) ?_ _
                try simp only [List.getElem_toArray, List.getElem_cons_succ, List.getElem_cons_zero, Act.put, List.setIfInBounds_toArray, List.set_cons_zero, List.set_cons_succ]
                clear hM7 hM8 gx7 gy7
                rw [hsw.out] at hM9
                rw [hnx.out] at hM9
                go_wp2_with fail
                go_roundw
                case rel => exact ⟨k + 1, L ++ [y], D, by go_num, by rw [List.length_append, hkL.out]; simp; omega, hLD2, hM9⟩
                case measure => simp [intOf] <;> omega
              · try simp only [List.getElem_toArray, List.getElem_cons_succ, List.getElem_cons_zero, Act.put, List.setIfInBounds_toArray, List.set_cons_zero, List.set_cons_succ]
                refine wpAny_ready (rs := [9]) (by kernel_rfl) (by simp) (AllReady.load1 rfl rfl 3 _ rfl g ((k + 1)) rfl csy _ gy7.out Tryz.underlying3 rfl hcy.out ?_ AllReady.nil)
                try simp only [List.getElem_toArray, List.getElem_cons_succ, List.getElem_cons_zero, Act.put, List.setIfInBounds_toArray, List.set_cons_zero, List.set_cons_succ]
                refine wpAny_take (i := 14) rfl tA tA tA (fun _ _ _ h => h) (Or.inl ⟨by rfl, yA⟩) ?_
                try simp only [List.getElem_toArray, List.getElem_cons_succ, List.getElem_cons_zero, Act.put, List.setIfInBounds_toArray, List.set_cons_zero, List.set_cons_succ]
                refine wpAny_ready (rs := [15]) (by kernel_rfl) (by simp) (AllReady.store1 (xs := xs) (n := N) (cap := cap) (g := g) rfl rfl 3 _ _ rfl k rfl (cs := csy) rfl (x' := y.1) hM7 0 rfl hNx.out.1 hEy.out hcy.out hoy.out (by kernel_rfl) ?_ AllReady.nil)
                intro w8 hM8
                simp only [List.set_cons_zero] at hM8
                try simp only [List.getElem_toArray, List.getElem_cons_succ, List.getElem_cons_zero, Act.put, List.setIfInBounds_toArray, List.set_cons_zero, List.set_cons_succ]
                refine wpAny_take (i := 16) rfl tA tA tA (fun _ _ _ h => h) (Or.inl ⟨by rfl, yA⟩) ?_
                try simp only [List.getElem_toArray, List.getElem_cons_succ, List.getElem_cons_zero, Act.put, List.setIfInBounds_toArray, List.set_cons_zero, List.set_cons_succ]
                refine wpAny_ready (rs := [17]) (by kernel_rfl) (by simp) (AllReady.store1 (xs := (xs.set k y.1)) (n := N) (cap := cap) (g := g) rfl rfl 3 _ _ rfl (k + 1) rfl (cs := csx) rfl (x' := x.1) hM8 0 rfl (by rw [List.length_set]; exact hNx.out.2) hEx.out hcx.out hox.out (by kernel_rfl) ?_ AllReady.nil)
                intro w8 hM9
                simp only [List.set_cons_zero] at hM9
                try simp only [List.getElem_toArray, List.getElem_cons_succ, List.getElem_cons_zero, Act.put, List.setIfInBounds_toArray, List.set_cons_zero, List.set_cons_succ]
                refine wpAny_done (by kernel_rfl) ?_ _
                try simp only [List.getElem_toArray, List.getElem_cons_succ, List.getElem_cons_zero, Act.put, List.setIfInBounds_toArray, List.set_cons_zero, List.set_cons_succ]
                clear hM7 hM8 gx7 gy7
                rw [hsw.out] at hM9
                rw [hnx.out] at hM9
                go_wp2_with fail
                go_roundw
                case rel => exact ⟨k + 1, L ++ [y], D, by go_num, by rw [List.length_append, hkL.out]; simp; omega, hLD2, hM9⟩
                case measure => simp [intOf] <;> omega
    · have hd1 : ((la : Int) == 1) = false := by simp; omega
      by_cases h2 : lb = 1
      · have hd2 : ((lb : Int) == 1) = true := by simp; omega
        obtain ⟨x, rfl⟩ : ∃ x, B = [x] := List.length_eq_one_iff.1 (by rw [hlb.out, h2])
        clear ih
        have haN : a < N := by omega
        have hmN : m < N := by omega
        go_enter Tryz.func254, Tryz.ntmps254
        go_wp2_with fail
        go_loopw [14, 15] (fun vi vj wr => ∃ p q : Nat, p ≤ q ∧ q ≤ la ∧ vi = .int .i64 ((a + p : Nat) : Int) ∧ vj = .int .i64 ((a + q : Nat) : Int) ∧ Hid ((∀ k (hk : k < A.length), k < p → lx c A[k] x) ∧ (∀ k (hk : k < A.length), q ≤ k → lx c x A[k])) ∧ Ext w wr) (fun vi vj _ => (intOf vj - intOf vi).toNat)
        case atStart => exact ⟨0, la, by omega, by omega, by go_num, by go_num, Lib.hid ⟨fun k hk h => by omega, fun k hk h => by rw [hla.out] at hk; omega⟩, xE⟩
        case round =>
          obtain ⟨p, q, hpq, hql, rfl, rfl, hA2, hx⟩ := hrel
          by_cases hlt : p < q
          · obtain ⟨r, hr⟩ : ∃ r, (p + q) / 2 = r := ⟨_, rfl⟩
            have hd3 : decide (a + p < a + q) = true := by simp; omega
            have hmid : ((a : Int) + (p : Int) + ((a : Int) + (q : Int))) / 2 = (a : Int) + (r : Int) := by omega
            have hrq : p ≤ r ∧ r < q := by omega
            have hrA : r < A.length := by rw [hla.out]; omega
            have hk0 : ((P ++ A ++ [x] ++ R).map Prod.fst)[a + r]? = some A[r].1 := by
              rw [List.getElem?_map, List.append_assoc (P ++ A), get_mid P A ([x] ++ R) r hrA (a + r) (by rw [ha.out])]; rfl
            have hk1 : ((P ++ A ++ [x] ++ R).map Prod.fst)[m]? = some x.1 := by
              rw [List.getElem?_map, get_mid (P ++ A) [x] R 0 (by simp) m (by rw [List.length_append, ha.out, hla.out, hA]; rfl)]; rfl
            have hM3 := hMo.out.ext hx
            obtain ⟨g0, csy, e0, hxl, hg0, hcy, gy, hEy⟩ := hM3.row1 (i := 0) rfl hk0
            obtain ⟨g1, csx, e1, -, -, hcx, gx, hEx⟩ := hM3.row1 (i := 0) rfl hk1
            cases e0
            cases e1
            have hcall := Lib.hid (fun W (h : Ext wr W) => HF.out W csx csy x.1 A[r].1 (hM3.ple.trans h.ple) hEx hEy)
            have htg : A[r].2 < x.2 := hbef.out _ (List.getElem_mem hrA) x (by simp)
            have hno : c x.1 A[r].1 < 0 → ∀ k (hk : k < A.length), r ≤ k → lx c x A[k] := fun h k hk hkr => by
              have h0 := (lx_later (c := c) htg).2 h
              rcases Nat.lt_or_ge r k with h2 | h2
              · exact lx_trans hc h0 (oA.out.le hc hk h2)
              · obtain rfl : k = r := by omega
                exact h0
            have hyes : ¬ c x.1 A[r].1 < 0 → ∀ k (hk : k < A.length), k < r + 1 → lx c A[k] x := fun h k hk hkr => by
              have h0 := lx_not htg h
              rcases Nat.lt_or_ge k r with h2 | h2
              · exact lx_trans hc (oA.out.le hc hrA h2) h0
              · obtain rfl : k = r := by omega
                exact h0
            replace hyes := Lib.hid hyes
            replace hno := Lib.hid hno
            obtain ⟨z, hz⟩ : ∃ z, c x.1 A[r].1 = z := ⟨_, rfl⟩
            rw [hz] at hcall hyes hno
            replace gx := Lib.hid gx
            replace gy := Lib.hid gy
            replace hcx := Lib.hid hcx
            replace hcy := Lib.hid hcy
            clear hz hk0 hk1 htg hEx hEy hrA hxl hM3
            have hi1 : (a : Int) + (r : Int) < (N : Int) := by omega
            have hj1 : (0 : Int) ≤ (a : Int) + (r : Int) := by omega
            have hq1 : ((a : Int) + (r : Int)).toNat = a + r := by omega
            go_upto_region 17 with (fail)
            (refine wp_region_I 12 (by kernel_rfl) (by kernel_rfl) ?_; simp only [List.toList_toArray, List.take_succ_cons, List.take_zero, List.drop_succ_cons, List.drop_zero])
            iterate 4 (refine wiA rfl (by simp) rfl ?_; (try simp only [List.nil_append, List.cons_append]))
            (refine walkI_is (u := ?_) rfl (by simp) rfl ?_ ?_; rotate_left; (focus (intro A w' hS hA K hK; (simp only [List.map_cons, List.map_nil, knows, Is, Op.operands, Call.operands, List.lookup_cons, List.lookup_nil, Nat.reduceBEq, Bool.false_eq_true, if_false, if_true, Act.eval, Array.getD_eq_getD_getElem?, List.getElem?_toArray, List.getElem?_cons_succ, List.getElem?_cons_zero, Option.getD_some, and_true, true_and, List.append_toArray, List.nil_append, List.cons_append, List.toList_toArray, Array.toList_append, Option.toArray, List.append_nil] at hA); first | (refine oper_load_one 3 (.tmp 95) rfl g (m) (by simpa [Act.eval] using hA) csx _ (fun j u h => hS.cell1 (gx.out j u h)) Tryz.underlying3 rfl hcx.out ?_; exact hK _ (Ext.rfl' _)) | (obtain ⟨hSc, hSf, hSs⟩ := hS.cells; go_simp; exact hK _ xN))); (try simp only [List.nil_append, List.cons_append]))
            iterate 3 (refine wiA rfl (by simp) rfl ?_; (try simp only [List.nil_append, List.cons_append]))
            (refine walkI_is (u := ?_) rfl (by simp) rfl ?_ ?_; rotate_left; (focus (intro A w' hS hA K hK; (simp only [List.map_cons, List.map_nil, knows, Is, Op.operands, Call.operands, List.lookup_cons, List.lookup_nil, Nat.reduceBEq, Bool.false_eq_true, if_false, if_true, Act.eval, Array.getD_eq_getD_getElem?, List.getElem?_toArray, List.getElem?_cons_succ, List.getElem?_cons_zero, Option.getD_some, and_true, true_and, List.append_toArray, List.nil_append, List.cons_append, List.toList_toArray, Array.toList_append, Option.toArray, List.append_nil] at hA); first | (refine oper_load_one 3 (.tmp 99) rfl g ((a + r)) (by simpa [Act.eval] using hA) csy _ (fun j u h => hS.cell1 (gy.out j u h)) Tryz.underlying3 rfl hcy.out ?_; exact hK _ (Ext.rfl' _)) | (obtain ⟨hSc, hSf, hSs⟩ := hS.cells; go_simp; exact hK _ xN))); (try simp only [List.nil_append, List.cons_append]))
            (refine walkI_is (u := ?_) rfl (by simp) rfl ?_ ?_; rotate_left; (focus (intro A w' hS hA K hK; (simp only [List.map_cons, List.map_nil, knows, Is, Op.operands, Call.operands, List.lookup_cons, List.lookup_nil, Nat.reduceBEq, Bool.false_eq_true, if_false, if_true, Act.eval, Array.getD_eq_getD_getElem?, List.getElem?_toArray, List.getElem?_cons_succ, List.getElem?_cons_zero, Option.getD_some, and_true, true_and, List.append_toArray, List.nil_append, List.cons_append, List.toList_toArray, Array.toList_append, Option.toArray, List.append_nil] at hA); first | (go_simp; refine RetV_at (hcall.out w' hS) ?_; intro w6 hx6; exact hK _ hx6) | (obtain ⟨hSc, hSf, hSs⟩ := hS.cells; go_simp; exact hK _ xN))); (try simp only [List.nil_append, List.cons_append]))
            iterate 2 (refine wiA rfl (by simp) rfl ?_; (try simp only [List.nil_append, List.cons_append]))
            (refine walkI_nil ?_; simp only [List.nil_append, List.cons_append, fins, Is, forall_eq, Act.put, List.setIfInBounds_toArray, List.set_cons_zero, List.set_cons_succ])
            intro w3 hx3
            by_cases hzl : z < 0
            · have hd4 : decide (z < 0) = true := decide_eq_true hzl
              rw [hd4]
              simp only [Bool.not_true]
              have hnx := Lib.hid (hno.out hzl)
              clear gx gy hcall
              go_wp2_with fail
              go_roundw
              case rel => exact ⟨p, r, by omega, by omega, rfl, by go_num, Lib.hid ⟨hA2.out.1, hnx.out⟩, hx.then hx3⟩
              case measure => simp [intOf]; omega
            · have hd4 : decide (z < 0) = false := decide_eq_false hzl
              rw [hd4]
              simp only [Bool.not_false]
              have hnx := Lib.hid (hyes.out hzl)
              clear gx gy hcall
              go_wp2_with fail
              go_roundw
              case rel => exact ⟨r + 1, q, by omega, hql, by go_num, rfl, Lib.hid ⟨hnx.out, hA2.out.2⟩, hx.then hx3⟩
              case measure => simp [intOf]; omega
          · obtain rfl : p = q := by omega
            have hd3 : decide (a + p < a + p) = false := by simp
            have e1 : A.take p ++ A.drop p = A := List.take_append_drop p A
            have l1 : (A.take p).length = p := by rw [List.length_take, hla.out]; omega
            have l2 : (A.drop p).length = la - p := by rw [List.length_drop, hla.out]
            have hlow : ∀ y ∈ A.take p, lx c y x := fun y hy => by
              obtain ⟨i, hi, rfl⟩ := List.getElem_of_mem hy
              rw [l1] at hi
              rw [List.getElem_take]
              exact hA2.out.1 i (by rw [hla.out]; omega) hi
            have hhigh : ∀ y ∈ A.drop p, lx c x y := fun y hy => by
              obtain ⟨i, hi, rfl⟩ := List.getElem_of_mem hy
              rw [List.length_drop] at hi
              rw [List.getElem_drop]
              exact hA2.out.2 (p + i) (by omega) (by omega)
            have hM3 := hMo.out.ext hx
            generalize A.take p = A1 at *
            generalize A.drop p = A2 at *
            subst e1
            have hfin : Hid (InO c (A1 ++ x :: A2) ∧ (A1 ++ x :: A2).Perm (A1 ++ A2 ++ [x])) := Lib.hid ⟨InO.insert hc oA.out hlow hhigh, by rw [List.append_assoc]; exact List.Perm.append_left _ (List.perm_append_comm (l₁ := [x]) (l₂ := A2))⟩
            have hMs : Mem w0 H0 (own hm 1 3 (.slice (some ⟨g, 0, none⟩) N cap) ((P ++ A1 ++ A2 ++ x :: [] ++ R).map Prod.fst) :: LB) H wr := by simpa using hM3
            have hl1 := Lib.hid l1
            have hl2 := Lib.hid l2
            clear hM3 hMo hlow hhigh hA2 oA oB hbef hN l1 l2
            go_wp2_with fail
            go_loopw [17] (fun vk wr => ∃ (k : Nat) (L D : List (α × Nat)), vk = .int .i64 (k : Int) ∧ k = a + p + L.length ∧ Hid (A2 = L ++ D) ∧ Mem w0 H0 (own hm 1 3 (.slice (some ⟨g, 0, none⟩) N cap) ((P ++ A1 ++ L ++ x :: D ++ R).map Prod.fst) :: LB) H wr) (fun vk _ => (intOf vk).toNat)
            case atStart => exact ⟨m, A2, [], rfl, by rw [hl2.out]; omega, Lib.hid (by simp), hMs⟩
            case round =>
              clear hMs
              obtain ⟨k, L, D, rfl, hkL, hLD, hM⟩ := hrel
              rcases List.eq_nil_or_concat L with rfl | ⟨L', y, hcon⟩
              · obtain rfl : k = a + p := by simpa using hkL
                clear hkL
                have hd4 : decide (a + p < a + p) = false := by simp
                go_wp2_with fail
                refine bodyPost_ret (v := .tuple #[]) (by simp [results, Tryz.results254, go_sem]) rfl ⟨rfl, A1 ++ x :: A2, hfin.out.1, hfin.out.2, ?_⟩
                rw [hLD.out]
                simpa using hM
              · rw [List.concat_eq_append] at hcon
                subst hcon
                obtain ⟨k, rfl⟩ : ∃ j, k = j + 1 := ⟨a + p + L'.length, by rw [hkL, List.length_append]; simp; omega⟩
                have hkp : k = a + p + L'.length := by rw [List.length_append] at hkL; simp at hkL; omega
                have hkm : k + 1 ≤ m := by
                  have := congrArg List.length hLD.out
                  rw [hl2.out, List.length_append, List.length_append, List.length_cons, List.length_nil] at this; omega
                have hd4 : decide (a + p < k + 1) = true := by simp; omega
                have hd5 : decide ((a : Int) + (p : Int) < (k : Int) + 1) = true := by simp; omega
                have hPL : ((P ++ A1 ++ L').map Prod.fst).length = k := by rw [List.length_map, List.length_append, List.length_append, ha.out, hl1.out, hkp]
                have hMe : Mem w0 H0 (own hm 1 3 (.slice (some ⟨g, 0, none⟩) N cap) ((P ++ A1 ++ L').map Prod.fst ++ y.1 :: x.1 :: (D ++ R).map Prod.fst) :: LB) H wr := by simpa using hM
                have hk0 : ((P ++ A1 ++ L').map Prod.fst ++ y.1 :: x.1 :: (D ++ R).map Prod.fst)[k]? = some y.1 := by rw [List.getElem?_append_right (by omega), hPL, Nat.sub_self]; rfl
                have hk1 : ((P ++ A1 ++ L').map Prod.fst ++ y.1 :: x.1 :: (D ++ R).map Prod.fst)[k + 1]? = some x.1 := by rw [List.getElem?_append_right (by omega), hPL, Nat.add_sub_cancel_left]; rfl
                have hsw := swap_next ((P ++ A1 ++ L').map Prod.fst) ((D ++ R).map Prod.fst) x.1 y.1
                rw [hPL] at hsw
                replace hsw := Lib.hid hsw
                have hnx : Hid ((P ++ A1 ++ L').map Prod.fst ++ x.1 :: y.1 :: (D ++ R).map Prod.fst = (P ++ A1 ++ L' ++ x :: (y :: D) ++ R).map Prod.fst) := Lib.hid (by simp)
                have hLD2 : Hid (A2 = L' ++ (y :: D)) := Lib.hid (by rw [hLD.out]; simp)
                generalize (P ++ A1 ++ L').map Prod.fst ++ y.1 :: x.1 :: (D ++ R).map Prod.fst = xs at *
                generalize (P ++ A1 ++ L').map Prod.fst ++ x.1 :: y.1 :: (D ++ R).map Prod.fst = ys at *
                obtain ⟨g0, csx, e0, hxl, hg0, hcx, gx, hEx⟩ := hMe.row1 (i := 0) rfl hk1
                obtain ⟨g1, csy, e1, -, -, hcy, gy, hEy⟩ := hMe.row1 (i := 0) rfl hk0
                cases e0
                cases e1
                have hox := Lib.hid (hone H csx x.1 hEx)
                have hoy := Lib.hid (hone H csy y.1 hEy)
                have hNx : Hid (k + 1 < xs.length ∧ k < xs.length) := Lib.hid (by rw [← hxl]; omega)
                have gx3 := Lib.hid gx
                have gy3 := Lib.hid gy
                replace hEx := Lib.hid hEx
                replace hEy := Lib.hid hEy
                replace hcx := Lib.hid hcx
                replace hcy := Lib.hid hcy
                clear hk0 hk1 hxl gx gy hM hPL hLD hkL
                replace hkp := Lib.hid hkp
                have hM3 := hMe
                clear hMe
                have hi1 : (k : Int) + 1 < (N : Int) := by omega
                have hi2 : (k : Int) < (N : Int) := by omega
                have hj1 : (0 : Int) ≤ (k : Int) + 1 := by omega
                have hq1 : ((k : Int) + 1).toNat = k + 1 := by omega
                have hw3 : IntKind.i64.wrap ((k : Int) + 1 - 1) = (k : Int) := by rw [IntKind.wrap_i64]; omega
                have hw4 : IntKind.i64.wrap (k : Int) = (k : Int) := by rw [IntKind.wrap_i64]; omega
                go_upto_region 23 with (fail)
                refine wp_region_any (by kernel_rfl) ?_
                change wpAny _ _ _ _ _ _ _ (World.drew _)
                have hM7 := hM3.ext (Ext.rfl' wr).drew'
                have gx7 := Lib.hid (fun j u h => (Ext.rfl' wr).drew'.cell1 (gx3.out j u h))
                have gy7 := Lib.hid (fun j u h => (Ext.rfl' wr).drew'.cell1 (gy3.out j u h))
                refine wpAny_take (i := 0) rfl tA tA tA (fun _ _ _ h => h) (Or.inl ⟨by rfl, yA⟩) ?_
                try simp only [List.getElem_toArray, List.getElem_cons_succ, List.getElem_cons_zero, Act.put, List.setIfInBounds_toArray, List.set_cons_zero, List.set_cons_succ]
                refine wpAny_take (i := 1) rfl tA tA tA (fun _ _ _ h => h) (Or.inl ⟨by rfl, yA⟩) ?_
                try simp only [List.getElem_toArray, List.getElem_cons_succ, List.getElem_cons_zero, Act.put, List.setIfInBounds_toArray, List.set_cons_zero, List.set_cons_succ]
                refine wpAny_take (i := 2) rfl tA tA tA (fun _ _ _ h => h) (Or.inl ⟨by rfl, yA⟩) ?_
                try simp only [List.getElem_toArray, List.getElem_cons_succ, List.getElem_cons_zero, Act.put, List.setIfInBounds_toArray, List.set_cons_zero, List.set_cons_succ]
                refine wpAny_take (i := 3) rfl tA tA tA (fun _ _ _ h => h) (Or.inl ⟨by rfl, yA⟩) ?_
                try simp only [List.getElem_toArray, List.getElem_cons_succ, List.getElem_cons_zero, Act.put, List.setIfInBounds_toArray, List.set_cons_zero, List.set_cons_succ]
                refine wpAny_take (i := 4) rfl tA tA tA (fun _ _ _ h => h) (Or.inl ⟨by rfl, yA⟩) ?_
                try simp only [List.getElem_toArray, List.getElem_cons_succ, List.getElem_cons_zero, Act.put, List.setIfInBounds_toArray, List.set_cons_zero, List.set_cons_succ]
                refine wpAny_take (i := 5) rfl tA tA tA (fun _ _ _ h => h) (Or.inl ⟨by rfl, yA⟩) ?_
                try simp only [List.getElem_toArray, List.getElem_cons_succ, List.getElem_cons_zero, Act.put, List.setIfInBounds_toArray, List.set_cons_zero, List.set_cons_succ]
                refine wpAny_take (i := 6) rfl tA tA tA (fun _ _ _ h => h) (Or.inl ⟨by rfl, yA⟩) ?_
                try simp only [List.getElem_toArray, List.getElem_cons_succ, List.getElem_cons_zero, Act.put, List.setIfInBounds_toArray, List.set_cons_zero, List.set_cons_succ]
                refine wpAny_take (i := 7) rfl tA tA tA (fun _ _ _ h => h) (Or.inl ⟨by rfl, yA⟩) ?_
                try simp only [List.getElem_toArray, List.getElem_cons_succ, List.getElem_cons_zero, Act.put, List.setIfInBounds_toArray, List.set_cons_zero, List.set_cons_succ]
                refine wpAny_take (i := 8) rfl tA tA tA (fun _ _ _ h => h) (Or.inl ⟨by rfl, yA⟩) ?_
                try simp only [List.getElem_toArray, List.getElem_cons_succ, List.getElem_cons_zero, Act.put, List.setIfInBounds_toArray, List.set_cons_zero, List.set_cons_succ]
                refine wpAny_take (i := 10) rfl tA tA tA (fun _ _ _ h => h) (Or.inl ⟨by rfl, yA⟩) ?_
                try simp only [List.getElem_toArray, List.getElem_cons_succ, List.getElem_cons_zero, Act.put, List.setIfInBounds_toArray, List.set_cons_zero, List.set_cons_succ]
                refine wpAny_take (i := 11) rfl tA tA tA (fun _ _ _ h => h) (Or.inl ⟨by rfl, yA⟩) ?_
                try simp only [List.getElem_toArray, List.getElem_cons_succ, List.getElem_cons_zero, Act.put, List.setIfInBounds_toArray, List.set_cons_zero, List.set_cons_succ]
                refine wpAny_take (i := 12) rfl tA tA tA (fun _ _ _ h => h) (Or.inl ⟨by rfl, yA⟩) ?_
                try simp only [List.getElem_toArray, List.getElem_cons_succ, List.getElem_cons_zero, Act.put, List.setIfInBounds_toArray, List.set_cons_zero, List.set_cons_succ]
                refine wpAny_ready (rs := [9, 13]) (by kernel_rfl) (by simp) ?_
                refine AllReady.load1 rfl rfl 3 _ rfl g (k) rfl csy _ gy7.out Tryz.underlying3 rfl hcy.out ?_ (AllReady.load1 rfl rfl 3 _ rfl g ((k + 1)) rfl csx _ gx7.out Tryz.underlying3 rfl hcx.out ?_ AllReady.nil)
                · try simp only [List.getElem_toArray, List.getElem_cons_succ, List.getElem_cons_zero, Act.put, List.setIfInBounds_toArray, List.set_cons_zero, List.set_cons_succ]
                  refine wpAny_ready (rs := [13]) (by kernel_rfl) (by simp) (AllReady.load1 rfl rfl 3 _ rfl g ((k + 1)) rfl csx _ gx7.out Tryz.underlying3 rfl hcx.out ?_ AllReady.nil)
                  try simp only [List.getElem_toArray, List.getElem_cons_succ, List.getElem_cons_zero, Act.put, List.setIfInBounds_toArray, List.set_cons_zero, List.set_cons_succ]
                  refine wpAny_take (i := 14) rfl tA tA tA (fun _ _ _ h => h) (Or.inl ⟨by rfl, yA⟩) ?_
                  try simp only [List.getElem_toArray, List.getElem_cons_succ, List.getElem_cons_zero, Act.put, List.setIfInBounds_toArray, List.set_cons_zero, List.set_cons_succ]
                  refine wpAny_ready (rs := [15]) (by kernel_rfl) (by simp) (AllReady.store1 (xs := xs) (n := N) (cap := cap) (g := g) rfl rfl 3 _ _ rfl (k + 1) rfl (cs := csy) rfl (x' := y.1) hM7 0 rfl hNx.out.1 hEy.out hcy.out hoy.out (by kernel_rfl) ?_ AllReady.nil)
                  intro w8 hM8
                  simp only [List.set_cons_zero] at hM8
                  try simp only [List.getElem_toArray, List.getElem_cons_succ, List.getElem_cons_zero, Act.put, List.setIfInBounds_toArray, List.set_cons_zero, List.set_cons_succ]
                  refine wpAny_take (i := 16) rfl tA tA tA (fun _ _ _ h => h) (Or.inl ⟨by rfl, yA⟩) ?_
                  try simp only [List.getElem_toArray, List.getElem_cons_succ, List.getElem_cons_zero, Act.put, List.setIfInBounds_toArray, List.set_cons_zero, List.set_cons_succ]
                  refine wpAny_ready (rs := [17]) (by kernel_rfl) (by simp) (AllReady.store1 (xs := (xs.set (k + 1) y.1)) (n := N) (cap := cap) (g := g) rfl rfl 3 _ _ rfl k rfl (cs := csx) rfl (x' := x.1) hM8 0 rfl (by rw [List.length_set]; exact hNx.out.2) hEx.out hcx.out hox.out (by kernel_rfl) ?_ AllReady.nil)
                  intro w8 hM9
                  simp only [List.set_cons_zero] at hM9
                  try simp only [List.getElem_toArray, List.getElem_cons_succ, List.getElem_cons_zero, Act.put, List.setIfInBounds_toArray, List.set_cons_zero, List.set_cons_succ]
                  refine wpAny_done (by kernel_rfl) ?_ _
                  try simp only [List.getElem_toArray, List.getElem_cons_succ, List.getElem_cons_zero, Act.put, List.setIfInBounds_toArray, List.set_cons_zero, List.set_cons_succ]
                  clear hM7 hM8 gx7 gy7
                  rw [hsw.out] at hM9
                  rw [hnx.out] at hM9
                  go_wp2_with fail
                  go_roundw
                  case rel => exact ⟨k, L', y :: D, by go_num, hkp.out, hLD2, hM9⟩
                  case measure => simp [intOf] <;> omega
                · try simp only [List.getElem_toArray, List.getElem_cons_succ, List.getElem_cons_zero, Act.put, List.setIfInBounds_toArray, List.set_cons_zero, List.set_cons_succ]
                  refine wpAny_ready (rs := [9]) (by kernel_rfl) (by simp) (AllReady.load1 rfl rfl 3 _ rfl g (k) rfl csy _ gy7.out Tryz.underlying3 rfl hcy.out ?_ AllReady.nil)
                  try simp only [List.getElem_toArray, List.getElem_cons_succ, List.getElem_cons_zero, Act.put, List.setIfInBounds_toArray, List.set_cons_zero, List.set_cons_succ]
                  refine wpAny_take (i := 14) rfl tA tA tA (fun _ _ _ h => h) (Or.inl ⟨by rfl, yA⟩) ?_
                  try simp only [List.getElem_toArray, List.getElem_cons_succ, List.getElem_cons_zero, Act.put, List.setIfInBounds_toArray, List.set_cons_zero, List.set_cons_succ]
                  refine wpAny_ready (rs := [15]) (by kernel_rfl) (by simp) (AllReady.store1 (xs := xs) (n := N) (cap := cap) (g := g) rfl rfl 3 _ _ rfl (k + 1) rfl (cs := csy) rfl (x' := y.1) hM7 0 rfl hNx.out.1 hEy.out hcy.out hoy.out (by kernel_rfl) ?_ AllReady.nil)
                  intro w8 hM8
                  simp only [List.set_cons_zero] at hM8
                  try simp only [List.getElem_toArray, List.getElem_cons_succ, List.getElem_cons_zero, Act.put, List.setIfInBounds_toArray, List.set_cons_zero, List.set_cons_succ]
                  refine wpAny_take (i := 16) rfl tA tA tA (fun _ _ _ h => h) (Or.inl ⟨by rfl, yA⟩) ?_
                  try simp only [List.getElem_toArray, List.getElem_cons_succ, List.getElem_cons_zero, Act.put, List.setIfInBounds_toArray, List.set_cons_zero, List.set_cons_succ]
                  refine wpAny_ready (rs := [17]) (by kernel_rfl) (by simp) (AllReady.store1 (xs := (xs.set (k + 1) y.1)) (n := N) (cap := cap) (g := g) rfl rfl 3 _ _ rfl k rfl (cs := csx) rfl (x' := x.1) hM8 0 rfl (by rw [List.length_set]; exact hNx.out.2) hEx.out hcx.out hox.out (by kernel_rfl) ?_ AllReady.nil)
                  intro w8 hM9
                  simp only [List.set_cons_zero] at hM9
                  try simp only [List.getElem_toArray, List.getElem_cons_succ, List.getElem_cons_zero, Act.put, List.setIfInBounds_toArray, List.set_cons_zero, List.set_cons_succ]
                  refine wpAny_done (by kernel_rfl) ?_ _
                  try simp only [List.getElem_toArray, List.getElem_cons_succ, List.getElem_cons_zero, Act.put, List.setIfInBounds_toArray, List.set_cons_zero, List.set_cons_succ]
                  clear hM7 hM8 gx7 gy7
                  rw [hsw.out] at hM9
                  rw [hnx.out] at hM9
                  go_wp2_with fail
                  go_roundw
                  case rel => exact ⟨k, L', y :: D, by go_num, hkp.out, hLD2, hM9⟩
                  case measure => simp [intOf] <;> omega
      · have hd2 : ((lb : Int) == 1) = false := by simp; omega
        have ha2 : 2 ≤ la := by omega
        have hb2 : 2 ≤ lb := by omega
        obtain ⟨K, hK⟩ : ∃ K, (la + lb) / 2 = K := ⟨_, rfl⟩
        have hK1 : 2 * K ≤ la + lb := by omega
        have hK2 : la + lb ≤ 2 * K + 1 := by omega
        clear hK
        obtain ⟨mid, hmd⟩ : ∃ M, a + K = M := ⟨_, rfl⟩
        obtain ⟨n2, hn2⟩ : ∃ M, mid + m = M := ⟨_, rfl⟩
        obtain ⟨p1, hp1⟩ : ∃ M, n2 - 1 = M := ⟨_, rfl⟩
        obtain ⟨lo, hlo⟩ : ∃ l, K - lb = l := ⟨_, rfl⟩
        obtain ⟨hi, hhi⟩ : ∃ l, min la K = l := ⟨_, rfl⟩
        have hmid : ((a : Int) + (b : Int)) / 2 = (mid : Int) := by omega
        have hw3 : IntKind.i64.wrap ((mid : Int) + (m : Int)) = (n2 : Int) := by rw [IntKind.wrap_i64]; omega
        have hw4 : IntKind.i64.wrap ((n2 : Int) - 1) = (p1 : Int) := by rw [IntKind.wrap_i64]; omega
        replace hmd := Lib.hid hmd
        replace hn2 := Lib.hid hn2
        replace hp1 := Lib.hid hp1
        replace hlo := Lib.hid hlo
        replace hhi := Lib.hid hhi
        go_enter Tryz.func254, Tryz.ntmps254
        go_upto_if 140 with (fail)
        go_cut [20, 21] (fun v20 v21 wx => v20 = .int .i64 ((a + lo : Nat) : Int) ∧ v21 = .int .i64 ((a + hi : Nat) : Int) ∧ Ext w wx)
        case first =>
          by_cases hkl : mid < m
          · have hd3 : decide (mid < m) = true := decide_eq_true hkl
            have hw5 : IntKind.i64.wrap ((n2 : Int) - (b : Int)) = ((a + lo : Nat) : Int) := by rw [IntKind.wrap_i64]; have := hmd.out; have := hn2.out; have := hlo.out; omega
            go_wp2_with fail
            go_meet
            case rel => exact ⟨rfl, by have := hhi.out; have := hmd.out; rw [show mid = a + hi by omega], xE⟩
          · have hd3 : decide (mid < m) = false := decide_eq_false hkl
            go_wp2_with fail
            go_meet
            case rel => exact ⟨by have := hmd.out; have := hlo.out; rw [show a + lo = a by omega], by have := hhi.out; have := hmd.out; rw [show m = a + hi by omega], xE⟩
        case rest =>
          obtain ⟨rfl, rfl, hx0⟩ := hcut
          have hlh : lo ≤ hi := by have := hlo.out; have := hhi.out; omega
          go_wp2_with fail
          go_loopw [20, 21] (fun vi vj wr => ∃ s r : Nat, lo ≤ s ∧ s ≤ r ∧ r ≤ hi ∧ vi = .int .i64 ((a + s : Nat) : Int) ∧ vj = .int .i64 ((a + r : Nat) : Int) ∧ Hid ((lo < s → ∀ x y, A[s - 1]? = some x → B[K - s]? = some y → lx c x y) ∧ (r < hi → ∀ x y, B[K - 1 - r]? = some x → A[r]? = some y → lx c x y)) ∧ Ext w wr) (fun vi vj _ => (intOf vj - intOf vi).toNat)
          case atStart => exact ⟨lo, hi, Nat.le_refl _, hlh, Nat.le_refl _, rfl, rfl, Lib.hid ⟨fun h => by omega, fun h => by omega⟩, hx0⟩
          case round =>
            clear hx0
            obtain ⟨s, r, hls, hsr, hrh, rfl, rfl, hI, hx⟩ := hrel
            have hsb : s ≤ la ∧ s ≤ K ∧ r ≤ la ∧ r ≤ K ∧ K ≤ s + lb := by have := hlo.out; have := hhi.out; omega
            by_cases hlt : s < r
            · obtain ⟨q, hq⟩ : ∃ q, (s + r) / 2 = q := ⟨_, rfl⟩
              have hd3 : decide (a + s < a + r) = true := by simp; omega
              have hmid2 : ((a : Int) + (s : Int) + ((a : Int) + (r : Int))) / 2 = (a : Int) + (q : Int) := by omega
              have hqr : s ≤ q ∧ q < r := by omega
              have hqA : q < A.length := by rw [hla.out]; omega
              have hqB : K - 1 - q < B.length := by rw [hlb.out]; omega
              obtain ⟨ib, hib⟩ : ∃ ib, m + (K - 1 - q) = ib := ⟨_, rfl⟩
              have hw6 : IntKind.i64.wrap ((p1 : Int) - ((a : Int) + (q : Int))) = (ib : Int) := by rw [IntKind.wrap_i64]; have := hmd.out; have := hn2.out; have := hp1.out; omega
              have hibN : ib < N := by omega
              have hk0 : ((P ++ A ++ B ++ R).map Prod.fst)[ib]? = some B[K - 1 - q].1 := by
                rw [List.getElem?_map, get_mid (P ++ A) B R (K - 1 - q) hqB ib (by rw [List.length_append, ha.out, hla.out]; omega)]; rfl
              have hk1 : ((P ++ A ++ B ++ R).map Prod.fst)[a + q]? = some A[q].1 := by
                rw [List.getElem?_map, List.append_assoc (P ++ A), get_mid P A (B ++ R) q hqA (a + q) (by rw [ha.out])]; rfl
              have hM3 := hMo.out.ext hx
              obtain ⟨g0, csy, e0, hxl, hg0, hcy, gy, hEy⟩ := hM3.row1 (i := 0) rfl hk0
              obtain ⟨g1, csx, e1, -, -, hcx, gx, hEx⟩ := hM3.row1 (i := 0) rfl hk1
              cases e0
              cases e1
              have hcall := Lib.hid (fun W (h : Ext wr W) => HF.out W csy csx B[K - 1 - q].1 A[q].1 (hM3.ple.trans h.ple) hEy hEx)
              have htg : A[q].2 < B[K - 1 - q].2 := hbef.out _ (List.getElem_mem hqA) _ (List.getElem_mem hqB)
              have hyes : c B[K - 1 - q].1 A[q].1 < 0 → q < hi → ∀ x y, B[K - 1 - q]? = some x → A[q]? = some y → lx c x y := fun h _ x y hx hy => by
                rw [List.getElem?_eq_getElem hqB] at hx
                rw [List.getElem?_eq_getElem hqA] at hy
                cases hx; cases hy
                exact (lx_later (c := c) htg).2 h
              have hno : ¬ c B[K - 1 - q].1 A[q].1 < 0 → lo < q + 1 → ∀ x y, A[q + 1 - 1]? = some x → B[K - (q + 1)]? = some y → lx c x y := fun h _ x y hx hy => by
                rw [show K - (q + 1) = K - 1 - q by omega, List.getElem?_eq_getElem hqB] at hy
                rw [show q + 1 - 1 = q by omega, List.getElem?_eq_getElem hqA] at hx
                cases hx; cases hy
                exact lx_not htg h
              replace hyes := Lib.hid hyes
              replace hno := Lib.hid hno
              obtain ⟨z, hz⟩ : ∃ z, c B[K - 1 - q].1 A[q].1 = z := ⟨_, rfl⟩
              rw [hz] at hcall hyes hno
              replace gx := Lib.hid gx
              replace gy := Lib.hid gy
              replace hcx := Lib.hid hcx
              replace hcy := Lib.hid hcy
              clear hz hk0 hk1 htg hEx hEy hqA hqB hxl hM3
              replace hib := Lib.hid hib
              have hi1 : (a : Int) + (q : Int) < (N : Int) := by omega
              have hj1 : (0 : Int) ≤ (a : Int) + (q : Int) := by omega
              have hq1 : ((a : Int) + (q : Int)).toNat = a + q := by omega
              have hi2 : (ib : Int) < (N : Int) := by omega
              go_upto_region 35 with (fail)
              (refine wp_region_I 14 (by kernel_rfl) (by kernel_rfl) ?_; simp only [List.toList_toArray, List.take_succ_cons, List.take_zero, List.drop_succ_cons, List.drop_zero])
              iterate 6 (refine wiA rfl (by simp) rfl ?_; (try simp only [List.nil_append, List.cons_append]))
              (refine walkI_is (u := ?_) rfl (by simp) rfl ?_ ?_; rotate_left; (focus (intro A w' hS hA K hK; (simp only [List.map_cons, List.map_nil, knows, Is, Op.operands, Call.operands, List.lookup_cons, List.lookup_nil, Nat.reduceBEq, Bool.false_eq_true, if_false, if_true, Act.eval, Array.getD_eq_getD_getElem?, List.getElem?_toArray, List.getElem?_cons_succ, List.getElem?_cons_zero, Option.getD_some, and_true, true_and, List.append_toArray, List.nil_append, List.cons_append, List.toList_toArray, Array.toList_append, Option.toArray, List.append_nil] at hA); first | (refine oper_load_one 3 (.tmp 163) rfl g (ib) (by simpa [Act.eval] using hA) csy _ (fun j u h => hS.cell1 (gy.out j u h)) Tryz.underlying3 rfl hcy.out ?_; exact hK _ (Ext.rfl' _)) | (obtain ⟨hSc, hSf, hSs⟩ := hS.cells; go_simp; exact hK _ xN))); (try simp only [List.nil_append, List.cons_append]))
              iterate 3 (refine wiA rfl (by simp) rfl ?_; (try simp only [List.nil_append, List.cons_append]))
              (refine walkI_is (u := ?_) rfl (by simp) rfl ?_ ?_; rotate_left; (focus (intro A w' hS hA K hK; (simp only [List.map_cons, List.map_nil, knows, Is, Op.operands, Call.operands, List.lookup_cons, List.lookup_nil, Nat.reduceBEq, Bool.false_eq_true, if_false, if_true, Act.eval, Array.getD_eq_getD_getElem?, List.getElem?_toArray, List.getElem?_cons_succ, List.getElem?_cons_zero, Option.getD_some, and_true, true_and, List.append_toArray, List.nil_append, List.cons_append, List.toList_toArray, Array.toList_append, Option.toArray, List.append_nil] at hA); first | (refine oper_load_one 3 (.tmp 167) rfl g ((a + q)) (by simpa [Act.eval] using hA) csx _ (fun j u h => hS.cell1 (gx.out j u h)) Tryz.underlying3 rfl hcx.out ?_; exact hK _ (Ext.rfl' _)) | (obtain ⟨hSc, hSf, hSs⟩ := hS.cells; go_simp; exact hK _ xN))); (try simp only [List.nil_append, List.cons_append]))
              (refine walkI_is (u := ?_) rfl (by simp) rfl ?_ ?_; rotate_left; (focus (intro A w' hS hA K hK; (simp only [List.map_cons, List.map_nil, knows, Is, Op.operands, Call.operands, List.lookup_cons, List.lookup_nil, Nat.reduceBEq, Bool.false_eq_true, if_false, if_true, Act.eval, Array.getD_eq_getD_getElem?, List.getElem?_toArray, List.getElem?_cons_succ, List.getElem?_cons_zero, Option.getD_some, and_true, true_and, List.append_toArray, List.nil_append, List.cons_append, List.toList_toArray, Array.toList_append, Option.toArray, List.append_nil] at hA); first | (go_simp; refine RetV_at (hcall.out w' hS) ?_; intro w6 hx6; exact hK _ hx6) | (obtain ⟨hSc, hSf, hSs⟩ := hS.cells; go_simp; exact hK _ xN))); (try simp only [List.nil_append, List.cons_append]))
              iterate 2 (refine wiA rfl (by simp) rfl ?_; (try simp only [List.nil_append, List.cons_append]))
              (refine walkI_nil ?_; simp only [List.nil_append, List.cons_append, fins, Is, forall_eq, Act.put, List.setIfInBounds_toArray, List.set_cons_zero, List.set_cons_succ])
              intro w3 hx3
              by_cases hzl : z < 0
              · have hd4 : decide (z < 0) = true := decide_eq_true hzl
                rw [hd4]
                simp only [Bool.not_true]
                have hnx := Lib.hid (hyes.out hzl)
                clear gx gy hcall
                go_wp2_with fail
                go_roundw
                case rel => exact ⟨s, q, hls, by omega, by omega, rfl, by go_num, Lib.hid ⟨hI.out.1, hnx.out⟩, hx.then hx3⟩
                case measure => simp [intOf]; omega
              · have hd4 : decide (z < 0) = false := decide_eq_false hzl
                rw [hd4]
                simp only [Bool.not_false]
                have hnx := Lib.hid (hno.out hzl)
                clear gx gy hcall
                go_wp2_with fail
                go_roundw
                case rel => exact ⟨q + 1, r, by omega, by omega, hrh, by go_num, rfl, Lib.hid ⟨hnx.out, hI.out.2⟩, hx.then hx3⟩
                case measure => simp [intOf]; omega
            · obtain rfl : s = r := by omega
              have hd3 : decide (a + s < a + s) = false := by simp
              obtain ⟨e, he⟩ : ∃ e, m + (K - s) = e := ⟨_, rfl⟩
              have hw6 : IntKind.i64.wrap ((n2 : Int) - ((a : Int) + (s : Int))) = (e : Int) := by rw [IntKind.wrap_i64]; have := hmd.out; have := hn2.out; omega
              have eA : A.take s ++ A.drop s = A := List.take_append_drop s A
              have eB : B.take (K - s) ++ B.drop (K - s) = B := List.take_append_drop (K - s) B
              have hcr : ∀ x ∈ A.take s ++ B.take (K - s), ∀ y ∈ A.drop s ++ B.drop (K - s), lx c x y := by
                refine InO.cross hc (by rw [eA]; exact oA.out) (by rw [eB]; exact oB.out) (fun x y hx hy => ?_) (fun x y hx hy => ?_)
                · rw [List.head?_drop] at hy
                  by_cases hs0 : s = 0
                  · subst hs0; simp at hx
                  · rw [List.getLast?_take] at hx
                    rw [if_neg hs0] at hx
                    by_cases hl : lo < s
                    · rcases hA' : A[s - 1]? with _ | u
                      · rw [List.getElem?_eq_none_iff] at hA'; have := hla.out; omega
                      · rw [hA'] at hx; cases hx
                        exact hI.out.1 hl _ _ hA' hy
                    · have := hlo.out
                      rw [List.getElem?_eq_none (by rw [hlb.out]; omega)] at hy; cases hy
                · rw [List.head?_drop] at hy
                  by_cases hs0 : K - s = 0
                  · rw [hs0] at hx; simp at hx
                  · rw [List.getLast?_take] at hx
                    rw [if_neg hs0] at hx
                    by_cases hl : s < hi
                    · rcases hB' : B[K - s - 1]? with _ | u
                      · rw [List.getElem?_eq_none_iff] at hB'; have := hlb.out; omega
                      · rw [hB'] at hx; cases hx
                        exact hI.out.2 hl _ _ (by rw [show K - 1 - s = K - s - 1 by omega]; exact hB') hy
                    · have := hhi.out
                      rw [List.getElem?_eq_none (by rw [hla.out]; omega)] at hy; cases hy
              have lA1 : (A.take s).length = s := by rw [List.length_take, hla.out]; omega
              have lA2 : (A.drop s).length = la - s := by rw [List.length_drop, hla.out]
              have lB1 : (B.take (K - s)).length = K - s := by rw [List.length_take, hlb.out]; omega
              have lB2 : (B.drop (K - s)).length = lb - (K - s) := by rw [List.length_drop, hlb.out]
              generalize A.take s = A1 at *
              generalize A.drop s = A2 at *
              generalize B.take (K - s) = B1 at *
              generalize B.drop (K - s) = B2 at *
              subst eA
              subst eB
              have hM3 := Lib.hid (hMo.out.ext hx)
              have oAs := List.pairwise_append.1 oA.out
              have oBs := List.pairwise_append.1 oB.out
              have oA1 : InO c A1 := oAs.1
              have oA2 : InO c A2 := oAs.2.1
              have oB1 : InO c B1 := oBs.1
              have oB2 : InO c B2 := oBs.2.1
              have b1 : Bef A1 B1 := hbef.out.sub (fun x h => List.mem_append_left _ h) (fun x h => List.mem_append_left _ h)
              have b2 : Bef A2 B2 := hbef.out.sub (fun x h => List.mem_append_right _ h) (fun x h => List.mem_append_right _ h)
              have hfin : Hid (∀ S1 S2 : List (α × Nat), InO c S1 → InO c S2 → S1.Perm (A1 ++ B1) → S2.Perm (A2 ++ B2) → InO c (S1 ++ S2) ∧ (S1 ++ S2).Perm (A1 ++ A2 ++ (B1 ++ B2))) := Lib.hid fun S1 S2 i1 i2 q1 q2 => ⟨InO.app i1 i2 fun x hx y hy => hcr x (q1.mem_iff.1 hx) y (q2.mem_iff.1 hy), (q1.append q2).trans (by
                rw [List.append_assoc, List.append_assoc]
                refine List.Perm.append_left _ ?_
                rw [← List.append_assoc, ← List.append_assoc]
                exact List.Perm.append_right _ List.perm_append_comm)⟩
              clear hcr hI oAs oBs hMo oA oB hbef
              replace hfin := hfin
              have hN' : Hid ((P ++ A1 ++ A2 ++ B1 ++ B2 ++ R).length = N) := Lib.hid (by rw [← hN.out]; simp)
              replace lA1 := Lib.hid lA1
              replace lA2 := Lib.hid lA2
              replace lB1 := Lib.hid lB1
              replace lB2 := Lib.hid lB2
              replace oA1 := Lib.hid oA1
              replace oA2 := Lib.hid oA2
              replace oB1 := Lib.hid oB1
              replace oB2 := Lib.hid oB2
              replace b1 := Lib.hid b1
              replace b2 := Lib.hid b2
              replace he := Lib.hid he
              clear hN hla hlb hlt hx
              have hrot := fun (q1 : s < la) (q2 : s < K) => rotR_N E hm hone (.func (.func fid) #[] #[]) g N cap (a + s) m e ((P ++ A1).map Prod.fst) (A2.map Prod.fst) (B1.map Prod.fst) ((B2 ++ R).map Prod.fst) w0 wr H0 H LB (by simpa using hM3.out) (by rw [← hN'.out]; simp only [List.length_append, List.length_map]; omega) (by rw [List.length_map, List.length_append, ha.out, lA1.out]) (by rw [List.length_map, lA2.out]; omega) (by rw [List.length_map, lB1.out]; exact he.out) (by rw [List.length_map, lA2.out]; omega) (by rw [List.length_map, lB1.out]; omega) hN6
              have hrec1 := fun (q1 : 0 < s) (q2 : s < K) (W : World) (hM : Mem w0 H0 (own hm 1 3 (.slice (some ⟨g, 0, none⟩) N cap) ((P ++ A1 ++ B1 ++ A2 ++ B2 ++ R).map Prod.fst) :: LB) H W) => ih.out a (a + s) mid P A1 B1 (A2 ++ B2 ++ R) W (by rw [lA1.out, lB1.out]; omega) (by rw [← hN'.out]; simp only [List.length_append]; omega) ha.out (by rw [lA1.out]) (by rw [lB1.out]; have := hmd.out; omega) (by rw [lA1.out]; omega) (by rw [lB1.out]; omega) oA1.out oB1.out b1.out (by simpa using hM)
              have hrec2 := fun (q1 : s < la) (q2 : K < s + lb) (W : World) (S1 : List (α × Nat)) (p1' : S1.Perm (A1 ++ B1)) (hM : Mem w0 H0 (own hm 1 3 (.slice (some ⟨g, 0, none⟩) N cap) ((P ++ S1 ++ A2 ++ B2 ++ R).map Prod.fst) :: LB) H W) => by
                have lS1 : S1.length = K := by rw [p1'.length_eq, List.length_append, lA1.out, lB1.out]; omega
                exact ih.out mid e b (P ++ S1) A2 B2 R W (by rw [lA2.out, lB2.out]; omega) (by rw [← hN'.out]; simp only [List.length_append]; rw [lS1, lA1.out, lB1.out]; omega) (by rw [List.length_append, ha.out, lS1]; exact hmd.out) (by rw [lA2.out]; have := hmd.out; have := he.out; omega) (by rw [lB2.out]; have := he.out; omega) (by rw [lA2.out]; omega) (by rw [lB2.out]; omega) oA2.out oB2.out b2.out (by simpa using hM)
              replace hrot := Lib.hid hrot
              replace hrec1 := Lib.hid hrec1
              replace hrec2 := Lib.hid hrec2
              have eA1 : Hid (s = 0 → A1 = []) := Lib.hid fun h => List.length_eq_zero_iff.1 (by rw [lA1.out]; omega)
              have eA2 : Hid (s = la → A2 = []) := Lib.hid fun h => List.length_eq_zero_iff.1 (by rw [lA2.out]; omega)
              have eB1 : Hid (s = K → B1 = []) := Lib.hid fun h => List.length_eq_zero_iff.1 (by rw [lB1.out]; omega)
              have eB2 : Hid (K = s + lb → B2 = []) := Lib.hid fun h => List.length_eq_zero_iff.1 (by rw [lB2.out]; omega)
              clear hN' lA1 lA2 lB1 lB2 ih b1 b2
              by_cases c0 : s = 0
              · have e0 := eA1.out c0
                subst e0
                have hR := Lib.hid (hrot.out (by omega) (by omega))
                have hr1 : decide (a + s < m) = true := by simp; omega
                have hr2 : decide (m < e) = true := by have := he.out; simp; omega
                have hs1 : decide (a < a + s) = false := by simp; omega
                have hs3 : decide ((a : Int) < (a : Int) + (s : Int)) = false := by simp; omega
                have hr3 : decide ((a : Int) + (s : Int) < (m : Int)) = true := by simp; omega
                have hs2 : decide ((a : Int) + (s : Int) < (mid : Int)) = true := by have := hmd.out; simp; omega
                have ht1 : decide (mid < e) = true := by have := hmd.out; have := he.out; simp; omega
                clear hM3 hrot hrec1
                replace c0 := Lib.hid c0
                go_wp2_with fail
                refine hR.out.mono ?_
                rintro e5 w5 ⟨rfl, hM5⟩
                clear hR
                have hM6 := Lib.hid (show Mem w0 H0 (own hm 1 3 (.slice (some ⟨g, 0, none⟩) N cap) ((P ++ B1 ++ A2 ++ B2 ++ R).map Prod.fst) :: LB) H w5 by simpa using hM5)
                clear hM5
                by_cases c1 : K < s + lb
                · have ht2 : decide (e < b) = true := by have := he.out; simp; omega
                  have hR := Lib.hid (hrec2.out (by have := c0.out; omega) c1 w5 B1 (by simp) hM6.out)
                  clear hM6 hrec2
                  go_wp2_with fail
                  refine hR.out.mono ?_
                  rintro e7 w7 ⟨rfl, S2, i2, p2', hM7⟩
                  obtain ⟨f1, f2⟩ := hfin.out B1 S2 oB1.out i2 (by simp) p2'
                  replace hM7 := Lib.hid hM7
                  clear hR
                  go_wp2_with fail
                  refine bodyPost_ret (v := .tuple #[]) (by simp [results, Tryz.results254, go_sem]) rfl ⟨rfl, B1 ++ S2, f1, (by first | exact f2 | (simp; done) | simpa using f2), by simpa using hM7.out⟩
                · have ht2 : decide (e < b) = false := by have := he.out; simp; omega
                  have e2 := eB2.out (by have := c0.out; omega)
                  subst e2
                  clear hrec2
                  obtain ⟨f1, f2⟩ := hfin.out B1 A2 oB1.out oA2.out (by simp) (by simp)
                  go_wp2_with fail
                  refine bodyPost_ret (v := .tuple #[]) (by simp [results, Tryz.results254, go_sem]) rfl ⟨rfl, B1 ++ A2, f1, (by first | exact f2 | (simp; done) | simpa using f2), by simpa using hM6.out⟩
              · by_cases c2 : s = la
                · have e0 := eA2.out c2
                  subst e0
                  have hM5 : Mem w0 H0 (own hm 1 3 (.slice (some ⟨g, 0, none⟩) N cap) ((P ++ A1 ++ B1 ++ [] ++ B2 ++ R).map Prod.fst) :: LB) H wr := by simpa using hM3.out
                  by_cases c3 : s < K
                  · have hR := Lib.hid (hrec1.out (by omega) c3 wr hM5)
                    have hr1 : decide (a + s < m) = false := by simp; omega
                    have hr2 : decide (m < e) = true := by have := he.out; simp; omega
                    have hs1 : decide (a < a + s) = true := by simp; omega
                    have hs3 : decide ((a : Int) < (a : Int) + (s : Int)) = true := by simp; omega
                    have hr3 : decide ((a : Int) + (s : Int) < (m : Int)) = false := by simp; omega
                    have hs2 : decide ((a : Int) + (s : Int) < (mid : Int)) = true := by have := hmd.out; simp; omega
                    have ht1 : decide (mid < e) = false := by have := hmd.out; have := he.out; simp; omega
                    clear hM3 hrot hrec1 hrec2 hM5
                    replace c2 := Lib.hid c2
                    go_wp2_with fail
                    refine hR.out.mono ?_
                    rintro e6 w6 ⟨rfl, S1, i1, p1', hM6⟩
                    replace i1 := Lib.hid i1
                    replace p1' := Lib.hid p1'
                    replace hM6 := Lib.hid hM6
                    clear hR
                    obtain ⟨f1, f2⟩ := hfin.out S1 B2 i1.out oB2.out p1'.out (by simp)
                    go_wp2_with fail
                    refine bodyPost_ret (v := .tuple #[]) (by simp [results, Tryz.results254, go_sem]) rfl ⟨rfl, S1 ++ B2, f1, (by first | exact f2 | (simp; done) | simpa using f2), by simpa using hM6.out⟩
                  · have e2 := eB1.out (by omega)
                    subst e2
                    have hr1 : decide (a + s < m) = false := by simp; omega
                    have hr2 : decide (m < e) = false := by have := he.out; simp; omega
                    have hs1 : decide (a < a + s) = true := by simp; omega
                    have hs3 : decide ((a : Int) < (a : Int) + (s : Int)) = true := by simp; omega
                    have hr3 : decide ((a : Int) + (s : Int) < (m : Int)) = false := by simp; omega
                    have hs2 : decide ((a : Int) + (s : Int) < (mid : Int)) = false := by have := hmd.out; simp; omega
                    have ht1 : decide (mid < e) = false := by have := hmd.out; have := he.out; simp; omega
                    clear hM3 hrot hrec1 hrec2
                    have hM6 := Lib.hid hM5
                    clear hM5
                    replace c2 := Lib.hid c2
                    obtain ⟨f1, f2⟩ := hfin.out A1 B2 oA1.out oB2.out (by simp) (by simp)
                    go_wp2_with fail
                    refine bodyPost_ret (v := .tuple #[]) (by simp [results, Tryz.results254, go_sem]) rfl ⟨rfl, A1 ++ B2, f1, (by first | exact f2 | (simp; done) | simpa using f2), by simpa using hM6.out⟩
                · by_cases c3 : s = K
                  · have e2 := eB1.out c3
                    subst e2
                    have hM5 : Mem w0 H0 (own hm 1 3 (.slice (some ⟨g, 0, none⟩) N cap) ((P ++ A1 ++ A2 ++ B2 ++ R).map Prod.fst) :: LB) H wr := by simpa using hM3.out
                    have hR := Lib.hid (hrec2.out (by omega) (by omega) wr A1 (by simp) hM5)
                    have hr1 : decide (a + s < m) = true := by simp; omega
                    have hr2 : decide (m < e) = false := by have := he.out; simp; omega
                    have hs1 : decide (a < a + s) = true := by simp; omega
                    have hs3 : decide ((a : Int) < (a : Int) + (s : Int)) = true := by simp; omega
                    have hr3 : decide ((a : Int) + (s : Int) < (m : Int)) = true := by simp; omega
                    have hs2 : decide ((a : Int) + (s : Int) < (mid : Int)) = false := by have := hmd.out; simp; omega
                    have ht1 : decide (mid < e) = true := by have := hmd.out; have := he.out; simp; omega
                    have ht2 : decide (e < b) = true := by have := he.out; simp; omega
                    clear hM3 hrot hrec1 hrec2 hM5
                    replace c3 := Lib.hid c3
                    go_wp2_with fail
                    refine hR.out.mono ?_
                    rintro e7 w7 ⟨rfl, S2, i2, p2', hM7⟩
                    obtain ⟨f1, f2⟩ := hfin.out A1 S2 oA1.out i2 (by simp) p2'
                    replace hM7 := Lib.hid hM7
                    clear hR
                    go_wp2_with fail
                    refine bodyPost_ret (v := .tuple #[]) (by simp [results, Tryz.results254, go_sem]) rfl ⟨rfl, A1 ++ S2, f1, (by first | exact f2 | (simp; done) | simpa using f2), by simpa using hM7.out⟩
                  · have hR := Lib.hid (hrot.out (by omega) (by omega))
                    have hr1 : decide (a + s < m) = true := by simp; omega
                    have hr2 : decide (m < e) = true := by have := he.out; simp; omega
                    have hs1 : decide (a < a + s) = true := by simp; omega
                    have hs3 : decide ((a : Int) < (a : Int) + (s : Int)) = true := by simp; omega
                    have hr3 : decide ((a : Int) + (s : Int) < (m : Int)) = true := by simp; omega
                    have hs2 : decide ((a : Int) + (s : Int) < (mid : Int)) = true := by have := hmd.out; simp; omega
                    have ht1 : decide (mid < e) = true := by have := hmd.out; have := he.out; simp; omega
                    clear hM3 hrot
                    go_wp2_with fail
                    refine hR.out.mono ?_
                    rintro e5 w5 ⟨rfl, hM5⟩
                    clear hR
                    have hM6' : Mem w0 H0 (own hm 1 3 (.slice (some ⟨g, 0, none⟩) N cap) ((P ++ A1 ++ B1 ++ A2 ++ B2 ++ R).map Prod.fst) :: LB) H w5 := by simpa using hM5
                    have hR := Lib.hid (hrec1.out (by omega) (by omega) w5 hM6')
                    clear hM5 hM6' hrec1
                    go_wp2_with fail
                    refine hR.out.mono ?_
                    rintro e6 w6 ⟨rfl, S1, i1, p1', hM6⟩
                    replace i1 := Lib.hid i1
                    replace p1' := Lib.hid p1'
                    replace hM6 := Lib.hid hM6
                    clear hR
                    by_cases c1 : K < s + lb
                    · have ht2 : decide (e < b) = true := by have := he.out; simp; omega
                      have hR := Lib.hid (hrec2.out (by omega) c1 w6 S1 p1'.out (by simpa using hM6.out))
                      clear hM6 hrec2
                      go_wp2_with fail
                      refine hR.out.mono ?_
                      rintro e7 w7 ⟨rfl, S2, i2, p2', hM7⟩
                      obtain ⟨f1, f2⟩ := hfin.out S1 S2 i1.out i2 p1'.out p2'
                      replace hM7 := Lib.hid hM7
                      clear hR
                      go_wp2_with fail
                      refine bodyPost_ret (v := .tuple #[]) (by simp [results, Tryz.results254, go_sem]) rfl ⟨rfl, S1 ++ S2, f1, (by first | exact f2 | (simp; done) | simpa using f2), by simpa using hM7.out⟩
                    · have ht2 : decide (e < b) = false := by have := he.out; simp; omega
                      have e2 := eB2.out (by omega)
                      subst e2
                      clear hrec2
                      obtain ⟨f1, f2⟩ := hfin.out S1 A2 i1.out oA2.out p1'.out (by simp)
                      go_wp2_with fail
                      refine bodyPost_ret (v := .tuple #[]) (by simp [results, Tryz.results254, go_sem]) rfl ⟨rfl, S1 ++ A2, f1, (by first | exact f2 | (simp; done) | simpa using f2), by simpa using hM6.out⟩
end Go.Proofs.YtabajghokhfmhaaGreat
