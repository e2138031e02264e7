/- Lemmas for CB, part 13: wire.Writer: Text and Raw, and more. -/
import Derived.Lib.AppendStr
import Derived.Test.YtnpnjcaomakehaaGreatCB03
import Derived.Test.YtnpnjcaomakehaaGreatCB04
import Derived.Test.YtnpnjcaomakehaaGreatCB05
import Derived.Test.YtnpnjcaomakehaaGreatCB08
import Derived.Test.YtnpnjcaomakehaaGreatCB10
import Derived.Test.YtnpnjcaomakehaaGreatCB11
set_option linter.unusedSimpArgs false
set_option linter.unusedVariables false
namespace Go.Proofs.YtnpnjcaomakehaaGreat
open Go.RowKit
section
variable {P : Program}
theorem run_append_str {base : Nat} {w : World} (t u ty e : TypeId) (i : TypeInfo) (ht : P.underlying t = some (.slice e)) (hu : P.underlying u = some .string) (hi : P.info? e = some i) (hz : i.zero = some (.int .u8 0))
    (hsize : i.size = 1) (hby : i.bytes = 1) {v : Value} {xs : List UInt8} (hown : OwnS base noH w ByteR 1 e v xs) (s : ByteArray) (hlen : xs.length + s.size ≤ 1000000000) (hbase : base ≤ w.heap.size) :
    ∃ v' w', (Builtin.append_ #[t, u] ty #[v, .string s]).run P w = .ok v' w' ∧ OwnS base noH w' ByteR 1 e v' (xs ++ s.data.toList) ∧ w.grownBy w' v.ownBlock ∧
      (∀ k, v'.ownBlock = some k → v.ownBlock = some k ∨ w.heap.size ≤ k) := by
  have h63 : xs.length + s.size ≤ maxLen := by unfold maxLen; omega
  have hsl : s.data.toList.length = s.size := by simp
  have hz1 : (Value.int IntKind.u8 0).cells.size = 1 := rfl
  have grown : ∀ (old : Nat), ∀ (row : Option Nat),
      OwnS base noH (w.drew.alloc (.cells ((xs.map byteV).toArray ++ (Lib.strCells s).toArray ++ Builtin.zeroCells (Value.int .u8 0).cells (grownCap w (xs.length + s.size) old e - (xs.length + s.size))) e)) ByteR 1 e
        (.slice (some ⟨w.heap.size, 0, none⟩) (xs.length + s.size) (grownCap w (xs.length + s.size) old e)) (xs ++ s.data.toList) ∧
      w.grownBy (w.drew.alloc (.cells ((xs.map byteV).toArray ++ (Lib.strCells s).toArray ++ Builtin.zeroCells (Value.int .u8 0).cells (grownCap w (xs.length + s.size) old e - (xs.length + s.size))) e)) row := by
    intro old row
    have hge := grownCap_ge w (xs.length + s.size) old e
    have hcm : grownCap w (xs.length + s.size) old e ≤ maxLen := grownCap_le_maxLen w (xs.length + s.size) old e h63
    refine ⟨.inr ⟨w.heap.size, _, _, by simp [hsl], hbase, rfl, heap_alloc_new w.drew _, by simpa [hsl] using hge, hcm, ?_, ?_⟩, ⟨rfl, rfl, rfl, by simp, fun k hk _ => Below.heap_alloc w.drew _ k hk⟩⟩
    · simp only [Array.size_append, List.size_toArray, size_zeroCells, hz1, List.length_map, Lib.strCells_length]
      omega
    · rw [cells_byteV]
      simp only [Array.toList_append, List.append_assoc]
      rw [← List.append_assoc, List.map_append, show (xs ++ s.data.toList).length * 1 = (xs.map byteV ++ Lib.strCells s).length by simp [Lib.strCells_length, hsl]]
      rw [List.take_left]; rfl
  rcases hown with ⟨rfl, rfl⟩ | ⟨g, cap, cur, rfl, hbg, hn, hg, hnc, hcm, hcs, htake⟩
  · by_cases hm : s.size = 0
    · have hn : Lib.strCells s = [] := List.eq_nil_of_length_eq_zero (by rw [Lib.strCells_length]; exact hm)
      have hd : s.data.toList = [] := List.eq_nil_of_length_eq_zero (by rw [hsl]; exact hm)
      refine ⟨.slice none 0 0, w, ?_, by rw [hd]; exact OwnS.nil _ _ _ _ _ _, ⟨rfl, rfl, rfl, Nat.le_refl _, fun _ _ _ => rfl⟩, fun k h => .inl h⟩
      have hf := Lib.run_firstCells_string (P := P) w 1 s
      rw [hm] at hf
      simp [Builtin.append_, run_underlying ht, run_underlying hu, sizeOf, typeInfo, hi, hsize, Builtin.lenOf, hm, hf]
    · have hr := run_append_nil_string (P := P) w t u ty e i (.int .u8 0) ht hu hi hz s (by omega) (by omega) (by rw [hby]; omega)
      have hgr := grown 0 (Value.ownBlock (.slice none 0 0))
      simp only [List.length_nil, Nat.zero_add, List.nil_append, Array.empty_append, List.map_nil] at hgr ⊢
      have e1 : (s.data.map fun b => Value.int .u8 b.toNat) = (Lib.strCells s).toArray := by
        apply Array.ext'
        simp [Lib.strCells]
      rw [e1] at hr
      exact ⟨_, _, hr, by simpa using hgr.1, by simpa using hgr.2, fun k hk => .inr (by simp [Value.ownBlock] at hk; omega)⟩
  · by_cases hroom : xs.length + s.size ≤ cap
    · have hcs' : cur.size = cap := by simpa using hcs
      have hr := Lib.run_append_room_string (P := P) w t u ty e i ht hu hi hsize g xs.length cap cur hg s hroom (by omega)
      refine ⟨_, _, hr, .inr ⟨g, cap, _, by simp [hsl], hbg, rfl, setRow_heap w g cur _ e _ hg, by simpa [hsl] using hroom, hcm, ?_, ?_⟩, ⟨rfl, rfl, rfl, by simp, fun k _ hk => setRow_other w g k _ (fun e => hk (by simp [Value.ownBlock, e]))⟩, fun k hk => .inl hk⟩
      · simp only [List.size_toArray, List.length_append, List.length_take, List.length_drop, Array.length_toList, Lib.strCells_length]
        omega
      · rw [cells_byteV] at htake ⊢
        have ht' : cur.toList.take xs.length = xs.map byteV := by simpa using htake
        rw [ht', List.map_append, show (xs ++ s.data.toList).length * 1 = (xs.map byteV ++ Lib.strCells s).length by simp [Lib.strCells_length, hsl]]
        simp only []
        rw [List.take_left]; rfl
    · have holds : ∀ j u, (xs.map byteV)[j]? = some u → w.cell? ((⟨g, 0, none⟩ : Addr).add j) = some u := by
        intro j u hu
        rw [add0, cell_of_row w g j cur e (0, 0) hg]
        rw [cells_byteV] at htake
        rw [← htake, List.getElem?_take] at hu
        split at hu
        · simpa using hu
        · cases hu
      have hr := Lib.run_append_grow_string (P := P) w t u ty e i (.int .u8 0) ht hu hi hz ⟨g, 0, none⟩ xs.length cap (xs.map byteV) (by rw [hsize]; simp) holds s (by omega) (by omega) (by rw [hby]; exact growslice_fits (by omega) (by omega))
      have hgr := grown cap (Value.ownBlock (.slice (some ⟨g, 0, none⟩) xs.length cap))
      exact ⟨_, _, hr, hgr.1, hgr.2, fun k hk => .inr (by simp [Value.ownBlock] at hk; omega)⟩
theorem wpList_append_str {ops : Array Oper} {rest : List Oper} {o : Oper} {a : Act} {Q : Exit → Act → World → Prop} (hgd : o.guard = none) (sl x : Operand) (t u : TypeId)
    (ho : o.op = .call { callee := .builtin .append, args := #[sl, x], argTypes := #[t, u] })
    {base : Nat} {w : World} (e : TypeId) (i : TypeInfo) (ht : P.underlying t = some (.slice e)) (hu : P.underlying u = some .string) (hi : P.info? e = some i) (hz : i.zero = some (.int .u8 0))
    (hsize : i.size = 1) (hby : i.bytes = 1) {v : Value} {xs : List UInt8} (hs : a.eval sl = v) (s : ByteArray) (hx : a.eval x = .string s) (hown : OwnS base noH w ByteR 1 e v xs) (hlen : xs.length + s.size ≤ 1000000000) (hbase : base ≤ w.heap.size)
    (h : ∀ v' w', OwnS base noH w' ByteR 1 e v' (xs ++ s.data.toList) → w.grownBy w' v.ownBlock → (∀ k, v'.ownBlock = some k → v.ownBlock = some k ∨ w.heap.size ≤ k) → wpList P ops Q rest (a.put o.dst v') w') : wpList P ops Q (o :: rest) a w := by
  refine wpList_plain hgd fun K hK => ?_
  obtain ⟨v', w', hr, h2, h3, h4⟩ := run_append_str (P := P) (w := w) t u o.type e i ht hu hi hz hsize hby hown s hlen hbase
  unfold Oper.wp execOp
  simp only [ho, resolve, invoke, builtin, Sem.run_bind, Sem.run_pure, Result.andThen_ok, List.map_toArray, List.map_cons, List.map_nil, hs, hx, hr]
  exact hK _ _ (h v' w' h2 h3 h4)
end
theorem Wr.step0 {base : Nat} {w : World} {g : Nat} {v v' : Value} {row : Option Nat} {ys : List UInt8} (hW : Own w g #[v] 64) (hg : base ≤ g) (hb : base ≤ w.heap.size) (hne : row ≠ some g)
    {w2 : World} (ho : OwnS base noH w2 ByteR 1 5 v' ys) (hgr : w.grownBy w2 row) (hk : ∀ k, v'.ownBlock = some k → row = some k ∨ w.heap.size ≤ k) :
    Own w2 g #[v] 64 ∧ Hid (Wto base w g row ys (w2.setCell ⟨g, 0, none⟩ v')) := by
  have hgl := hW.lt
  have hW2 : Own w2 g #[v] 64 := hW.grown hgr (fun e => hne e.symm)
  have hng : v'.ownBlock ≠ some g := by
    intro he
    rcases hk g he with h1 | h1
    · exact hne h1
    · omega
  have hs2 : w.heap.size ≤ w2.heap.size := hgr.size
  refine ⟨hW2, ⟨_, ⟨v', by simpa using hW2.set 0 v', rfl, ho.keepB (fun k hk => ?_) (fun _ _ => rfl) (fun _ _ h => h), hng, hg, by simp; omega⟩, ⟨?_, ?_, ?_, ?_, ?_⟩, ?_⟩⟩
  · exact Below.heap_setCell _ _ _ _ (fun h => hng (by rw [hk]; exact congrArg some h))
  · exact hgr.os
  · exact hgr.tape
  · exact hgr.output
  · simp; omega
  · intro k hk1 hk2 hk3
    rw [Below.heap_setCell _ _ _ _ hk2, hgr.block k (by omega) (fun e => hk3 e.symm)]
  · intro k hk'
    rcases hk k hk' with h1 | h1
    · exact .inl h1
    · right; omega
set_option maxRecDepth 100000 in
set_option maxHeartbeats 400000 in
theorem wtext_c (base g : Nat) (row : Option Nat) (xs : List UInt8) (s : ByteArray) (w : World) (hW : Wr base w g row xs) (hlen : xs.length + s.size ≤ 900000000) :
    Calls Tryz.prog 72 #[.pointer (some ⟨g, 0, none⟩), .string s] w (WrP base w g row (xs ++ uvar s.size ++ s.data.toList)) := by
  have hu10 := uvar_len10 (n := s.size) (by omega)
  go_enter Tryz.func72, Tryz.ntmps72
  go_wp2_with fail
  refine (uint_c base g row xs s.size _ (by omega) hW (by omega)).mono ?_
  rintro e w1 ⟨rfl, row', hWr, hx, hrow⟩
  replace hrow := Lib.hid hrow
  obtain ⟨v, hO, hv, hS, hne, hg, hb⟩ := hWr
  generalize hzs : xs ++ uvar s.size = zs at *
  have hzl : zs.length ≤ xs.length + 10 := by rw [← hzs]; simp; omega
  replace hzs := Lib.hid hzs
  obtain ⟨a, c, rfl, hl⟩ := hS.form
  obtain ⟨hoc, hof⟩ := hO.facts
  have hgl := hO.lt
  obtain ⟨i0, hi0, hz0, hz1, hz2⟩ := infoB'
  go_wp2_with (at_builtin; refine wpList_append_str rfl _ _ 23 9 rfl 5 i0 Tryz.underlying23 Tryz.underlying9 hi0 hz0 hz1 hz2 rfl s rfl hS ?c1 hb ?c4)
  case c1 => omega
  case c4 =>
  intro v' w2 ho2 hg2 hk2
  obtain ⟨hO2, hR⟩ := Wr.step0 hO hg hb hne ho2 hg2 hk2
  obtain ⟨a', c', rfl, -⟩ := ho2.form
  obtain ⟨hoc2, hof2⟩ := hO2.facts
  have hgl2 := hO2.lt
  clear hS hg2 hk2 hoc hof ho2
  go_wp2_with fail
  have hT := Wto.then hx hrow.out hR.out
  refine bodyPost_ret (v := .tuple #[]) (by simp [results, Tryz.results72, go_sem]) rfl ⟨rfl, ?_⟩
  simpa using hT
theorem wraw_c (base g : Nat) (row : Option Nat) (xs ys : List UInt8) (vy : Value) (w : World) (hW : Wr base w g row xs) (hy : BytesR (ph w) vy ys) (hlen : xs.length + ys.length ≤ 900000000) :
    Calls Tryz.prog 32 #[.pointer (some ⟨g, 0, none⟩), vy] w (WrP base w g row (xs ++ uvar ys.length ++ ys)) := by
  have hcv := conv_bytes hy
  obtain ⟨a, c, rfl, -⟩ := hy.form
  have h := wtext_c base g row xs (baOf ys) w hW (by rw [baOf_size]; exact hlen)
  rw [baOf_size] at h
  go_enter Tryz.func32, Tryz.ntmps32
  go_wp2_with fail
  refine h.mono ?_
  rintro e w1 ⟨rfl, hT⟩
  go_wp2_with fail
  exact bodyPost_ret (v := .tuple #[]) (by simp [results, Tryz.results32, go_sem]) rfl ⟨rfl, hT⟩
end Go.Proofs.YtnpnjcaomakehaaGreat
namespace Go.Proofs.YtnpnjcaomakehaaGreat
open Go.RowKit Go.Shelf
theorem nodes_len : ∀ l : List Fm, (∀ g ∈ l, NodeI g ∧ g.inn.length ≤ 32) → (l.flatMap nodeE).length ≤ 2920 * l.length
  | [], _ => by simp
  | x :: l, h => by
    have h1 := nodes_len l fun y hy => h y (by simp [hy])
    obtain ⟨h2, h3⟩ := h x (by simp)
    have h4 := nodeE_len h2
    rw [List.flatMap_cons, List.length_append, List.length_cons]; omega
theorem bytesF_len {f : Fm} (hv : validF f = 0) (hi : FmI f) : (bytesF f).length ≤ 300000 := by
  rw [bytes_nodes]
  have h1 := nodes_len f.pre fun g hg => ⟨hi g hg, valid_sets hv g hg⟩
  have h2 := f.pre_len
  have h3 := (validF_0 hv).1
  omega
theorem OwnS.keepWr {α : Type} {base g : Nat} {row : Option Nat} {H : PH} {w w' : World} {E : PH → List Value → α → Prop} {sz : Nat} {T : TypeId} {v : Value} {xs : List α} (h : OwnS base H w E sz T v xs) (e : ExtW w w' g row) (hg : g < base) (hr : ∀ k, row = some k → k < base) : OwnS base H w' E sz T v xs := by
  rcases h with ⟨rfl, rfl⟩ | ⟨q, cap, cur, e1, e2, e3, e4, e5, e6, e7, e8⟩
  · exact .inl ⟨rfl, rfl⟩
  · refine .inr ⟨q, cap, cur, e1, e2, e3, ?_, e5, e6, e7, e8⟩
    rw [e.block q (Array.getElem?_eq_some_iff.1 e4).1 (by omega) (fun h => by have := hr q h; omega)]; exact e4
def encC (l : List Cl) : List UInt8 := if validC l = 0 then bytesC l else []
def EncCQ (w : World) (l : List Cl) (e : Ending) (w' : World) : Prop := ∃ v, e = .returned (.tuple #[v, .int .i64 (validC l)]) ∧ OwnS w.heap.size noH w' ByteR 1 5 v (encC l) ∧ Ext w w'
set_option maxRecDepth 100000 in
set_option maxHeartbeats 8000000 in
theorem cencode_c (v : Value) (l : List Cl) (w : World) (hr : ClsR (ph w) v l) (hs : ∀ c ∈ l, c.body.bulk ≤ 900000) : Calls Tryz.prog 7 #[v] w (EncCQ w l) := by
  have hval := Lib.hid (fun W (e : Ext w W) => cvalid_c v l W (hr.mono mono_ClR e.ple) hs)
  obtain ⟨a, c, rfl, hll, hr⟩ := hr.form
  go_enter Tryz.func7, Tryz.ntmps7
  go_wp2_with fail
  refine RetV_at (hval.out _ (Ext.rfl' w)) ?_
  intro w1 hx
  clear hval
  by_cases hv : validC l = 0
  · have b0 : (validC l != 0) = false := by simp [hv]
    have hE : Hid (encC l = bytesC l) := Lib.hid (by unfold encC; rw [if_pos hv])
    have hvs := Lib.hid (validC_0 hv).2
    have hl32 := validC_len hv
    rw [hv] at b0 ⊢
    have hW0 := Wr.fresh w1
    have e1 := Ext.new w1 (.cells #[.slice none 0 0] 64)
    have hgw := hx.size
    go_upto_region 5 with (fail)
    replace hx := hx.then e1
    clear e1
    generalize w1.alloc _ = w2 at *
    generalize w1.heap.size = g at *
    have i64 : I64 (l.length : Int) := by unfold I64; omega
    have hll2 := encI_len i64
    go_wp2_with fail
    refine (int_c g g none [] _ _ i64 hW0 (by simp)).mono ?_
    rintro e w3 ⟨rfl, hT⟩
    rw [List.nil_append] at hT
    have hx3 : Ext w w3 := by
      obtain ⟨row, -, hxW, -⟩ := hT
      exact hxW.toExt hx hgw (fun i hi => by cases hi)
    obtain ⟨row, hW, -, -⟩ := hT
    clear hx hW0 hll2
    go_wp2_with fail
    go_loopw [23] (fun vi wr => ∃ (k : Nat) (row : Option Nat), k ≤ l.length ∧ vi = .int .i64 k ∧ Wr g wr g row (encI (l.length : Int) ++ (l.take k).flatMap claimE) ∧ Ext w wr ∧ (encI (l.length : Int) ++ (l.take k).flatMap claimE).length ≤ 10 + 400000 * k) (fun vi _ => l.length - (intOf vi).toNat)
    case atStart => exact ⟨0, row, by omega, rfl, by simpa using hW, hx3, by have := encI_len i64; simpa using this⟩
    case round =>
      clear hW hx3
      obtain ⟨k, row, hk, rfl, hW, hx, hal⟩ := hrel
      by_cases hlt : k < l.length
      · have hja : decide ((k : Int) < (l.length : Int)) = true := by simp; omega
        have hkk : Hid (encI (l.length : Int) ++ (l.take (k + 1)).flatMap claimE = encI (l.length : Int) ++ (l.take k).flatMap claimE ++ claimE l[k]) := by
          show _ = _
          rw [List.take_succ_eq_append_getElem hlt, List.flatMap_append]; simp
        obtain ⟨b, o, a1, c1, a3, c3, a4, c4, rfl, z0, z1, z2, z3, z4, zl, y1, hI, hF⟩ := ClsR.atH hr hx.ple k hlt
        obtain ⟨q1, q2, q3⟩ := hvs.out k hlt
        have hbk := hs _ (List.getElem_mem hlt)
        generalize l[k] = x at *
        have hi := FmR.i _ _ hF
        have hbl := bytesF_len q3 hi
        generalize encI (l.length : Int) ++ (l.take k).flatMap claimE = acc at *
        have e8 := Ext.new wr (.cells #[.slice a1 x.refs.length c1, .int .i64 x.body.op, .int .i64 x.body.n, .slice a3 x.body.inn.length c3, .slice a4 x.body.kids.length c4] 58)
        have o8 := Proofs.YtnpnjcaomakehaaGreat.Own.new wr #[.slice a1 x.refs.length c1, .int .i64 x.body.op, .int .i64 x.body.n, .slice a3 x.body.inn.length c3, .slice a4 x.body.kids.length c4] 58
        go_upto_region 9 with (fail)
        replace hW := hW.keep e8
        have hx8 := hx.then e8
        have hF8 := mono_FmR _ _ _ _ hx8.ple hF
        have hen := fenc_c x.body _ (wr.alloc (.cells #[.slice a1 x.refs.length c1, .int .i64 x.body.op, .int .i64 x.body.n, .slice a3 x.body.inn.length c3, .slice a4 x.body.kids.length c4] 58)) hF8 hbk
        have hEb : encB x.body = bytesF x.body := by unfold encB; rw [if_pos q3]
        unfold fmC at hen
        clear z0 z1 z2 z3 z4 zl hx e8
        generalize wr.alloc _ = w8 at *
        generalize wr.heap.size = g7 at *
        obtain ⟨c8, -⟩ := o8.facts
        have y0 : _ = some (Value.slice a1 x.refs.length c1) := c8 0
        have y1' : _ = some (Value.int .i64 x.body.op) := c8 1
        have y2 : _ = some (Value.int .i64 x.body.n) := c8 2
        have y3 : _ = some (Value.slice a3 x.body.inn.length c3) := c8 3
        have y4 : _ = some (Value.slice a4 x.body.kids.length c4) := c8 4
        have yl := o8.lt
        clear c8
        go_wp2_with fail
        refine hen.mono ?_
        rintro e w9 ⟨vb, rfl, hvb, hx9⟩
        rw [hEb] at hvb
        rw [q3]
        obtain ⟨pa, pc, rfl, -⟩ := hvb.form
        have hrw := hW.row
        have hgl := hW.lt.2
        replace hW := hW.keep hx9
        replace hx8 := hx8.then hx9
        replace o8 := o8.keep hx9
        clear hen y0 y1' y2 y3 y4 yl hx9 hF8 hEb
        obtain ⟨c8, -⟩ := o8.facts
        have y0 : _ = some (Value.slice a1 x.refs.length c1) := c8 0
        have yl := o8.lt
        clear c8
        have hIw := hI
        have hrl := encInts_le (IntsR.all hI) (by omega)
        go_wp2_with fail
        refine (ints_c (ph w) g g row acc x.refs _ w9 hx8.ple (fun k hk => ph_none (by omega)) hI hW (by omega)).mono ?_
        rintro e w10 ⟨rfl, hT⟩
        obtain ⟨row1, hW1, hX1, hr1⟩ := hT
        have hv1 := hvb.keepWr hX1 hgl (fun k hk => (hrw k hk).2)
        have hvr := hv1.rep mono_ByteR (noH_le _)
        have hx10 := hX1.toExt hx8 hgw (fun i hi => by have := (hrw i hi).1; omega)
        clear hvb hX1 hr1 hW hx8 hrw hgl y0 yl o8 hv1
        go_wp2_with fail
        refine (wraw_c g g row1 _ (bytesF x.body) _ w10 hW1 hvr (by simp only [List.length_append]; omega)).mono ?_
        rintro e w11 ⟨rfl, hT⟩
        have hrw := hW1.row
        obtain ⟨row2, hW2, hX2, hr2⟩ := hT
        have hx11 := hX2.toExt hx10 hgw (fun i hi => by have := (hrw i hi).1; omega)
        have ecl : acc ++ encInts x.refs ++ uvar (bytesF x.body).length ++ bytesF x.body = acc ++ claimE x := by
          unfold claimE rawE; simp only [List.append_assoc]
        rw [ecl] at hW2
        have hclen : (acc ++ claimE x).length ≤ 10 + 400000 * (k + 1) := by
          have hu := uvar_len10 (n := (bytesF x.body).length) (by omega)
          unfold claimE rawE
          simp only [List.length_append]; omega
        clear hW1 hX2 hr2 hx10 hvr hrw ecl
        go_wp2_with fail
        go_roundw
        case rel => exact ⟨k + 1, row2, by omega, by go_num, by rw [hkk.out]; exact hW2, hx11, by rw [hkk.out]; exact hclen⟩
        case measure => simp [intOf]; omega
      · have hja : decide ((k : Int) < (l.length : Int)) = false := by simp; omega
        obtain rfl : k = l.length := by omega
        rw [List.take_length] at hW hal
        have hbc : encI (l.length : Int) ++ l.flatMap claimE = bytesC l := rfl
        rw [hbc] at hW hal
        go_wp2_with fail
        refine (done_c g g row _ wr hW (by omega)).mono ?_
        rintro e w9 ⟨v, rfl, hO, hx9⟩
        have hsz := hx.size
        go_wp2_with fail
        exact bodyPost_ret (v := .tuple #[v, .int .i64 0]) (by simp [results, Tryz.results7, go_sem]) rfl ⟨v, by rw [hv], by rw [hE.out]; exact hO.base hsz, hx.then hx9⟩
  · have b0 : (validC l != 0) = true := by simpa using hv
    have hE : Hid (encC l = []) := Lib.hid (by unfold encC; rw [if_neg hv])
    go_wp2_with fail
    exact bodyPost_ret (v := .tuple #[.slice none 0 0, .int .i64 (validC l)]) (by simp [results, Tryz.results7, go_sem]) rfl ⟨.slice none 0 0, rfl, by rw [hE.out]; exact .inl ⟨rfl, rfl⟩, hx⟩
set_option maxRecDepth 100000 in
theorem raw02_c (vs : Value) (xs : List UInt8) (w : World) (hs : BytesR (ph w) vs xs) (hlen : xs.length ≤ 100000000) : Calls Tryz.prog 41 #[vs] w (FreshB w (rawE xs)) := by
  obtain ⟨a, c, rfl, -, hs⟩ := hs.form
  have hu := refUint_c xs.length w (by omega)
  have hul := uvar_len10 (n := xs.length) (by omega)
  have hE : Hid (rawE xs = uvar xs.length ++ xs) := rfl
  go_enter Tryz.func41, Tryz.ntmps41
  go_wp2_with fail
  refine hu.mono ?_
  rintro e w1 ⟨v, rfl, hO, hx⟩
  have hM := ((MB.start w).take hx hO).2
  have hsb := (Src.ofRep (hs.mono mono_ByteR hx.ple) (PLe.refl _)).noB
  obtain ⟨pa, pc, rfl, -⟩ := hM.form
  generalize hul2 : (uvar xs.length).length = N at *
  replace hul2 := Lib.hid hul2
  clear hO hs hu
  go_wp2_with (at_builtin; refine wpList_append_B rfl _ _ 23 rfl Tryz.underlying23 infoByte rfl rfl rfl rfl (hM.keep xE) (hsb.keep xE) ?c4 ?c5)
  case c4 => (rw [hul2.out]; omega)
  case c5 =>
  intro v' w2 hM2
  go_wp2_with fail
  go_ret
  exact ⟨_, rfl, by rw [hE.out]; exact hM2.own, hM2.ex⟩
set_option maxRecDepth 100000 in
set_option maxHeartbeats 8000000 in
theorem rcbytes_c (v : Value) (l : List Cl) (w : World) (hr : ClsR (ph w) v l) (hl : l.length ≤ 100) (hs : ∀ c ∈ l, c.body.bulk ≤ 40000 ∧ c.refs.length ≤ 1000) : Calls Tryz.prog 10 #[v] w (FreshB w (bytesC l)) := by
  obtain ⟨a, c, rfl, -, hr⟩ := hr.form
  have i64 : I64 (l.length : Int) := by unfold I64; omega
  have n64 := encI_len i64
  have hI := refInt_c (l.length : Int) w i64
  have hE : Hid (bytesC l = encI (l.length : Int) ++ l.flatMap claimE) := rfl
  have hcl : ∀ c, ClI c → c.body.bulk ≤ 40000 → c.refs.length ≤ 1000 → (encInts c.refs).length ≤ 10010 ∧ (bytesF c.body).length ≤ 4000000 ∧ (claimE c).length ≤ 5000000 := by
    intro c h1 h2 h3
    have k1 := encInts_le h1.1 (by omega)
    have k2 := bytes_len c.body h1.2
    have k3 := uvar_len10 (n := (bytesF c.body).length) (by omega)
    refine ⟨by omega, by omega, ?_⟩
    unfold claimE rawE
    simp only [List.length_append]; omega
  replace hcl := Lib.hid hcl
  go_enter Tryz.func10, Tryz.ntmps10
  go_wp2_with fail
  refine hI.mono ?_
  rintro e w1 ⟨v, rfl, hO, hx⟩
  have hM := ((MB.start w).take hx hO).2
  clear hI hO hx
  generalize encI (l.length : Int) = pre at *
  go_wp2_with fail
  go_loopw [3, 4] (fun v i wx => ∃ k : Nat, k ≤ l.length ∧ i = .int .i64 k ∧ MB w [] noH v (pre ++ (l.take k).flatMap claimE) wx ∧ (pre ++ (l.take k).flatMap claimE).length ≤ 10 + 5000000 * k) (fun _ i _ => l.length - (intOf i).toNat)
  case atStart => exact ⟨0, by omega, rfl, by simpa using hM, by simpa using n64⟩
  case round =>
    clear hM
    obtain ⟨k, hk, rfl, hM, hal⟩ := hrel
    by_cases hlt : k < l.length
    · have hja : decide (k < l.length) = true := decide_eq_true hlt
      have hkk : Hid (pre ++ (l.take (k + 1)).flatMap claimE = pre ++ (l.take k).flatMap claimE ++ claimE l[k]) := by
        show _ = _
        rw [List.take_succ_eq_append_getElem hlt, List.flatMap_append]; simp
      have hat := Lib.hid (fun W (e : Ext w W) => ClsR.atH hr e.ple k hlt)
      obtain ⟨b, o, a1, c1, a3, c3, a4, c4, rfl, z0, z1, z2, z3, z4, zl, y1, hIR, hF⟩ := ClsR.atH hr hM.ex.ple k hlt
      obtain ⟨q1, q2⟩ := hs _ (List.getElem_mem hlt)
      generalize l[k] = x at *
      have hci : ClI x := ⟨IntsR.all hIR, FmR.i _ _ hF⟩
      obtain ⟨l1, l2, l3⟩ := hcl.out x hci q1 q2
      obtain ⟨pa, pc, rfl, -⟩ := hM.form
      generalize hacc : pre ++ (l.take k).flatMap claimE = acc at *
      replace hacc := Lib.hid hacc
      have hrI := refInts_c _ x.refs wr (hIR.mono mono_IntR hM.ex.ple) (by omega)
      generalize hen : encInts x.refs = ei at *
      replace hen := Lib.hid hen
      generalize hal2 : acc.length = al at *
      replace hal2 := Lib.hid hal2
      go_wp2_with fail
      refine hrI.mono ?_
      rintro e w9 ⟨vx, rfl, ho, hb2⟩
      obtain ⟨hMa, hMb⟩ := hM.take hb2 ho
      obtain ⟨a2, c2, rfl, -⟩ := hMb.form
      have hSb := hMb.src
      clear hM hb2 ho hMb hrI z0 z1 z2 z3 z4 zl
      generalize hxl : ei.length = xl at *
      replace hxl := Lib.hid hxl
      go_wp2_with (at_builtin; refine wpList_append_B rfl _ _ 23 rfl Tryz.underlying23 infoByte rfl rfl rfl rfl (hMa.keep xE) (hSb.keep xE) ?e4 ?e5)
      case e4 => (rw [hal2.out, hxl.out]; omega)
      case e5 =>
      intro v' w10 hM6
      clear hMa hSb
      obtain ⟨b', o', a1', c1', a3', c3', a4', c4', eb, z0, z1, z2, z3, z4, zl, -, -, hF'⟩ := hat.out w10 hM6.ex
      cases eb
      have hl6 : (acc ++ ei).length ≤ 10 + 5000000 * k + 10010 := by rw [List.length_append, hal2.out, hxl.out]; omega
      obtain ⟨acc2, hac2⟩ : ∃ y, Hid (acc ++ ei = y) := ⟨_, rfl⟩
      rw [hac2.out] at hM6 hl6
      obtain ⟨pb, pd, rfl, -⟩ := hM6.form
      have hby := rbytes7_c x.body _ w10 (mono_FmR _ _ _ _ hM6.ex.ple hF') (by omega)
      unfold fmC at hby
      generalize hal3 : acc2.length = al3 at *
      replace hal3 := Lib.hid hal3
      generalize hbb : bytesF x.body = bb at *
      replace hbb := Lib.hid hbb
      go_wp2_with fail
      refine hby.mono ?_
      rintro e w11 ⟨vy, rfl, ho, hb2⟩
      have hbr := ho.rep mono_ByteR (noH_le _)
      have hrw := raw02_c vy bb w11 hbr (by omega)
      obtain ⟨a5, c5, rfl, -⟩ := ho.form
      clear hby ho hbr z0 z1 z2 z3 z4 zl
      generalize hre : rawE bb = re at *
      replace hre := Lib.hid hre
      generalize hbbl : bb.length = bbl at *
      replace hbbl := Lib.hid hbbl
      go_wp2_with fail
      refine hrw.mono ?_
      rintro e w12 ⟨vz, rfl, ho, hb3⟩
      obtain ⟨hMa, hMb⟩ := hM6.take (hb2.then hb3) (ho.base hb2.size)
      obtain ⟨a6, c6, rfl, -⟩ := hMb.form
      have hSb := hMb.src
      have hrl : re.length ≤ 4000010 := by
        have k3 := uvar_len10 (n := bb.length) (by have := hbbl.out; omega)
        rw [← hre.out]; unfold rawE; rw [List.length_append]; have := hbbl.out; omega
      clear hM6 hb2 hb3 ho hMb hrw
      generalize hyl : re.length = yl at *
      replace hyl := Lib.hid hyl
      go_wp2_with (at_builtin; refine wpList_append_B rfl _ _ 23 rfl Tryz.underlying23 infoByte rfl rfl rfl rfl (hMa.keep xE) (hSb.keep xE) ?g4 ?g5)
      case g4 => (rw [hal3.out, hyl.out]; omega)
      case g5 =>
      intro v' w13 hM9
      clear hMa hSb
      have hend : acc2 ++ re = acc ++ claimE x := by
        rw [← hac2.out, ← hre.out, ← hbb.out, ← hen.out]; unfold claimE; rw [List.append_assoc]
      have hM10 : MB w [] noH v' (pre ++ (l.take (k + 1)).flatMap claimE) w13 := by
        rw [hkk.out, ← hend]; exact hM9
      have hl10 : (pre ++ (l.take (k + 1)).flatMap claimE).length ≤ 10 + 5000000 * (k + 1) := by
        rw [hkk.out, List.length_append, hal2.out]; omega
      go_wp2_with fail
      go_roundw
      case rel => exact ⟨k + 1, by omega, by go_num, hM10, hl10⟩
      case measure => simp [intOf]; omega
    · obtain rfl : k = l.length := by omega
      have hja : decide (l.length < l.length) = false := by simp
      rw [List.take_length] at hM
      go_wp2_with fail
      go_ret
      exact ⟨_, rfl, by rw [hE.out]; exact hM.own, hM.ex⟩
end Go.Proofs.YtnpnjcaomakehaaGreat
namespace Go.Proofs.YtnpnjcaomakehaaGreat
open Go.RowKit
theorem parts_c {H : PH} (f : Fm) (cs : List Value) (w : World) (hl : PLe H (ph w)) (hr : FmR H cs f) : Calls Tryz.prog 113 #[.agg cs.toArray] w fun e w' => ∃ v, e = .returned v ∧ Ext w w' ∧ FmsR (up H w w') v (partsF f) := by
  have hr' := hr
  obtain ⟨a3, c3, a4, c4, rfl, -, -, -, -, -, hk⟩ := hr.form
  unfold fmC at *
  by_cases h : f.op = 4
  · have b1 : (f.op == 4) = true := by simpa using h
    have hp : partsF f = f.kids := by unfold partsF; rw [if_pos h]
    clear h
    go_enter Tryz.func113, Tryz.ntmps113
    go_wp2_with fail
    go_ret
    exact ⟨_, rfl, xE, by rw [hp]; exact hk.mono mono_FmR (ple_up hl)⟩
  · have b1 : (f.op == 4) = false := by simpa using h
    have hp : partsF f = [f] := by unfold partsF; rw [if_neg h]
    clear h
    go_enter Tryz.func113, Tryz.ntmps113
    go_wp2_with fail
    go_ret
    refine ⟨_, rfl, xE, ?_⟩
    rw [hp]
    have hM := (((Mem.start w H hl).ext (Ext.new w (.cells #[.int .i64 f.op, .int .i64 f.n, .slice a3 f.inn.length c3, .slice a4 f.kids.length c4] 50))).new' #[.int .i64 f.op, .int .i64 f.n, .slice a3 f.inn.length c3, .slice a4 f.kids.length c4] 50 (n := w.heap.size + 1) (by simp)).asOwn 0 rfl mono_FmR (sz := 4) (xs := [f]) (n := 1) (by simp) (by simp [maxLen]) rfl ⟨_, [], rfl, rfl, hr', rfl⟩
    exact hM.repUp 0 rfl
theorem run_append_make (ty : TypeId) (n : Nat) (w : World) (h0 : 0 < n) (hn : n ≤ 1000000) :
    (Builtin.append_ #[45, 3] ty #[.slice none 0 0, .int .i64 (n : Int)]).run Tryz.prog w =
      .ok (.slice (some ⟨w.heap.size, 0, none⟩) n (grownCap w n 0 50)) (w.drew.alloc (.cells (Builtin.zeroCells zeroFv.cells n ++ Builtin.zeroCells zeroFv.cells (grownCap w n 0 50 - n)) 50)) := by
  obtain ⟨i, hi, hz, hs, hb⟩ := info_parts infoFm
  have h1 : n ≠ 0 := by omega
  have h2 : IntKind.i64.wrap (n : Int) = n := by rw [IntKind.wrap_i64]; omega
  have h3 : ¬ ((n : Int) < 0) := by omega
  have h4 : ¬ (281474976710656 < (n : Int) * 64) := by omega
  have h5 : ¬ (281474976710656 < Builtin.nextslicecap n 0 * 64) := by rw [nextslicecap_zero h0]; omega
  have h6 : ¬ (9223372036854775807 < (n : Int)) := by omega
  have h7 : ¬ (n * 4 = 0) := by omega
  simp [Builtin.append_, run_underlying Tryz.underlying45, run_underlying Tryz.underlying3, sizeOf, typeInfo, zeroValue, hi, hz, hs, hb, h1, h2, h3, h4, h5, h6, h7, Question.forced, newRow, grownCap, asInt, asIntOf, Builtin.firstCells]
theorem wpList_append_make {w : World} {ops : Array Oper} {rest : List Oper} {o : Oper} {a : Act} {Q : Exit → Act → World → Prop} (hgd : o.guard = none) (s x : Operand)
    (ho : o.op = .call { callee := .builtin .append, args := #[s, x], argTypes := #[45, 3] }) {n : Nat} (hs : a.eval s = .slice none 0 0) (hx : a.eval x = .int .i64 n) (h0 : 0 < n) (hn : n ≤ 1000000)
    (h : ∀ (cap : Nat) (cur : Array Value), n ≤ cap → cap ≤ maxLen → cur.size = cap * 4 → wpList Tryz.prog ops Q rest (a.put o.dst (.slice (some ⟨w.heap.size, 0, none⟩) n cap)) (w.drew.alloc (.cells cur 50))) :
    wpList Tryz.prog ops Q (o :: rest) a w := by
  have hr := run_append_make o.type n w h0 hn
  refine wpList_plain hgd fun _ hK => ?_
  unfold Oper.wp execOp
  simp only [ho, resolve, invoke, builtin, Sem.run_bind, Sem.run_pure, Result.andThen_ok, List.map_toArray, List.map_cons, List.map_nil, hs, hx, hr]
  have h1 := grownCap_ge w n 0 50
  refine hK _ _ (h _ _ h1 (grownCap_le_maxLen w n 0 _ (by unfold maxLen; omega)) ?_)
  have e : zeroFv.cells.size = 4 := rfl
  rw [Array.size_append, size_zeroCells, size_zeroCells, e, ← Nat.add_mul, Nat.add_sub_cancel' h1]
set_option maxRecDepth 100000 in
theorem grow_c (n : Nat) (w : World) (hn : n ≤ 1000000) : Calls Tryz.prog 143 #[.slice none 0 0, .int .i64 n] w fun e w' => ∃ v, e = .returned v ∧ Ext w w' ∧ OwnS w.heap.size noH w' FmR 4 50 v [] := by
  by_cases h0 : 0 < n
  · have b1 : decide ((n : Int) < 0) = false := by simp
    have b2 : decide (0 < n) = true := by simpa using h0
    go_enter Tryz.func143, Tryz.ntmps143
    go_wp2_with (at_builtin; refine wpList_append_make rfl _ _ rfl rfl rfl h0 hn ?_; intro cap cur h1 h2 h3)
    go_ret
    exact ⟨_, rfl, xE, .inr ⟨w.heap.size, cap, cur, rfl, Nat.le_refl _, rfl, Own.new w.drew _ _, Nat.zero_le _, h2, h3, rfl⟩⟩
  · obtain rfl : n = 0 := by omega
    go_enter Tryz.func143, Tryz.ntmps143
    go_wp2_with fail
    go_ret
    exact ⟨_, rfl, xE, OwnS.nil _ _ _ _ _ _⟩
def LlR (h : PH) (cs : List Value) (xs : List Fm) : Prop := ∃ v, cs = [v] ∧ FmsR h v xs
theorem mono_LlR : Mono LlR := by
  rintro h h' cs x hl ⟨v, rfl, h1⟩
  exact ⟨v, rfl, h1.mono mono_FmR hl⟩
theorem LlR.at {H : PH} {w : World} {a : Option Addr} {n cap : Nat} {xss : List (List Fm)} (hr : SliceRep LlR 1 H (.slice a n cap) xss) (hl : PLe H (ph w)) (k : Nat) (hk : k < xss.length) :
    ∃ b o a4 c4, a = some ⟨b, o, none⟩ ∧ w.cell? ⟨b, o + k, none⟩ = some (.slice a4 xss[k].length c4) ∧ FmsR H (.slice a4 xss[k].length c4) xss[k] ∧ b < w.heap.size := by
  obtain ⟨b, o, cs, h1, h2, h3, v, rfl, h4⟩ := hr.get k hk
  obtain ⟨a4, c4, rfl, -, h4⟩ := h4.form
  have := cellAt_mono hl (h3 0 (by omega))
  rw [← cell_ph] at this
  exact ⟨b, o, a4, c4, h1, by simpa using this, h4, cell_lt (by simpa using this)⟩
def sumL (xss : List (List Fm)) : Nat := sumN List.length xss
theorem sumL_flat : ∀ xss : List (List Fm), sumL xss = xss.flatten.length
  | [] => rfl
  | x :: xs => by unfold sumL; rw [sumN, List.flatten_cons, List.length_append]; have := sumL_flat xs; unfold sumL at this; omega
set_option maxRecDepth 100000 in
set_option maxHeartbeats 1000000 in
theorem concat_c {H : PH} (v : Value) (xss : List (List Fm)) (w : World) (hl : PLe H (ph w)) (hr : SliceRep LlR 1 H v xss) (hs : xss.flatten.length ≤ 1000) : Calls Tryz.prog 112 #[v] w fun e w' => ∃ v, e = .returned v ∧ Ext w w' ∧ FmsR (up H w w') v xss.flatten := by
  obtain ⟨a, c, rfl, hlen, hr⟩ := hr.form
  have hss : sumL xss ≤ 1000 := by rw [sumL_flat]; exact hs
  replace hs := Lib.hid hs
  go_enter Tryz.func112, Tryz.ntmps112
  go_wp2_with fail
  go_loopw [3, 11] (fun s i wr => ∃ k : Nat, k ≤ xss.length ∧ i = .int .i64 k ∧ s = .int .i64 (sumL (xss.take k)) ∧ Ext w wr) (fun _ i _ => xss.length - (intOf i).toNat)
  case atStart => exact ⟨0, Nat.zero_le _, rfl, rfl, xE⟩
  case round =>
    obtain ⟨k, hk, rfl, rfl, hx⟩ := hrel
    by_cases hlt : k < xss.length
    · obtain ⟨b, o, a4, c4, rfl, h0, -, hbl⟩ := LlR.at hr (hl.trans hx.ple) k hlt
      have hst := sumN_take List.length xss k hlt
      have hst2 := sumN_take_le List.length xss (k + 1)
      change sumL (xss.take (k + 1)) = sumL (xss.take k) + xss[k].length at hst
      change sumL (xss.take (k + 1)) ≤ sumL xss at hst2
      have h1 : (sumL (xss.take k) : Int) + xss[k].length ≤ 1000 := by omega
      replace hst := Lib.hid hst
      generalize sumL (xss.take k) = s at *
      generalize xss[k].length = n at *
      have b1 : decide ((s : Int) + (n : Int) < 0) = false := by simp; omega
      clear hr
      go_wp2_with fail
      go_roundw
      case rel => exact ⟨k + 1, by omega, by go_num, by rw [hst.out]; go_num, xE⟩
      case measure => simp [intOf]; omega
    · obtain rfl : k = xss.length := by omega
      rw [List.take_length]
      go_wp2_with fail
      refine (grow_c (sumL xss) _ (by omega)).mono ?_
      rintro e w1 ⟨g, rfl, hx1, ho⟩
      have hM0 := (((Mem.start w H hl).ext hx).take hx1 ho mono_FmR (noH_le _))
      obtain ⟨H2, hl2, -, hM⟩ := hM0
      simp only [List.nil_append] at hM
      clear ho hx1
      go_wp2_with fail
      go_loopw [6, 27] (fun g i wr => ∃ k : Nat, k ≤ xss.length ∧ i = .int .i64 k ∧ Mem w H [own mono_FmR 4 50 g (xss.take k).flatten] H2 wr) (fun _ i _ => xss.length - (intOf i).toNat)
      case atStart => exact ⟨0, Nat.zero_le _, rfl, hM⟩
      case round =>
        obtain ⟨k, hk, rfl, hM⟩ := hrel
        by_cases hlt : k < xss.length
        · obtain ⟨b, o, a4, c4, rfl, h0, hR, hbl⟩ := LlR.at hr (hM.le.trans hM.ple) k hlt
          obtain ⟨ga, gc, rfl, -⟩ := hM.form 0 rfl
          have hfl : (xss.take (k + 1)).flatten = (xss.take k).flatten ++ xss[k] := by rw [List.take_succ_eq_append_getElem hlt, List.flatten_append]; simp
          have hle : (xss.take (k + 1)).flatten.length ≤ 1000 := by
            rw [← sumL_flat]
            have := sumN_take_le List.length xss (k + 1)
            unfold sumL at *; omega
          rw [hfl, List.length_append] at hle
          have hS : Src wr H2 FmR 4 (.slice a4 xss[k].length c4) xss[k] := Src.ofRep (hR.mono mono_FmR hM.le) hM.ple
          replace hfl := Lib.hid hfl
          generalize (xss.take k).flatten = pre at *
          generalize xss[k] = xs at *
          go_wp2_with (at_builtin; refine wpList_append_M 0 rfl _ _ 45 rfl Tryz.underlying45 infoFm rfl rfl rfl (hM) rfl (hS) one_FmR ?c3 ?c4 ?c5)
          case c3 => omega
          case c4 => omega
          case c5 =>
            intro v' w3 hM4
            try simp only [List.set_cons_succ, List.set_cons_zero] at hM4
            rw [← hfl.out] at hM4
            go_wp2_with fail
            go_roundw
            case rel => exact ⟨k + 1, by omega, by go_num, hM4⟩
            case measure => simp [intOf]; omega
        · rw [List.take_of_length_le (by omega)] at hM
          go_wp2_with fail
          go_ret
          exact ⟨_, rfl, hM.ex, hM.repUp 0 rfl⟩
end Go.Proofs.YtnpnjcaomakehaaGreat
namespace Go.Proofs.YtnpnjcaomakehaaGreat
open Go.RowKit
end Go.Proofs.YtnpnjcaomakehaaGreat
namespace Go.Proofs.YtnpnjcaomakehaaGreat
open Go.RowKit Go.Shelf
attribute [local go_sem] Oper.semAt_some run_store_fn
theorem tops_p (f : Fm) (cs : List Value) (w : World) (hr : FmR (ph w) cs f) : Calls Tryz.prog 111 #[.agg cs.toArray] w fun e w' => e = .returned (.func (.func 140) #[] #[.pointer (some ⟨w.heap.size, 0, none⟩)]) ∧ w' = w.alloc (.cells cs.toArray 50) := by
  obtain ⟨a3, c3, a4, c4, rfl, -⟩ := hr.form
  unfold fmC
  go_enter Tryz.func111, Tryz.ntmps111
  go_wp2_with fail
  go_ret
  exact ⟨rfl, rfl⟩
section
variable {H : PH} {n l N n₀ Bo B1 B2 : Nat} {J Jx : List (FmA H) → World → Prop} {tot : List Fm}
def DownT (Bo l B1 B2 : Nat) (W : World) : Prop := Held Bo W B1 #[.func (.yield l) #[] #[]] 99 ∧
  Held Bo W B2 #[.func (.func 141) #[] #[.pointer (some ⟨B1, 0, none⟩), .pointer (some ⟨B2, 0, none⟩)]] 99
theorem DownT.kx {W W' : World} (h : DownT Bo l B1 B2 W) (k : Kx n₀ Bo W W') : DownT Bo l B1 B2 W' := ⟨h.1.kx k, h.2.kx k⟩
structure StepT (H : PH) (n₀ Bo l B1 B2 : Nat) (W : World) : Prop where
  sz : n₀ ≤ W.heap.size
  good : Good Bo W
  le : PLe H (ph W)
  m : DownT Bo l B1 B2 W
theorem StepT.kx {W W' : World} (hlow : ∀ k o, H k = some o → k < n₀) (h : StepT H n₀ Bo l B1 B2 W) (k : Kx n₀ Bo W W') : StepT H n₀ Bo l B1 B2 W' := by
  refine ⟨Nat.le_trans h.sz k.2.1, h.good.kx k, fun i o hi => ?_, h.m.kx k⟩
  show W'.heap[i]? = some o
  rw [k.1.block i (hlow i o hi)]
  exact h.le i o hi
theorem StepT.ext {W W' : World} (hlow : ∀ k o, H k = some o → k < n₀) (h : StepT H n₀ Bo l B1 B2 W) (e : Ext W W') : StepT H n₀ Bo l B1 B2 W' := h.kx hlow (Kx.ext e h.good.1 h.sz)
theorem top1_c (cs : List Value) (x : Fm) (W : World) (pre : List (FmA H)) (hx : FmR H cs x) (hM : StepT H n₀ Bo l B1 B2 W) (hlow : ∀ k o, H k = some o → k < n₀) (hJ : J pre W) (hJa : ∀ pre W o, J pre W → J pre (W.alloc o))
    (ih : ∀ W, StepT H n₀ Bo l B1 B2 W → J pre W → Calls Tryz.prog 141 #[.agg cs.toArray, .pointer (some ⟨B1, 0, none⟩), .pointer (some ⟨B2, 0, none⟩)] W (ItP tot pre (topsF x) J Jx n₀ Bo W)) :
    Calls Tryz.prog 142 #[.agg cs.toArray, .pointer (some ⟨B2, 0, none⟩)] W fun e W' => (e = .returned (.bool false) ∧ ∃ ys, fmsOf ys = (topsF x) ∧ J (pre ++ ys) W' ∧ Kx n₀ Bo W W') ∨ (e = .returned (.bool true) ∧ ∃ p, fmsOf p <+: tot ∧ Jx p W') := by
  obtain ⟨a3, c3, a4, c4, rfl, -⟩ := hx.form
  unfold fmC at *
  have hM1 := hM.ext hlow (Ext.new W (.cells #[.int .i64 x.op, .int .i64 x.n, .slice a3 x.inn.length c3, .slice a4 x.kids.length c4] 50))
  have hJ1 := hJa _ _ (.cells #[.int .i64 x.op, .int .i64 x.n, .slice a3 x.inn.length c3, .slice a4 x.kids.length c4] 50) hJ
  have hk1 : Kx n₀ Bo W (W.alloc (.cells #[.int .i64 x.op, .int .i64 x.n, .slice a3 x.inn.length c3, .slice a4 x.kids.length c4] 50)) := Kx.ext (Ext.new _ _) hM.good.1 hM.sz
  obtain ⟨f1, -⟩ := hM1.m.2.1.facts
  have f2 := f1 0
  simp only [List.getElem?_toArray, List.getElem?_cons_zero] at f2
  have HI := Lib.hid ih; clear ih f1
  go_enter Tryz.func142, Tryz.ntmps142
  go_wp2_with fail
  refine (HI.out _ hM1 hJ1).mono ?_
  rintro e w1 (⟨rfl, ys, h1, h2, h3⟩ | ⟨rfl, p, h1, h2⟩)
  · go_wp2_with fail
    go_ret
    exact .inl ⟨rfl, ys, h1, h2, hk1.then h3⟩
  · go_wp2_with fail
    go_ret
    exact .inr ⟨rfl, p, h1, h2⟩
theorem top_c (hn : 2 ≤ n) (hlow : ∀ k o, H k = some o → k < n₀) (hJa : ∀ pre W o, J pre W → J pre (W.alloc o)) (hY : YieldOk n l N n₀ Bo J Jx) (htot : tot.length ≤ N) (f : Fm) : ∀ (cs : List Value) (pre : List (FmA H)) (W : World),
    FmR H cs f → StepT H n₀ Bo l B1 B2 W → J pre W → fmsOf pre ++ topsF f <+: tot →
    Calls Tryz.prog 141 #[.agg cs.toArray, .pointer (some ⟨B1, 0, none⟩), .pointer (some ⟨B2, 0, none⟩)] W (ItP tot pre (topsF f) J Jx n₀ Bo W) := by
  induction f using Fm.ind with
  | h f ih =>
    intro cs pre W hr hM hJ ht
    have hr' := hr
    obtain ⟨a3, c3, a4, c4, rfl, -, -, -, hkl, -, hk⟩ := hr.form
    unfold fmC at *
    have hM1 := hM.ext hlow (Ext.new W (.cells #[.int .i64 f.op, .int .i64 f.n, .slice a3 f.inn.length c3, .slice a4 f.kids.length c4] 50))
    have hJ1 := hJa _ _ (.cells #[.int .i64 f.op, .int .i64 f.n, .slice a3 f.inn.length c3, .slice a4 f.kids.length c4] 50) hJ
    have hk1 : Kx n₀ Bo W (W.alloc (.cells #[.int .i64 f.op, .int .i64 f.n, .slice a3 f.inn.length c3, .slice a4 f.kids.length c4] 50)) := Kx.ext (Ext.new _ _) hM.good.1 hM.sz
    obtain ⟨f1, -⟩ := hM1.m.1.1.facts
    have f2 := f1 0
    simp only [List.getElem?_toArray, List.getElem?_cons_zero] at f2
    have HI := Lib.hid ih; clear ih f1
    have hn1 : 1 ≤ n := by omega
    have hT := Lib.hid (topsF_eq f)
    by_cases h5 : f.op = 5
    · have b1 : (f.op != 5) = false := by simpa using h5
      have hT2 : topsF f = f.kids.flatMap topsF := by rw [hT.out, if_pos h5]
      clear h5
      go_enter Tryz.func141, Tryz.ntmps141
      go_wp2_with fail
      refine (containsFunc_J 142 #[.pointer (some ⟨B2, 0, none⟩)] _ f.kids hk
        (fun k wr => ∃ ys, fmsOf ys = (f.kids.take k).flatMap topsF ∧ J (pre ++ ys) wr ∧ Kx n₀ Bo W wr ∧ StepT H n₀ Bo l B1 B2 wr) (fun wr => ∃ p, fmsOf p <+: tot ∧ Jx p wr) _
        (fun args w => enterFn Tryz.func142 rfl rfl args w) ?_ (fun k wr h => h.choose_spec.2.2.2.le) ⟨[], rfl, by rw [List.append_nil]; exact hJ1, hk1, hM1⟩).mono ?_
      · rintro k hkk wr cs ⟨ys, g1, g2, g3, g4⟩ hE
        have e : (f.kids.take (k + 1)).flatMap topsF = (f.kids.take k).flatMap topsF ++ topsF f.kids[k] := by
          rw [List.take_succ_eq_append_getElem hkk, List.flatMap_append]; simp
        have ht2 : fmsOf (pre ++ ys) ++ topsF f.kids[k] <+: tot := by
          refine List.IsPrefix.trans ?_ ht
          rw [fmsOf_app, g1, hT2, List.append_assoc, ← e]
          refine (List.prefix_append_right_inj _).2 ?_
          have e3 : f.kids.flatMap topsF = (f.kids.take (k + 1)).flatMap topsF ++ (f.kids.drop (k + 1)).flatMap topsF := by rw [← List.flatMap_append, List.take_append_drop]
          rw [e3]
          exact List.prefix_append _ _
        refine (top1_c cs f.kids[k] wr _ hE g4 hlow g2 hJa fun W' hM' hJ' => HI.out _ (List.getElem_mem hkk) cs _ W' hE hM' hJ' ht2).mono ?_
        rintro e' w' (⟨rfl, zs, q1, q2, q3⟩ | ⟨rfl, p, q1, q2⟩)
        · refine .inl ⟨rfl, ys ++ zs, by rw [fmsOf_app, g1, q1, e], by rw [← List.append_assoc]; exact q2, g3.then q3, g4.kx hlow q3⟩
        · exact .inr ⟨rfl, p, q1, q2⟩
      · rintro e w4 (⟨rfl, ys, g1, g2, g3, g4⟩ | ⟨rfl, p, g1, g2⟩)
        · go_wp2_with fail
          go_ret
          refine .inl ⟨rfl, ys, ?_, g2, g3⟩
          rw [List.take_length] at g1
          rw [g1, hT2]
        · go_wp2_with fail
          go_ret
          exact .inr ⟨rfl, p, g1, g2⟩
    · have b1 : (f.op != 5) = true := by simpa using h5
      have hT2 : topsF f = [f] := by rw [hT.out, if_neg h5]
      have hlen : pre.length < N := by
        have := ht.length_le
        rw [List.length_append, fmsOf_len, hT2] at this
        simp at this; omega
      obtain ⟨fn, tmps, assign, body, hy, hYR⟩ := hY _ ⟨(_, f), hr'⟩ _ hJ1 hlen
      dsimp only at hy
      clear h5
      refine (callsIn_wide (n := n)).1 ?_
      refine callsIn_of_wp Tryz.func141 rfl trivial ?_ rfl
      simp only [Tryz.ntmps141, List.size_toArray, List.length_cons, List.length_nil, Nat.reduceAdd, Nat.reduceSub, Array.replicate_succ, Array.replicate_zero, List.push_toArray, List.append_toArray, List.nil_append, List.cons_append]
      gi_wp2
      refine hYR.mono ?_
      rintro e W3 (⟨rfl, hJ3, hk3⟩ | ⟨rfl, hJx3⟩)
      · gi_wp2
        go_ret
        refine .inl ⟨rfl, [⟨(_, f), hr'⟩], by rw [hT2]; rfl, hJ3, hk1.then hk3⟩
      · gi_wp2
        go_ret
        refine .inr ⟨rfl, _, ?_, hJx3⟩
        rw [fmsOf_app]
        rw [hT2] at ht
        exact ht
end
set_option maxRecDepth 100000 in
theorem tops_seq {H : PH} {n n₀ Bo Bf : Nat} {w0 : World} {cs : List Value} {f : Fm} (hn : 3 ≤ n) (hg : Good Bo w0) (hle : PLe H (ph w0)) (hlow : ∀ k o, H k = some o → k < n₀) (hn₀ : n₀ ≤ w0.heap.size) (hB : Own w0 Bf cs.toArray 50) (hr : FmR H cs f) :
    SeqStopsK Fence.wide (n - 1) Tryz.prog 140 #[.pointer (some ⟨Bf, 0, none⟩)] (fun x : FmA H => #[.agg x.1.1.toArray]) (Kx n₀ Bo) (fun ys => fmsOf ys = topsF f) (fun p => fmsOf p <+: topsF f) (topsF f).length w0 := by
  intro l J Jx W hW hJ _ hY h0
  obtain ⟨a3, c3, a4, c4, rfl, -⟩ := hr.form
  have hBW : Own W Bf _ _ := hB.keep hW
  have hgW : Good Bo W := hg.ext hW
  have hle1 : PLe H (ph W) := hle.trans (Ext.ple hW)
  have hsz : n₀ ≤ W.heap.size := Nat.le_trans hn₀ hW.size
  obtain ⟨f1, -⟩ := hBW.facts
  have q0 := f1 0
  have q1 := f1 1
  have q2 := f1 2
  have q3 := f1 3
  simp only [fmC, List.getElem?_toArray, List.getElem?_cons_zero, List.getElem?_cons_succ] at q0 q1 q2 q3
  have hlB := hBW.lt
  have hJa : ∀ pre W1 o, J pre W1 → J pre (W1.alloc o) := fun pre W1 o h => hJ pre W1 _ none h (World.grownBy_alloc W1 o none) (fun r e => by cases e)
  have e1 : Ext W ((W.alloc (.cells #[.func (.yield l) #[] #[]] 99)).alloc (.cells #[.func (.func 141) #[] #[.pointer (some ⟨W.heap.size, 0, none⟩), .pointer (some ⟨W.heap.size + 1, 0, none⟩)]] 99)) := (Ext.new W _).alloc' _
  have o1 : Own ((W.alloc (.cells #[.func (.yield l) #[] #[]] 99)).alloc (.cells #[.func (.func 141) #[] #[.pointer (some ⟨W.heap.size, 0, none⟩), .pointer (some ⟨W.heap.size + 1, 0, none⟩)]] 99)) W.heap.size #[.func (.yield l) #[] #[]] 99 := (Own.new W _ _).alloc _
  have o2 : Own ((W.alloc (.cells #[.func (.yield l) #[] #[]] 99)).alloc (.cells #[.func (.func 141) #[] #[.pointer (some ⟨W.heap.size, 0, none⟩), .pointer (some ⟨W.heap.size + 1, 0, none⟩)]] 99)) (W.heap.size + 1) #[.func (.func 141) #[] #[.pointer (some ⟨W.heap.size, 0, none⟩), .pointer (some ⟨W.heap.size + 1, 0, none⟩)]] 99 := Own.new' _ _ _ (by simp)
  have hJ2 := hJa _ _ (.cells #[.func (.func 141) #[] #[.pointer (some ⟨W.heap.size, 0, none⟩), .pointer (some ⟨W.heap.size + 1, 0, none⟩)]] 99) (hJa _ _ (.cells #[.func (.yield l) #[] #[]] 99) h0)
  have hM : StepT H n₀ Bo l W.heap.size (W.heap.size + 1) _ := ⟨Nat.le_trans hsz e1.size, hgW.ext e1, hle1.trans e1.ple, Held.new hgW e1 (Nat.le_refl _) o1, Held.new hgW e1 (by omega) o2⟩
  have hk := Kx.ext (n₀ := n₀) e1 hgW.1 hsz
  have HC := Lib.hid (top_c (B1 := W.heap.size) (B2 := W.heap.size + 1) (n := n - 1) (N := (topsF f).length) (Jx := Jx) (by omega) hlow hJa hY (Nat.le_refl _) f _ [] _ hr hM hJ2 (List.prefix_refl _))
  clear hM hJ2 o1 o2 e1 f1 hB hBW hW hY hJ h0
  refine callsIn_of_wp Tryz.func140 rfl trivial ?_ rfl
  simp only [Tryz.ntmps140, List.size_toArray, List.length_cons, List.length_nil, Nat.reduceAdd, Nat.reduceSub, Array.replicate_succ, Array.replicate_zero, List.push_toArray, List.append_toArray, List.nil_append, List.cons_append]
  gi_wp2
  refine ⟨trivial, fun _ => by omega, callsIn_wide.2 (HC.out.mono ?_)⟩
  rintro e w4 (⟨rfl, ys, g1, g2, g3⟩ | ⟨rfl, p, g1, g2⟩)
  · gi_wp2
    go_end0
    exact ⟨⟨_, rfl⟩, .inl ⟨ys, g1, g2⟩⟩
  · gi_wp2
    go_end0
    exact ⟨⟨_, rfl⟩, .inr ⟨p, g1, g2⟩⟩
end Go.Proofs.YtnpnjcaomakehaaGreat
namespace Go.Proofs.YtnpnjcaomakehaaGreat
open Go.RowKit Go.Shelf
theorem Mem.ownFromH {w0 A B : World} {H0 H : PH} {L : List Chunk} {row : Option Nat} {n : Nat} (hL : ∀ c ∈ L, c.isC) (h : Mem w0 H0 L H A) (hH : ∀ k o, H k = some o → k < n) (hn : w0.heap.size ≤ n) (hg : A.grownBy B row) (hr : ∀ r, row = some r → n ≤ r ∧ ∃ o : Obj, A.heap[r]? = some o ∧ o.isCells = false) : Mem w0 H0 L H B :=
  h.grownN hg fun r e => by
    obtain ⟨h1, o, h2, h3⟩ := hr r e
    refine ⟨Nat.le_trans hn h1, ?_, fun i c hi hf => ?_⟩
    · cases hx : H r with
      | none => rfl
      | some o => have := hH r o hx; omega
    · obtain ⟨cs, T, h4⟩ := hL c (List.mem_of_getElem? hi) _ _ _ (h.ok i c hi) hf
      rw [h4] at h2; cases h2; cases h3
theorem Mem.addRawH {w0 w : World} {H0 H : PH} {L : List Chunk} {b : Nat} {o : Obj} (hL : ∀ c ∈ L, c.isC) (h : Mem w0 H0 L H w) (hb : w0.heap.size ≤ b) (hH : H b = none) (ho : w.heap[b]? = some o) (hc : o.isCells = false) : Mem w0 H0 (L ++ [raw b o]) H w :=
  h.add _ ho fun k hk => by
    cases hk
    refine ⟨hb, hH, fun i d hi hf => ?_⟩
    obtain ⟨cs, T, h4⟩ := hL d (List.mem_of_getElem? hi) _ _ _ (h.ok i d hi) hf
    rw [h4] at ho; cases ho; cases hc
theorem Mem.putRaw {w0 w : World} {H0 H : PH} {L : List Chunk} {b : Nat} {o o' : Obj} (h : Mem w0 H0 L H w) (i : Nat) (hi : L[i]? = some (raw b o)) : Mem w0 H0 (L.set i (raw b o')) H (w.putObj b o') := by
  have hk : w.heap[b]? = some o := h.ok i _ hi
  have hlt := (Array.getElem?_eq_some_iff.1 hk).1
  refine h.put i hi (c' := raw b o') ?_ (fun k hk => .inl hk) (h.ex.grown (grownBy_putObj' _ _ _) fun k e => by cases e; exact (h.fr i _ hi b rfl).1) fun k hk hne => ?_
  · show (w.putObj b o').heap[b]? = some o'
    simp [World.putObj, hlt]
  · exact World.putObj_heap_other (fun e => hne (by rw [e]; rfl))
theorem Cells.set4 {α : Type} {E : PH → List Value → α → Prop} {H : PH} {u v t s : Value} {x : α} (hx : E H [u, v, t, s] x) : ∀ {xs : List α} {c : List Value} (k : Nat), k < xs.length → Cells H E 4 c xs → Cells H E 4 ((((c.set (k * 4) u).set (k * 4 + 1) v).set (k * 4 + 2) t).set (k * 4 + 3) s) (xs.set k x)
  | [], _, k, hk, _ => by simp at hk
  | y :: ys, c, 0, _, hc => by
    obtain ⟨cs, rest, rfl, h1, h2, h3⟩ := hc
    match cs, h1 with
    | [a, b, d, e], _ => exact ⟨[u, v, t, s], rest, rfl, rfl, hx, h3⟩
  | y :: ys, c, k + 1, hk, hc => by
    obtain ⟨cs, rest, rfl, h1, h2, h3⟩ := hc
    match cs, h1 with
    | [a, b, d, e], _ =>
      refine ⟨[a, b, d, e], _, ?_, rfl, h2, Cells.set4 hx k (by simpa using hk) h3⟩
      rw [show (k + 1) * 4 = k * 4 + 1 + 1 + 1 + 1 by omega]
      simp only [List.cons_append, List.nil_append, List.set_cons_succ]
theorem Mem.row4 {α : Type} {E : PH → List Value → α → Prop} {hm : Mono E} {w0 w : World} {H0 H : PH} {L : List Chunk} {T : TypeId} {g n cap : Nat} {xs : List α} {x' : α} {a b c d : Value} (h : Mem w0 H0 L H w) (i : Nat) (hi : L[i]? = some (Proofs.YtnpnjcaomakehaaGreat.own hm 4 T (.slice (some ⟨g, 0, none⟩) n cap) xs)) (k : Nat) (hk : k < xs.length) (hx : E H [a, b, c, d] x') :
    Mem w0 H0 (L.set i (Proofs.YtnpnjcaomakehaaGreat.own hm 4 T (.slice (some ⟨g, 0, none⟩) n cap) (xs.set k x'))) H ((((w.setCell ⟨g, k * 4, none⟩ a).setCell ⟨g, k * 4 + 1, none⟩ b).setCell ⟨g, k * 4 + 2, none⟩ c).setCell ⟨g, k * 4 + 3, none⟩ d) := by
  have hil : i < L.length := (List.getElem?_eq_some_iff.1 hi).1
  rcases h.asBox i hi with ⟨h1, -⟩ | ⟨g', cap', cur, e, h1, h2, h3, h4, h5⟩
  · cases h1
  · cases e
    have s1 := h5.set i (List.getElem?_set_self hil) (k * 4) a
    rw [List.set_set] at s1
    have s2 := s1.set i (List.getElem?_set_self hil) (k * 4 + 1) b
    rw [List.set_set] at s2
    have s3 := s2.set i (List.getElem?_set_self hil) (k * 4 + 2) c
    rw [List.set_set] at s3
    have s4 := s3.set i (List.getElem?_set_self hil) (k * 4 + 3) d
    rw [List.set_set] at s4
    have := s4.asOwn i (List.getElem?_set_self hil) hm (xs := xs.set k x') (sz := 4) (n := cap) (by simpa using h1) h2 (by simpa using h3) (by
      have := Cells.set4 hx k hk h4
      simpa [Array.toList_setIfInBounds, List.take_set] using this)
    rw [List.set_set, List.length_set] at this
    exact this
theorem Mem.row4_f {α : Type} {E : PH → List Value → α → Prop} {hm : Mono E} {w0 w : World} {H0 H : PH} {L : List Chunk} {T : TypeId} {g n cap : Nat} {xs : List α} (h : Mem w0 H0 L H w) (i : Nat) (hi : L[i]? = some (Proofs.YtnpnjcaomakehaaGreat.own hm 4 T (.slice (some ⟨g, 0, none⟩) n cap) xs)) (k : Nat) (hk : k < xs.length) :
    g < w.heap.size ∧ (∀ j, w.frozen? ⟨g, j, none⟩ = false) ∧ ∀ j, j < 4 → ∃ u, w.cell? ⟨g, k * 4 + j, none⟩ = some u := by
  rcases h.asBox i hi with ⟨h1, -⟩ | ⟨g', cap', cur, e, h1, h2, h3, h4, h5⟩
  · cases h1
  · cases e
    have hil : i < L.length := (List.getElem?_eq_some_iff.1 hi).1
    obtain ⟨f1, f2⟩ := (h5.box i (List.getElem?_set_self hil)).facts
    refine ⟨(h5.box i (List.getElem?_set_self hil)).lt, f2, fun j hj => ?_⟩
    have hlt : k * 4 + j < cur.size := by rw [h3]; omega
    exact ⟨cur[k * 4 + j], by rw [f1]; exact Array.getElem?_eq_getElem hlt⟩
theorem Kx.turn {n₀ Bo : Nat} {W W' : World} {v v' : Value} {T : TypeId} (h : Own W Bo #[v] T) (h' : Own W' Bo #[v'] T) (hb : Below n₀ W W') (hs : W.heap.size ≤ W'.heap.size) (hk : ∀ k, k < W.heap.size → k ≠ Bo → v.ownBlock ≠ some k → W'.heap[k]? = W.heap[k]?)
    (hv : ∀ k, v'.ownBlock = some k → v.ownBlock = some k ∨ W.heap.size ≤ k) (hlt : ∀ k, v'.ownBlock = some k → k < W'.heap.size) : Kx n₀ Bo W W' := by
  have hc : W.cell? ⟨Bo, 0, none⟩ = some v := h.facts.1 0
  refine ⟨hb, hs, fun b c T' ho hx => ?_, fun b hx => ?_⟩
  · unfold Own at *
    rw [hk b (Array.getElem?_eq_some_iff.1 ho).1 (fun e => hx (.inl e)) (fun e => hx (.inr ⟨0, v, hc, e⟩))]
    exact ho
  · rcases hx with rfl | ⟨j, u, h1, h2⟩
    · exact .inl (.inl rfl)
    · rw [h'.facts.1 j] at h1
      match j, h1 with
      | 0, h1 =>
        obtain rfl : v' = u := by simpa using h1
        rcases hv b h2 with h3 | h3
        · exact .inl (.inr ⟨0, v, hc, h3⟩)
        · exact .inr ⟨h3, hlt b h2⟩
      | j + 1, h1 => simp at h1
end Go.Proofs.YtnpnjcaomakehaaGreat
