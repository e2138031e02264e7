/- wire.Writer: Text and Raw. -/
import Derived.Test.YtebhdjeognpljaaRefWire
import Derived.Lib.AppendStr
import Derived.Lib.SlBytesRow
import Derived.Lib.BufferRead
namespace Go.Proofs.Ytebhdjeognpljaa
open Go.RowKit
set_option linter.unusedSimpArgs false
set_option linter.unusedVariables false
def byteV (b : UInt8) : Value := .int .u8 b.toNat
theorem cells_byteV {h : PH} : ∀ {xs : List UInt8} {c : List Value}, Cells h ByteR 1 c xs ↔ c = xs.map byteV
  | [], c => by simp [Cells]
  | x :: xs, c => by
    constructor
    · rintro ⟨cs, rest, rfl, h1, h2, h3⟩
      cases h2
      rw [cells_byteV.1 h3]; rfl
    · rintro rfl
      exact ⟨[byteV x], xs.map byteV, rfl, rfl, rfl, cells_byteV.2 rfl⟩
theorem own_row {base : Nat} {w : World} {T : TypeId} {v : Value} {xs : List UInt8} (h : OwnS base noH w ByteR 1 T v xs) : w.ownsRow base T 1 v xs.length (xs.map byteV) := by
  refine ⟨by simp, ?_⟩
  rcases h with ⟨rfl, rfl⟩ | ⟨g, cap, cur, rfl, h1, h2, h3, h4, h5, h6, h7⟩
  · exact .inl ⟨rfl, rfl⟩
  · exact .inr ⟨g, cap, cur, rfl, h1, h3, h4, h5, h6, cells_byteV.1 h7⟩
theorem row_own {base : Nat} {w : World} {T : TypeId} {v : Value} {xs : List UInt8} {n : Nat} (hn : n = xs.length) (h : w.ownsRow base T 1 v n (xs.map byteV)) : OwnS base noH w ByteR 1 T v xs := by
  subst hn
  obtain ⟨h0, ⟨rfl, h⟩ | ⟨g, cap, cur, rfl, h1, h3, h4, h5, h6, h7⟩⟩ := h
  · exact .inl ⟨rfl, List.eq_nil_of_length_eq_zero h⟩
  · exact .inr ⟨g, cap, cur, rfl, h1, rfl, h3, h4, h5, h6, cells_byteV.2 h7⟩
theorem infoB' : ∃ i, Try.prog.info? 5 = some i ∧ i.zero = some (.int .u8 0) ∧ i.size = 1 ∧ i.bytes = 1 := by
  have h := infoByte
  obtain ⟨i, hi, h0, h1, h2⟩ := info_parts h
  exact ⟨i, hi, h0, h1, h2⟩
section
variable {P : Program}
theorem run_append_str {base : Nat} {w : World} (t u ty e : TypeId) (i : TypeInfo) (ht : P.underlying t = some (.slice e)) (hu : P.underlying u = some .string) (hi : P.info? e = some i) (hz : i.zero = some (.int .u8 0))
    (hsize : i.size = 1) (hby : i.bytes = 1) {v : Value} {xs : List UInt8} (hown : OwnS base noH w ByteR 1 e v xs) (s : ByteArray) (hlen : xs.length + s.size ≤ 1000000000) (hbase : base ≤ w.heap.size) :
    ∃ v' w', (Builtin.append_ #[t, u] ty #[v, .string s]).run P w = .ok v' w' ∧ OwnS base noH w' ByteR 1 e v' (xs ++ s.data.toList) ∧ w.grownBy w' v.ownBlock ∧
      (∀ k, v'.ownBlock = some k → v.ownBlock = some k ∨ w.heap.size ≤ k) := by
  have h63 : xs.length + s.size ≤ maxLen := by unfold maxLen; omega
  have hsl : s.data.toList.length = s.size := by simp
  have hz1 : (Value.int IntKind.u8 0).cells.size = 1 := rfl
  have grown : ∀ (old : Nat), ∀ (row : Option Nat),
      OwnS base noH (w.drew.alloc (.cells ((xs.map byteV).toArray ++ (Lib.strCells s).toArray ++ Builtin.zeroCells (Value.int .u8 0).cells (grownCap w (xs.length + s.size) old e - (xs.length + s.size))) e)) ByteR 1 e
        (.slice (some ⟨w.heap.size, 0, none⟩) (xs.length + s.size) (grownCap w (xs.length + s.size) old e)) (xs ++ s.data.toList) ∧
      w.grownBy (w.drew.alloc (.cells ((xs.map byteV).toArray ++ (Lib.strCells s).toArray ++ Builtin.zeroCells (Value.int .u8 0).cells (grownCap w (xs.length + s.size) old e - (xs.length + s.size))) e)) row := by
    intro old row
    have hge := grownCap_ge w (xs.length + s.size) old e
    have hcm : grownCap w (xs.length + s.size) old e ≤ maxLen := grownCap_le_maxLen w (xs.length + s.size) old e h63
    refine ⟨.inr ⟨w.heap.size, _, _, by simp [hsl], hbase, rfl, heap_alloc_new w.drew _, by simpa [hsl] using hge, hcm, ?_, ?_⟩, ⟨rfl, rfl, rfl, by simp, fun k hk _ => Below.heap_alloc w.drew _ k hk⟩⟩
    · simp only [Array.size_append, List.size_toArray, size_zeroCells, hz1, List.length_map, Lib.strCells_length]
      omega
    · rw [cells_byteV]
      simp only [Array.toList_append, List.append_assoc]
      rw [← List.append_assoc, List.map_append, show (xs ++ s.data.toList).length * 1 = (xs.map byteV ++ Lib.strCells s).length by simp [Lib.strCells_length, hsl]]
      rw [List.take_left]; rfl
  rcases hown with ⟨rfl, rfl⟩ | ⟨g, cap, cur, rfl, hbg, hn, hg, hnc, hcm, hcs, htake⟩
  · by_cases hm : s.size = 0
    · have hn : Lib.strCells s = [] := List.eq_nil_of_length_eq_zero (by rw [Lib.strCells_length]; exact hm)
      have hd : s.data.toList = [] := List.eq_nil_of_length_eq_zero (by rw [hsl]; exact hm)
      refine ⟨.slice none 0 0, w, ?_, by rw [hd]; exact OwnS.nil _ _ _ _ _ _, ⟨rfl, rfl, rfl, Nat.le_refl _, fun _ _ _ => rfl⟩, fun k h => .inl h⟩
      have hf := Lib.run_firstCells_string (P := P) w 1 s
      rw [hm] at hf
      simp [Builtin.append_, run_underlying ht, run_underlying hu, sizeOf, typeInfo, hi, hsize, Builtin.lenOf, hm, hf]
    · have hr := run_append_nil_string (P := P) w t u ty e i (.int .u8 0) ht hu hi hz s (by omega) (by omega) (by rw [hby]; omega)
      have hgr := grown 0 (Value.ownBlock (.slice none 0 0))
      simp only [List.length_nil, Nat.zero_add, List.nil_append, Array.empty_append, List.map_nil] at hgr ⊢
      have e1 : (s.data.map fun b => Value.int .u8 b.toNat) = (Lib.strCells s).toArray := by
        apply Array.ext'
        simp [Lib.strCells]
      rw [e1] at hr
      exact ⟨_, _, hr, by simpa using hgr.1, by simpa using hgr.2, fun k hk => .inr (by simp [Value.ownBlock] at hk; omega)⟩
  · by_cases hroom : xs.length + s.size ≤ cap
    · have hcs' : cur.size = cap := by simpa using hcs
      have hr := Lib.run_append_room_string (P := P) w t u ty e i ht hu hi hsize g xs.length cap cur hg s hroom (by omega)
      refine ⟨_, _, hr, .inr ⟨g, cap, _, by simp [hsl], hbg, rfl, setRow_heap w g cur _ e _ hg, by simpa [hsl] using hroom, hcm, ?_, ?_⟩, ⟨rfl, rfl, rfl, by simp, fun k _ hk => setRow_other w g k _ (fun e => hk (by simp [Value.ownBlock, e]))⟩, fun k hk => .inl hk⟩
      · simp only [List.size_toArray, List.length_append, List.length_take, List.length_drop, Array.length_toList, Lib.strCells_length]
        omega
      · rw [cells_byteV] at htake ⊢
        have ht' : cur.toList.take xs.length = xs.map byteV := by simpa using htake
        rw [ht', List.map_append, show (xs ++ s.data.toList).length * 1 = (xs.map byteV ++ Lib.strCells s).length by simp [Lib.strCells_length, hsl]]
        simp only []
        rw [List.take_left]; rfl
    · have holds : ∀ j u, (xs.map byteV)[j]? = some u → w.cell? ((⟨g, 0, none⟩ : Addr).add j) = some u := by
        intro j u hu
        rw [add0, cell_of_row w g j cur e (0, 0) hg]
        rw [cells_byteV] at htake
        rw [← htake, List.getElem?_take] at hu
        split at hu
        · simpa using hu
        · cases hu
      have hr := Lib.run_append_grow_string (P := P) w t u ty e i (.int .u8 0) ht hu hi hz ⟨g, 0, none⟩ xs.length cap (xs.map byteV) (by rw [hsize]; simp) holds s (by omega) (by omega) (by rw [hby]; exact growslice_fits (by omega) (by omega))
      have hgr := grown cap (Value.ownBlock (.slice (some ⟨g, 0, none⟩) xs.length cap))
      exact ⟨_, _, hr, hgr.1, hgr.2, fun k hk => .inr (by simp [Value.ownBlock] at hk; omega)⟩
theorem wpList_append_str {ops : Array Oper} {rest : List Oper} {o : Oper} {a : Act} {Q : Exit → Act → World → Prop} (hgd : o.guard = none) (sl x : Operand) (t u : TypeId)
    (ho : o.op = .call { callee := .builtin .append, args := #[sl, x], argTypes := #[t, u] })
    {base : Nat} {w : World} (e : TypeId) (i : TypeInfo) (ht : P.underlying t = some (.slice e)) (hu : P.underlying u = some .string) (hi : P.info? e = some i) (hz : i.zero = some (.int .u8 0))
    (hsize : i.size = 1) (hby : i.bytes = 1) {v : Value} {xs : List UInt8} (hs : a.eval sl = v) (s : ByteArray) (hx : a.eval x = .string s) (hown : OwnS base noH w ByteR 1 e v xs) (hlen : xs.length + s.size ≤ 1000000000) (hbase : base ≤ w.heap.size)
    (h : ∀ v' w', OwnS base noH w' ByteR 1 e v' (xs ++ s.data.toList) → w.grownBy w' v.ownBlock → (∀ k, v'.ownBlock = some k → v.ownBlock = some k ∨ w.heap.size ≤ k) → wpList P ops Q rest (a.put o.dst v') w') : wpList P ops Q (o :: rest) a w := by
  refine wpList_plain hgd fun K hK => ?_
  obtain ⟨v', w', hr, h2, h3, h4⟩ := run_append_str (P := P) (w := w) t u o.type e i ht hu hi hz hsize hby hown s hlen hbase
  unfold Oper.wp execOp
  simp only [ho, resolve, invoke, builtin, Sem.run_bind, Sem.run_pure, Result.andThen_ok, List.map_toArray, List.map_cons, List.map_nil, hs, hx, hr]
  exact hK _ _ (h v' w' h2 h3 h4)
end
theorem Wr.step0 {base : Nat} {w : World} {g : Nat} {v v' : Value} {row : Option Nat} {ys : List UInt8} (hW : Own w g #[v] 56) (hg : base ≤ g) (hb : base ≤ w.heap.size) (hne : row ≠ some g)
    {w2 : World} (ho : OwnS base noH w2 ByteR 1 5 v' ys) (hgr : w.grownBy w2 row) (hk : ∀ k, v'.ownBlock = some k → row = some k ∨ w.heap.size ≤ k) :
    Own w2 g #[v] 56 ∧ Hid (Wto base w g row ys (w2.setCell ⟨g, 0, none⟩ v')) := by
  have hgl := hW.lt
  have hW2 : Own w2 g #[v] 56 := hW.grown hgr (fun e => hne e.symm)
  have hng : v'.ownBlock ≠ some g := by
    intro he
    rcases hk g he with h1 | h1
    · exact hne h1
    · omega
  have hs2 : w.heap.size ≤ w2.heap.size := hgr.size
  refine ⟨hW2, ⟨_, ⟨v', by simpa using hW2.set 0 v', rfl, ho.keepB (fun k hk => ?_) (fun _ _ => rfl) (fun _ _ h => h), hng, hg, by simp; omega⟩, ⟨?_, ?_, ?_, ?_, ?_⟩, ?_⟩⟩
  · exact Below.heap_setCell _ _ _ _ (fun h => hng (by rw [hk]; exact congrArg some h))
  · exact hgr.os
  · exact hgr.tape
  · exact hgr.output
  · simp; omega
  · intro k hk1 hk2 hk3
    rw [Below.heap_setCell _ _ _ _ hk2, hgr.block k (by omega) (fun e => hk3 e.symm)]
  · intro k hk'
    rcases hk k hk' with h1 | h1
    · exact .inl h1
    · right; omega
theorem strCells_map (s : ByteArray) : Lib.strCells s = s.data.toList.map byteV := rfl
set_option maxRecDepth 100000 in
set_option maxHeartbeats 400000 in
theorem wtext_c (base g : Nat) (row : Option Nat) (xs : List UInt8) (s : ByteArray) (w : World) (hW : Wr base w g row xs) (hlen : xs.length + s.size ≤ 900000000) :
    Calls Try.prog 56 #[.pointer (some ⟨g, 0, none⟩), .string s] w (WrP base w g row (xs ++ uvar s.size ++ s.data.toList)) := by
  have hu10 := uvar_len10 (n := s.size) (by omega)
  go_enter Try.func56, Try.ntmps56
  go_wp2_with fail
  refine (uint_c base g row xs s.size _ (by omega) hW (by omega)).mono ?_
  rintro e w1 ⟨rfl, row', hWr, hx, hrow⟩
  replace hrow := Lib.hid hrow
  obtain ⟨v, hO, hv, hS, hne, hg, hb⟩ := hWr
  generalize hzs : xs ++ uvar s.size = zs at *
  have hzl : zs.length ≤ xs.length + 10 := by rw [← hzs]; simp; omega
  replace hzs := Lib.hid hzs
  obtain ⟨a, c, rfl, hl⟩ := hS.form
  obtain ⟨hoc, hof⟩ := hO.facts
  have hgl := hO.lt
  obtain ⟨i0, hi0, hz0, hz1, hz2⟩ := infoB'
  go_wp2_with (at_builtin; refine wpList_append_str rfl _ _ 46 9 rfl 5 i0 Try.underlying46 Try.underlying9 hi0 hz0 hz1 hz2 rfl s rfl hS ?c1 hb ?c4)
  case c1 => omega
  case c4 =>
  intro v' w2 ho2 hg2 hk2
  obtain ⟨hO2, hR⟩ := Wr.step0 hO hg hb hne ho2 hg2 hk2
  obtain ⟨a', c', rfl, -⟩ := ho2.form
  obtain ⟨hoc2, hof2⟩ := hO2.facts
  have hgl2 := hO2.lt
  clear hS hg2 hk2 hoc hof ho2
  go_wp2_with fail
  have hT := Wto.then hx hrow.out hR.out
  refine bodyPost_ret (v := .tuple #[]) (by simp [results, Try.results56, go_sem]) rfl ⟨rfl, ?_⟩
  simpa using hT
/-- the bytes as Go's own -/
def baOf (l : List UInt8) : ByteArray := ⟨l.toArray⟩
theorem baOf_size (l : List UInt8) : (baOf l).size = l.length := rfl
theorem bytes_at {w : World} {b o : Nat} {a : Option Addr} {n c : Nat} {xs : List UInt8} (h : BytesR (ph w) (.slice (some ⟨b, o, none⟩) n c) xs) : Lib.Bytes w b o (baOf xs) := by
  intro i hi
  obtain ⟨b', o', e, h1, -⟩ := BytesR.at h i hi
  cases e
  exact h1
theorem wraw_c (base g : Nat) (row : Option Nat) (xs ys : List UInt8) (vy : Value) (w : World) (hW : Wr base w g row xs) (hy : BytesR (ph w) vy ys) (hlen : xs.length + ys.length ≤ 900000000) :
    Calls Try.prog 28 #[.pointer (some ⟨g, 0, none⟩), vy] w (WrP base w g row (xs ++ uvar ys.length ++ ys)) := by
  have hcv : (convert 46 9 vy).run Try.prog w = .ok (.string (baOf ys)) w := by
    have hy' := hy
    obtain ⟨a, c, rfl, h1, h2, h3⟩ := hy
    rcases h3 with rfl | ⟨b, o, rfl, -⟩
    · cases a with
      | none => exact Lib.run_convert_nil_bytes w _ _ _ c Try.underlying46 Try.underlying5 Try.underlying9
      | some ad =>
        show (convert 46 9 (.slice (some ad) 0 c)).run Try.prog w = _
        rw [run_convert_bytes_string w _ _ _ (some ad) 0 c Try.underlying46 Try.underlying5 Try.underlying9]
        simp [Conv.bytesToString, loadCells, loadCellsFrom]
        rfl
    · exact Lib.run_convert_whole w _ _ _ Try.underlying46 Try.underlying5 Try.underlying9 b o (baOf ys) (bytes_at (a := none) hy') c
  obtain ⟨a, c, rfl, -⟩ := hy.form
  have h := wtext_c base g row xs (baOf ys) w hW (by rw [baOf_size]; exact hlen)
  rw [baOf_size] at h
  go_enter Try.func28, Try.ntmps28
  go_wp2_with fail
  refine h.mono ?_
  rintro e w1 ⟨rfl, hT⟩
  go_wp2_with fail
  exact bodyPost_ret (v := .tuple #[]) (by simp [results, Try.results28, go_sem]) rfl ⟨rfl, hT⟩
end Go.Proofs.Ytebhdjeognpljaa
