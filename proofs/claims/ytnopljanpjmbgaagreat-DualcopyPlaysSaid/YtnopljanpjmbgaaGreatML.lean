/-
  The walks of superblock.numbers and of Encode's closure; The walk of superblock.Encode; The walks of slices.Equal at bytes, and of the document's Same.
-/
import Derived.Test.YtnopljanpjmbgaaGreatMK
import Derived.Test.YtnopljanpjmbgaaGreatMJ
import Derived.BigRegion
import Derived.Laws.ResultCell
import Derived.Laws.Rows
import Derived.Laws.CopyOwn
namespace Go.Proofs.YtnopljanpjmbgaaGreat
open Go.RowKit Drum
set_option linter.unusedVariables false
theorem results_blk {P : Program} {fn : Func} {p : Tmp} {ty : TypeId} (h : fn.results = #[.cell p ty]) (tmps : Array Value) (w : World) (g : Nat) (t : TypeId) (cs : Array Value) (d : TypeDesc)
    (hp : tmps.getD p undef = .pointer (some ⟨g, 0, none⟩)) (hg : Blk w g t cs)
    (hu : P.underlying ty = some d) (hd : (match d with | .struct _ | .array _ _ => true | _ => false) = true) (hi : (P.info? ty).map (·.size) = some cs.size) :
    (results fn tmps).run P w = .ok (.agg cs) w := results_cell_row h tmps w g t cs (0, 0) d hp hg hu hd hi
theorem results_blk_tmp {P : Program} {fn : Func} {p u : Tmp} {ty : TypeId} (h : fn.results = #[.cell p ty, .tmp u]) (tmps : Array Value) (w : World) (g : Nat) (t : TypeId) (cs : Array Value) (d : TypeDesc)
    (hp : tmps.getD p undef = .pointer (some ⟨g, 0, none⟩)) (hg : Blk w g t cs)
    (hu : P.underlying ty = some d) (hd : (match d with | .struct _ | .array _ _ => true | _ => false) = true) (hi : (P.info? ty).map (·.size) = some cs.size) :
    (results fn tmps).run P w = .ok (.tuple #[.agg cs, tmps.getD u undef]) w := by
  rw [results_cell_tmp h, hp]
  simp only [asAddr, Sem.run_pure, Result.andThen_ok, run_loadVar_row w g t ty cs (0, 0) d hg hu hd hi]
def ptr (g i : Nat) : Value := .pointer (some ⟨g, i, none⟩)
/-- Where the numbers of a configuration are. -/
def numPtrs (g : Nat) : Array Value := #[ptr g 1, ptr g 2, ptr g 3, ptr g 4, ptr g 5, ptr g 6, ptr g 7]
set_option maxHeartbeats 4000000 in
theorem numbers_any (g : Nat) (w : World) :
    Calls Tryz.prog 48 #[.pointer (some ⟨g, 1, none⟩)] w fun e w' => e = .returned (.agg (numPtrs g)) ∧ Below w.heap.size w w' := by
  go_enter Tryz.func48, Tryz.ntmps48
  go_wp2_with fail
  go_region
  go_wp2_with fail
  exact bodyPost_ret (results_blk rfl _ _ w.heap.size 89 (numPtrs g) _ rfl (show Blk (w.alloc (.cells (numPtrs g) 89)) w.heap.size 89 (numPtrs g) from Blk.new _ _ _) Tryz.underlying89 rfl (by kernel_rfl)) rfl ⟨rfl, by go_grown⟩
/-- Bytes of the call's own that a variable of its own holds. -/
structure Enc (B : Nat) (w0 w : World) (go gf : Nat) (l : List (BitVec 8)) : Prop where
  ex : ∃ v, Blk w go 23 #[v] ∧ w.ownsRow B 5 1 v l.length (u8s l)
  err : Blk w gf 30 #[.int .i64 0]
  bo : B ≤ go
  bf : B ≤ gf
  bel : Below B w0 w
  big : B ≤ w.heap.size
set_option maxHeartbeats 1000000 in
theorem put_any {B : Nat} {w0 w : World} {go gf : Nat} {l : List (BitVec 8)} (h : Enc B w0 w go gf l) (x k : Nat) (hk : k = 4 ∨ k = 8) (hx : x < 256 ^ k) (hl : l.length ≤ 1000) :
    Calls Tryz.prog 46 #[.int .u64 (x : Int), .int .i64 (k : Int), .pointer (some ⟨go, 0, none⟩), .pointer (some ⟨gf, 0, none⟩)] w fun e w' => e = .returned (.tuple #[]) ∧ Enc B w0 w' go gf (l ++ le k x) := by
  obtain ⟨v, hb, ho⟩ := h.ex
  obtain ⟨A, c, rfl, hA, hc, hr⟩ := own_slice ho
  have H := Lib.hid h
  have HB := Lib.hid hb
  have HR := Lib.hid hr
  have hz : A = none → c = 0 := by
    rintro rfl
    rcases ho.2 with ⟨h1, _⟩ | ⟨g, cap, cur, h1, _⟩
    · injection h1
    · injection h1 with h1; cases h1
  have hc0 := hb.cell 0
  have hc1 := hb.frozen 0
  have hq0 : w.cell? ⟨go, 0, none⟩ = some (.slice A l.length c) := hc0
  have HC := Lib.hid (cappend_any A l.length c w.heap.size l x k hk hx w hr (Nat.le_refl _) (by omega) hz)
  have hgo : go < w.heap.size := hb.lt
  have hgf : gf < w.heap.size := h.err.lt
  clear hc0 hb ho hr h hk hx
  go_enter Tryz.func46, Tryz.ntmps46
  go_wp2_with fail
  refine HC.out.mono ?_
  rintro e w1 ⟨v1, rfl, hown, hb1⟩
  obtain ⟨A1, c1, rfl, hA1, hc1', hr1⟩ := own_slice hown
  have HB1 := Lib.hid hb1
  have HO1 := Lib.hid hown
  have HBG := Lib.hid (HB.out.below hb1 hgo)
  have hq1 : w1.cell? ⟨go, 0, none⟩ = some (.slice A l.length c) := HBG.out.cell 0
  have hf1 : w1.frozen? ⟨go, 0, none⟩ = false := HBG.out.frozen 0
  have hws := hb1.size
  clear hown hb1 hr1 HC hc1
  go_wp2_with fail
  go_end0
  have hlen : (l ++ le k x).length = l.length + k := by rw [List.length_append, le_length]
  have hne : go ≠ gf := fun e => by
    subst e
    exact Blk.ne_ HB.out H.out.err (by decide) rfl
  have hown1 : (w1.setCell ⟨go, 0, none⟩ (.slice A1 (l.length + k) c1)).ownsRow B 5 1 (.slice A1 (l.length + k) c1) (l.length + k) (u8s (l ++ le k x)) := by
    refine own_chg (F := fun q => q = go) (own_base HO1.out (fun q hq => by have := (HO1.out.lt q hq).1; have := H.out.big; omega)) ((Chg.refl (fun q => q = go) w1).setCell (p := ⟨go, 0, none⟩) (.inl rfl) _) (fun q hq e => ?_)
    have := (HO1.out.lt q hq).1
    omega
  refine ⟨rfl, ⟨_, HBG.out.set_ 0 _, by rw [hlen]; exact hown1⟩, ((H.out.err.below HB1.out hgf).far (p := ⟨go, 0, none⟩) (Ne.symm hne) _), H.out.bo, H.out.bf, ?_, ?_⟩
  · exact (H.out.bel.trans (HB1.out.mono H.out.big)).setCell H.out.bo _
  · have := H.out.big; simp; omega
end Go.Proofs.YtnopljanpjmbgaaGreat
namespace Go.Proofs.YtnopljanpjmbgaaGreat
open Go.RowKit Drum
set_option linter.unusedVariables false
set_option maxHeartbeats 1000000 in
theorem encode_bad (b : Bk) (hb : b.wf) (hn : ¬ b.ok) (w : World) :
    Calls Tryz.prog 14 #[.agg (bkv b)] w fun e w' => e = .returned (.tuple #[.slice none 0 0, .int .i64 2]) ∧ Below w.heap.size w w' := by
  have HC := Lib.hid (fun W => check_any b hb W)
  rw [okN_no hn] at HC
  clear hb hn
  unfold bkv at HC ⊢
  go_enter Tryz.func14, Tryz.ntmps14
  go_wp2_with fail
  refine (HC.out _).mono ?_
  rintro e w1 ⟨rfl, hb1⟩
  have HB := Lib.hid (bt (ba (Below.refl w.heap.size w) _) hb1)
  clear hb1
  go_wp2_with fail
  go_ret2
  exact ⟨rfl, HB.out⟩
theorem make64 (w : World) : (Instr.makeSlice 23 (.int .i64 4) (.int .i64 64)).run Tryz.prog w = .ok (.slice (some ⟨w.heap.size, 0, none⟩) 4 64) (w.alloc (.cells (u8s (zbytes 64)).toArray 5)) := by kernel_rfl
/-- A superblock with natural numbers. -/
def bkN (e n1 n2 n3 n4 n5 n6 n7 : Nat) : Bk := ⟨e, ⟨n1, n2, n3, n4, n5, n6, n7⟩⟩
theorem bkN_of (b : Bk) (h : b.ok) : ∃ e n1 n2 n3 n4 n5 n6 n7 : Nat, b = bkN e n1 n2 n3 n4 n5 n6 n7 ∧ e ≤ 1099511627776 ∧ n1 ≤ 65536 ∧ n2 ≤ 65536 ∧ n3 ≤ 65536 ∧ n4 ≤ 65536 ∧ n5 ≤ 65536 ∧ n6 ≤ 65536 ∧ n7 ≤ 65536 := by
  have hn := Cf.ok_nums h.2
  have he := h.1
  obtain ⟨e, ⟨n1, n2, n3, n4, n5, n6, n7⟩⟩ := b
  simp only [Cf.nums, List.mem_cons, List.not_mem_nil, or_false, forall_eq_or_imp, forall_eq] at hn
  obtain ⟨h1, h2, h3, h4, h5, h6, h7⟩ := hn
  simp only at he
  refine ⟨e.toNat, n1.toNat, n2.toNat, n3.toNat, n4.toNat, n5.toNat, n6.toNat, n7.toNat, ?_, by omega, by omega, by omega, by omega, by omega, by omega, by omega, by omega⟩
  simp only [bkN, Int.toNat_of_nonneg, h1.1, h2.1, h3.1, h4.1, h5.1, h6.1, h7.1, show 0 ≤ e by omega]
theorem index_ptr0 (g : Nat) (W : World) : (Instr.index 89 (.agg #[.pointer (some ⟨g, 1, none⟩), .pointer (some ⟨g, 2, none⟩), .pointer (some ⟨g, 3, none⟩), .pointer (some ⟨g, 4, none⟩), .pointer (some ⟨g, 5, none⟩), .pointer (some ⟨g, 6, none⟩), .pointer (some ⟨g, 7, none⟩)]) (.int .i64 0)).run Tryz.prog W = .ok (.pointer (some ⟨g, 1, none⟩)) W := by kernel_rfl
theorem index_ptr1 (g : Nat) (W : World) : (Instr.index 89 (.agg #[.pointer (some ⟨g, 1, none⟩), .pointer (some ⟨g, 2, none⟩), .pointer (some ⟨g, 3, none⟩), .pointer (some ⟨g, 4, none⟩), .pointer (some ⟨g, 5, none⟩), .pointer (some ⟨g, 6, none⟩), .pointer (some ⟨g, 7, none⟩)]) (.int .i64 1)).run Tryz.prog W = .ok (.pointer (some ⟨g, 2, none⟩)) W := by kernel_rfl
theorem index_ptr2 (g : Nat) (W : World) : (Instr.index 89 (.agg #[.pointer (some ⟨g, 1, none⟩), .pointer (some ⟨g, 2, none⟩), .pointer (some ⟨g, 3, none⟩), .pointer (some ⟨g, 4, none⟩), .pointer (some ⟨g, 5, none⟩), .pointer (some ⟨g, 6, none⟩), .pointer (some ⟨g, 7, none⟩)]) (.int .i64 2)).run Tryz.prog W = .ok (.pointer (some ⟨g, 3, none⟩)) W := by kernel_rfl
theorem index_ptr3 (g : Nat) (W : World) : (Instr.index 89 (.agg #[.pointer (some ⟨g, 1, none⟩), .pointer (some ⟨g, 2, none⟩), .pointer (some ⟨g, 3, none⟩), .pointer (some ⟨g, 4, none⟩), .pointer (some ⟨g, 5, none⟩), .pointer (some ⟨g, 6, none⟩), .pointer (some ⟨g, 7, none⟩)]) (.int .i64 3)).run Tryz.prog W = .ok (.pointer (some ⟨g, 4, none⟩)) W := by kernel_rfl
theorem index_ptr4 (g : Nat) (W : World) : (Instr.index 89 (.agg #[.pointer (some ⟨g, 1, none⟩), .pointer (some ⟨g, 2, none⟩), .pointer (some ⟨g, 3, none⟩), .pointer (some ⟨g, 4, none⟩), .pointer (some ⟨g, 5, none⟩), .pointer (some ⟨g, 6, none⟩), .pointer (some ⟨g, 7, none⟩)]) (.int .i64 4)).run Tryz.prog W = .ok (.pointer (some ⟨g, 5, none⟩)) W := by kernel_rfl
theorem index_ptr5 (g : Nat) (W : World) : (Instr.index 89 (.agg #[.pointer (some ⟨g, 1, none⟩), .pointer (some ⟨g, 2, none⟩), .pointer (some ⟨g, 3, none⟩), .pointer (some ⟨g, 4, none⟩), .pointer (some ⟨g, 5, none⟩), .pointer (some ⟨g, 6, none⟩), .pointer (some ⟨g, 7, none⟩)]) (.int .i64 5)).run Tryz.prog W = .ok (.pointer (some ⟨g, 6, none⟩)) W := by kernel_rfl
theorem index_ptr6 (g : Nat) (W : World) : (Instr.index 89 (.agg #[.pointer (some ⟨g, 1, none⟩), .pointer (some ⟨g, 2, none⟩), .pointer (some ⟨g, 3, none⟩), .pointer (some ⟨g, 4, none⟩), .pointer (some ⟨g, 5, none⟩), .pointer (some ⟨g, 6, none⟩), .pointer (some ⟨g, 7, none⟩)]) (.int .i64 6)).run Tryz.prog W = .ok (.pointer (some ⟨g, 7, none⟩)) W := by kernel_rfl
theorem drum_cells : Lib.strCells { data := #[68, 82, 85, 77] } = u8s drum := by
  simp [Lib.strCells, u8s, drum, u8v, n8]
def encHead (e : Nat) : List (BitVec 8) := zbytes 4 ++ drum ++ le 8 e
theorem n32_nat (x : W32) : n32 x = ((x.toNat : Nat) : Int) := by unfold n32; rfl
theorem enc_app {B : Nat} {w0 W w2 : World} {go gf n : Nat} {v0 v v2 : Value} {l : List (BitVec 8)} {xs : List Value} (hb : Blk W go 23 #[v0]) (hf : Blk W gf 30 #[.int .i64 0]) (hbel : Below B w0 W) (hbig : B ≤ W.heap.size) (hg : W.grownBy w2 v.ownBlock)
    (hv : W.ownsRow B 5 1 v n xs) (hown : w2.ownsRow B 5 1 v2 l.length (u8s l)) (hbo : B ≤ go) (hbf : B ≤ gf) : Enc B w0 (w2.setCell ⟨go, 0, none⟩ v2) go gf l := by
  have hne : go ≠ gf := fun e => by
    subst e
    exact Blk.ne_ hb hf (by decide) rfl
  have h1 : Blk w2 go 23 #[v0] := hb.grown hg (Ne.symm (own_blk_ne hv hb (by decide)))
  have h2 : Blk w2 gf 30 #[.int .i64 0] := hf.grown hg (Ne.symm (own_blk_ne hv hf (by decide)))
  refine ⟨⟨v2, h1.set_ 0 _, own_chg (F := fun q => q = go) hown ((Chg.refl (fun q => q = go) w2).setCell (p := ⟨go, 0, none⟩) (.inl rfl) _) (fun q hq e => ?_)⟩, h2.far (p := ⟨go, 0, none⟩) (Ne.symm hne) _, hbo, hbf, ?_, ?_⟩
  · subst e
    exact own_blk_ne hown h1 (by decide) hq
  · exact (hbel.grown hg hbig (fun q hq => (hv.lt q hq).1)).setCell hbo _
  · have := hg.size; simp; omega
theorem Enc.blk {B : Nat} {w0 w : World} {go gf : Nat} {l : List (BitVec 8)} (h : Enc B w0 w go gf l) : ∃ A c, Blk w go 23 #[.slice A l.length c] ∧ w.ownsRow B 5 1 (.slice A l.length c) l.length (u8s l) ∧ l.length ≤ c ∧ c ≤ maxLen ∧ Reads w w.heap.size 1 A l.length (u8s l) := by
  obtain ⟨v, hb, ho⟩ := h.ex
  obtain ⟨A, c, rfl, hA, hc, hr⟩ := own_slice ho
  exact ⟨A, c, hb, ho, hA, hc, hr⟩
theorem Enc.below {B : Nat} {w0 w w' : World} {go gf : Nat} {l : List (BitVec 8)} (h : Enc B w0 w go gf l) (hb : Below w.heap.size w w') : Enc B w0 w' go gf l := by
  obtain ⟨v, h1, h2⟩ := h.ex
  exact ⟨⟨v, h1.below hb h1.lt, own_below' h2 hb⟩, h.err.below hb h.err.lt, h.bo, h.bf, h.bel.trans (hb.mono h.big), Nat.le_trans h.big hb.size⟩
theorem Enc.cast {B : Nat} {w0 w : World} {go gf : Nat} {l l' : List (BitVec 8)} (h : Enc B w0 w go gf l) (e : l = l') : Enc B w0 w go gf l' := by subst e; exact h
theorem own_form {w : World} {base n : Nat} {e : TypeId} {v : Value} {xs : List Value} (h : w.ownsRow base e 1 v n xs) (hn : 0 < n) :
    ∃ g cap cur, v = .slice (some ⟨g, 0, none⟩) n cap ∧ base ≤ g ∧ Blk w g e cur ∧ n ≤ cap ∧ cap ≤ maxLen ∧ cur.size = cap ∧ cur.toList.take n = xs := by
  rcases h.2 with ⟨rfl, h0⟩ | ⟨g, cap, cur, rfl, h1, h2, h3, h4, h5, h6⟩
  · exfalso
    have := h.1
    rw [h0] at this
    simp at this; omega
  · exact ⟨g, cap, cur, rfl, h1, h2, h3, h4, by simpa using h5, by simpa using h6⟩
theorem enc_rest (e n1 n2 n3 n4 n5 n6 n7 : Nat) : (encHead e ++ numBytes [(n1 : Int), n2, n3, n4, n5, n6, n7] ++ zbytes 20).drop 4 = restOf (bkN e n1 n2 n3 n4 n5 n6 n7) := by
  have : encHead e ++ numBytes [(n1 : Int), n2, n3, n4, n5, n6, n7] ++ zbytes 20 = zbytes 4 ++ restOf (bkN e n1 n2 n3 n4 n5 n6 n7) := by
    simp [encHead, restOf, bkN, Cf.nums, zbytes, List.append_assoc]
  rw [this, List.drop_append_of_le_length (by simp [zbytes]), List.drop_of_length_le (by simp [zbytes]), List.nil_append]
theorem copy_take (cur : List Value) (p q : List (BitVec 8)) (h : cur.take 64 = u8s p) (hp : p.length = 64) (hq : q.length = 4) :
    (cur.take 0 ++ u8s q ++ cur.drop (0 + (u8s q).length)).take 64 = u8s (q ++ p.drop 4) := by
  have e : (cur.take 64).drop 4 = u8s (p.drop 4) := by rw [h, u8s_drop]
  have hl : (u8s q).length = 4 := by rw [u8s_length, hq]
  rw [← u8s_append, ← e]
  simp only [List.take_zero, List.nil_append, Nat.zero_add, hl]
  rw [List.take_append, hl, List.take_of_length_le (by omega), List.drop_take]
theorem reads_blk {w : World} {g : Nat} {t : TypeId} {cs : Array Value} (h : Blk w g t cs) (off n : Nat) (l : List (BitVec 8)) (hl : l.length = n) (hs : (cs.toList.drop off).take n = u8s l) : Reads w w.heap.size 1 (some ⟨g, off, none⟩) n (u8s l) := by
  refine ⟨by rw [u8s_length]; omega, fun _ => ⟨_, rfl, h.lt, fun j u hu => ?_⟩⟩
  have hj : j < n := by have := (List.getElem?_eq_some_iff.1 hu).1; rw [u8s_length] at this; omega
  have e : (⟨g, off, none⟩ : Addr).add j = ⟨g, off + j, none⟩ := by unfold Addr.add; split <;> simp_all
  rw [e, h.cell]
  rw [← hs, List.getElem?_take, if_pos hj, List.getElem?_drop] at hu
  simpa using hu
theorem drop_take_of {cur : List Value} {p : List (BitVec 8)} (h : cur.take 64 = u8s p) : (cur.drop 4).take 60 = u8s (p.drop 4) := by
  rw [u8s_drop, ← h, List.drop_take]
set_option maxHeartbeats 8000000 in
theorem encode_ok (e n1 n2 n3 n4 n5 n6 n7 : Nat) (hw : (bkN e n1 n2 n3 n4 n5 n6 n7).wf) (hok : (bkN e n1 n2 n3 n4 n5 n6 n7).ok)
    (he : e ≤ 1099511627776) (h1 : n1 ≤ 65536) (h2 : n2 ≤ 65536) (h3 : n3 ≤ 65536) (h4 : n4 ≤ 65536) (h5 : n5 ≤ 65536) (h6 : n6 ≤ 65536) (h7 : n7 ≤ 65536) (w : World) :
    Calls Tryz.prog 14 #[.agg (bkv (bkN e n1 n2 n3 n4 n5 n6 n7))] w fun ed w' => ∃ g cs, ed = .returned (.tuple #[.slice (some ⟨g, 0, none⟩) 64 64, .int .i64 0]) ∧ w.heap.size ≤ g ∧ Blk w' g 5 cs ∧ cs.toList.take 64 = u8s (encOf (bkN e n1 n2 n3 n4 n5 n6 n7)) ∧ Below w.heap.size w w' := by
  have HC := Lib.hid (fun W => check_any _ hw W)
  rw [okN_yes hok] at HC
  obtain ⟨BB, hBB⟩ : ∃ b : Bk, b = bkN e n1 n2 n3 n4 n5 n6 n7 := ⟨_, rfl⟩
  have HBB := Lib.hid hBB
  rw [← hBB]
  rw [hBB]
  have hcells : bkv (bkN e n1 n2 n3 n4 n5 n6 n7) = #[.int .i64 (e : Int), .int .i64 (n1 : Int), .int .i64 (n2 : Int), .int .i64 (n3 : Int), .int .i64 (n4 : Int), .int .i64 (n5 : Int), .int .i64 (n6 : Int), .int .i64 (n7 : Int)] := rfl
  rw [hcells] at HC ⊢
  have hmk := make64
  obtain ⟨i0, hi0, hz0, hz1, hz2⟩ := info_parts u8_info
  have HH : Hid (encOf (bkN e n1 n2 n3 n4 n5 n6 n7) = encOf BB) := by rw [hBB]; rfl
  rw [HH.out]
  clear hw hok hcells hBB
  go_enter Tryz.func14, Tryz.ntmps14
  go_wp2_with fail
  refine (HC.out _).mono ?_
  rintro ed w1 ⟨rfl, hb1⟩
  have HB := Lib.hid (bt (ba (Below.refl w.heap.size w) _) hb1)
  have hbb : Blk w1 w.heap.size 33 #[.int .i64 (e : Int), .int .i64 (n1 : Int), .int .i64 (n2 : Int), .int .i64 (n3 : Int), .int .i64 (n4 : Int), .int .i64 (n5 : Int), .int .i64 (n6 : Int), .int .i64 (n7 : Int)] := (Blk.new w _ _).below hb1 (by simp)
  have HBB1 := Lib.hid hbb
  have hs1 : w.heap.size < w1.heap.size := hbb.lt
  have q0 : w1.cell? ⟨w.heap.size, 0, none⟩ = some (.int .i64 (e : Int)) := hbb.cell 0
  clear hb1 hbb HC
  obtain ⟨W, hW⟩ : ∃ W : World, W = ((w1.alloc (.cells (u8s (zbytes 64)).toArray 5)).alloc (.cells #[.slice (some ⟨w1.heap.size, 0, none⟩) 4 64] 23)).alloc (.cells #[.int .i64 0] 30) := ⟨_, rfl⟩
  have HW := Lib.hid hW
  have HWB : Hid (Below w1.heap.size w1 W) := by rw [hW]; exact ((((Below.refl w1.heap.size w1).alloc (Nat.le_refl _) _).alloc (by simp) _).alloc (by simp; omega) _)
  have HW0 : Hid (W.ownsRow w1.heap.size 5 1 (.slice (some ⟨w1.heap.size, 0, none⟩) 4 64) 4 (u8s (zbytes 4))) := by
    refine ⟨rfl, .inr ⟨w1.heap.size, 64, (u8s (zbytes 64)).toArray, rfl, Nat.le_refl _, ?_, by omega, by simp [maxLen], rfl, by rfl⟩⟩
    rw [hW]
    exact ((Blk.new w1 5 _).alloc _).alloc _
  have HWo : Hid (Blk W (w1.heap.size + 1) 23 #[.slice (some ⟨w1.heap.size, 0, none⟩) 4 64]) := by
    rw [hW]
    have := (Blk.new (w1.alloc (.cells (u8s (zbytes 64)).toArray 5)) 23 #[.slice (some ⟨w1.heap.size, 0, none⟩) 4 64]).alloc (.cells #[.int .i64 0] 30)
    rw [World.size_alloc] at this
    exact this
  have HWf : Hid (Blk W (w1.heap.size + 1 + 1) 30 #[.int .i64 0]) := by
    rw [hW]
    have := Blk.new ((w1.alloc (.cells (u8s (zbytes 64)).toArray 5)).alloc (.cells #[.slice (some ⟨w1.heap.size, 0, none⟩) 4 64] 23)) 30 #[.int .i64 0]
    rw [World.size_alloc, World.size_alloc] at this
    exact this
  have hWs : W.heap.size = w1.heap.size + 3 := by rw [hW]; simp
  have HWS := Lib.hid hWs
  clear hW hWs
  go_wp2_with (at_builtin
               rw [← HW.out]
               refine Lib.wpList_append_own_string _ rfl _ _ 23 9 rfl w1.heap.size 5 i0 Tryz.underlying23 Tryz.underlying9 hi0 hz0 hz1 hz2 (.slice (some ⟨w1.heap.size, 0, none⟩) 4 64) 4 (u8s (zbytes 4)) rfl HW0.out _ rfl (by simp [maxLen, ByteArray.size]) (by simp [ByteArray.size]) (by rw [HWS.out]; omega) ?_
               intro v2 w2 hown2 hg2 _
               have hown2' : w2.ownsRow w1.heap.size 5 1 v2 8 (u8s (zbytes 4 ++ drum)) := by rw [← u8s_append, ← drum_cells]; exact hown2
               obtain ⟨A2, c2, rfl, hA2, hc2, hr2⟩ := own_slice hown2'
               have HE2 := Lib.hid (enc_app (l := zbytes 4 ++ drum) HWo.out HWf.out HWB.out (by rw [HWS.out]; omega) hg2 HW0.out hown2' (by omega) (by omega))
               have hb2 : Blk w2 (w1.heap.size + 1) 23 #[.slice (some ⟨w1.heap.size, 0, none⟩) 4 64] := HWo.out.grown hg2 (Ne.symm (own_blk_ne HW0.out HWo.out (by decide)))
               have hcg : w2.cell? ⟨w1.heap.size + 1, 0, none⟩ = some (.slice (some ⟨w1.heap.size, 0, none⟩) 4 64) := hb2.cell 0
               have hcf : w2.frozen? ⟨w1.heap.size + 1, 0, none⟩ = false := hb2.frozen 0
               have q2 : (w2.setCell ⟨w1.heap.size + 1, 0, none⟩ (.slice A2 8 c2)).cell? ⟨w.heap.size, 0, none⟩ = some (.int .i64 (e : Int)) := (HBB1.out.below HE2.out.bel hs1).cell 0
               clear hown2 hown2' hg2 hr2 hb2)
  refine (put_any HE2.out e 8 (.inr rfl) (by omega) (by simp [zbytes, drum])).mono ?_
  rintro ed w3 ⟨rfl, hE3⟩
  have HE3 := Lib.hid hE3
  clear hcg hcf q2 q0 hmk hE3 HE2 HW HWB HW0 HWo HWf HWS
  go_wp2_with fail
  have HNUM := Lib.hid (numbers_any w.heap.size w3)
  simp only [numPtrs, ptr] at HNUM
  refine HNUM.out.mono ?_
  rintro ed w4 ⟨rfl, hb4⟩
  have HE4 := Lib.hid (HE3.out.below hb4)
  clear hb4 HNUM HE3
  go_wp2_with fail
  go_loopg [28] 7 (fun q v28 wr => ∃ j : Nat, j + q = 7 ∧ v28 = .int .i64 j ∧ Enc w1.heap.size w1 wr (w1.heap.size + 1) (w1.heap.size + 1 + 1) (encHead e ++ numBytes (([(n1 : Int), n2, n3, n4, n5, n6, n7]).take j)))
  case atStart => exact ⟨0, rfl, rfl, HE4.out.cast (by simp [encHead, numBytes])⟩
  case round =>
    obtain ⟨j, hj, rfl, hE⟩ := hrel
    have HJ := Lib.hid hj
    have HE := Lib.hid hE
    have hj7 : j ≤ 7 := by omega
    clear hj hE HE4
    have hlen : (encHead e ++ numBytes (([(n1 : Int), n2, n3, n4, n5, n6, n7]).take j)).length ≤ 1000 := by
      rw [List.length_append, numBytes_length, List.length_take]; simp [encHead, zbytes, drum, le_length]; omega
    have HLEN := Lib.hid hlen
    clear hlen
    by_cases hlt : j < 7
    · have hb := HBB1.out.below HE.out.bel hs1
      have x0 := index_ptr0 w.heap.size
      have x1 := index_ptr1 w.heap.size
      have x2 := index_ptr2 w.heap.size
      have x3 := index_ptr3 w.heap.size
      have x4 := index_ptr4 w.heap.size
      have x5 := index_ptr5 w.heap.size
      have x6 := index_ptr6 w.heap.size
      have q1 : wr.cell? ⟨w.heap.size, 1, none⟩ = some (.int .i64 (n1 : Int)) := hb.cell 1
      have q2 : wr.cell? ⟨w.heap.size, 2, none⟩ = some (.int .i64 (n2 : Int)) := hb.cell 2
      have q3 : wr.cell? ⟨w.heap.size, 3, none⟩ = some (.int .i64 (n3 : Int)) := hb.cell 3
      have q4 : wr.cell? ⟨w.heap.size, 4, none⟩ = some (.int .i64 (n4 : Int)) := hb.cell 4
      have q5 : wr.cell? ⟨w.heap.size, 5, none⟩ = some (.int .i64 (n5 : Int)) := hb.cell 5
      have q6 : wr.cell? ⟨w.heap.size, 6, none⟩ = some (.int .i64 (n6 : Int)) := hb.cell 6
      have q7 : wr.cell? ⟨w.heap.size, 7, none⟩ = some (.int .i64 (n7 : Int)) := hb.cell 7
      clear hb
      rcases (show j = 0 ∨ j = 1 ∨ j = 2 ∨ j = 3 ∨ j = 4 ∨ j = 5 ∨ j = 6 by omega) with rfl | rfl | rfl | rfl | rfl | rfl | rfl
      all_goals
        go_wp2_with fail
        refine (put_any HE.out _ 4 (.inl rfl) ?_ HLEN.out).mono ?_
        · omega
        rintro ed w5 ⟨rfl, hE5⟩
        have HE5 := Lib.hid hE5
        clear hE5
        go_wp2_with fail
        go_roundg (gk - 1)
        case measure => have := HJ.out; omega
        case rel => first | exact ⟨1, (by have := HJ.out; omega), by go_num, HE5.out.cast (by simp [numBytes])⟩ | exact ⟨2, (by have := HJ.out; omega), by go_num, HE5.out.cast (by simp [numBytes])⟩ | exact ⟨3, (by have := HJ.out; omega), by go_num, HE5.out.cast (by simp [numBytes])⟩ | exact ⟨4, (by have := HJ.out; omega), by go_num, HE5.out.cast (by simp [numBytes])⟩ | exact ⟨5, (by have := HJ.out; omega), by go_num, HE5.out.cast (by simp [numBytes])⟩ | exact ⟨6, (by have := HJ.out; omega), by go_num, HE5.out.cast (by simp [numBytes])⟩ | exact ⟨7, (by have := HJ.out; omega), by go_num, HE5.out.cast (by simp [numBytes])⟩
    · have hj7 : j = 7 := by omega
      subst hj7
      have HE7 : Hid (Enc w1.heap.size w1 wr (w1.heap.size + 1) (w1.heap.size + 1 + 1) (encHead e ++ numBytes [(n1 : Int), n2, n3, n4, n5, n6, n7])) := HE.out
      clear HE HLEN
      obtain ⟨l, hl, HL⟩ : ∃ l : List (BitVec 8), l.length = 44 ∧ Hid (l = encHead e ++ numBytes [(n1 : Int), n2, n3, n4, n5, n6, n7]) :=
        ⟨_, by rw [List.length_append, numBytes_length]; simp [encHead, zbytes, drum, le_length], rfl⟩
      rw [← HL.out] at HE7
      obtain ⟨A, c, hbo, hown, hlc, hcm, hr⟩ := HE7.out.blk
      rw [hl] at hbo hown hlc hr
      have q8 : wr.cell? ⟨w1.heap.size + 1, 0, none⟩ = some (.slice A 44 c) := hbo.cell 0
      have f8 : wr.frozen? ⟨w1.heap.size + 1, 0, none⟩ = false := hbo.frozen 0
      have HBO := Lib.hid hbo
      have HOWN := Lib.hid hown
      have HLL := Lib.hid hl
      clear hbo hown hr hlt hj7 hl
      go_wp2_with (at_builtin
                   refine wpList_append_zeros _ rfl _ _ 23 3 rfl w1.heap.size 9 5 i0 Tryz.underlying23 Tryz.underlying3 Tryz.underlying9 hi0 hz0 hz1 hz2 (.slice A 44 c) 44 (u8s l) rfl HOWN.out 20 _ rfl rfl (by omega) (by omega) HE7.out.big ?_
                   intro v6 w6 hown6 hg6
                   have hl6 : (l ++ zbytes 20).length = 64 := by rw [List.length_append, HLL.out]; simp [zbytes]
                   have hown7 : w6.ownsRow w1.heap.size 5 1 v6 (l ++ zbytes 20).length (u8s (l ++ zbytes 20)) := by rw [hl6, ← u8s_append]; exact hown6
                   have HE8 := Lib.hid (enc_app HBO.out HE7.out.err HE7.out.bel HE7.out.big hg6 HOWN.out hown7 HE7.out.bo HE7.out.bf)
                   have hb6 := HBO.out.grown hg6 (Ne.symm (own_blk_ne HOWN.out HBO.out (by decide)))
                   have hown8 : w6.ownsRow w1.heap.size 5 1 v6 64 (u8s (l ++ zbytes 20)) := by rw [← hl6]; exact hown7
                   obtain ⟨g6, c6, cur6, rfl, hg61, hg62, hc61, hc62, hcur, htk⟩ := own_form hown8 (by omega)
                   have hcg : w6.cell? ⟨w1.heap.size + 1, 0, none⟩ = some (.slice A 44 c) := hb6.cell 0
                   have hcf : w6.frozen? ⟨w1.heap.size + 1, 0, none⟩ = false := hb6.frozen 0
                   have HR8 := Lib.hid ((hown8.2))
                   have HL6 := Lib.hid hl6
                   have HG62 := Lib.hid hg62
                   have HCUR := Lib.hid hcur
                   have HTK := Lib.hid htk
                   have HG6 := Lib.hid hg6
                   clear hown6 hown7 hown8 hl6 hb6 hg62 hcur htk hg6)
      obtain ⟨w7, hw7⟩ : ∃ w7 : World, w7 = w6.setCell ⟨w1.heap.size + 1, 0, none⟩ (.slice (some ⟨g6, 0, none⟩) 64 c6) := ⟨_, rfl⟩
      rw [← hw7] at HE8 ⊢
      have hgo : Blk w6 (w1.heap.size + 1) 23 #[.slice A 44 c] := HBO.out.grown HG6.out (Ne.symm (own_blk_ne HOWN.out HBO.out (by decide)))
      have HB7 : Hid (Blk w7 g6 5 cur6) := by rw [hw7]; exact HG62.out.far (p := ⟨w1.heap.size + 1, 0, none⟩) (Blk.ne_ HG62.out hgo (by decide)) _
      have HO7 : Hid (Blk w7 (w1.heap.size + 1) 23 #[.slice (some ⟨g6, 0, none⟩) 64 c6]) := by rw [hw7]; exact hgo.set_ 0 _
      have HREST : Hid ((l ++ zbytes 20).drop 4 = restOf BB) := by show _ = _; rw [HL.out, HBB.out]; exact enc_rest e n1 n2 n3 n4 n5 n6 n7
      have HRD : Hid (Reads w7 w7.heap.size 1 (some ⟨g6, 4, none⟩) 60 (u8s (restOf BB))) := by
        refine reads_blk HB7.out 4 60 _ (restOf_length BB) ?_
        rw [drop_take_of HTK.out, HREST.out]
      clear hw7 hgo hcg hcf HG62 HG6 HOWN HBO HE7 HR8 q8 f8
      refine (sum_any _ 60 _ _ (restOf BB) w7 HRD.out (Nat.le_refl _) (restOf_length BB).symm (by simp [maxLen])).mono ?_
      rintro ed w8 ⟨rfl, hb8⟩
      obtain ⟨s, hs, HS⟩ : ∃ s : Nat, s < 4294967296 ∧ Hid (s = (csum (restOf BB)).toNat) := ⟨_, (csum (restOf BB)).isLt, rfl⟩
      rw [n32_nat, ← HS.out]
      have HE9 := Lib.hid (HE8.out.below hb8)
      have HB8 := Lib.hid (HB7.out.below hb8 HB7.out.lt)
      have HO8 := Lib.hid (HO7.out.below hb8 HO7.out.lt)
      clear hb8 HB7 HO7 HE8 HRD
      go_wp2_with fail
      refine (cappend_any none 0 0 0 [] s 4 (.inl rfl) (by omega) w8 (Reads.none_) (Nat.zero_le _) (by omega) (fun _ => rfl)).mono ?_
      rintro ed w9 ⟨v9, rfl, hown9, hb9⟩
      obtain ⟨g9, c9, cur9, rfl, hg91, hg92, hc91, hc92, hcur9, htk9⟩ := own_form hown9 (by omega)
      have HE10 := Lib.hid (HE9.out.below hb9)
      have HB9 := Lib.hid (HB8.out.below hb9 HB8.out.lt)
      have HO9 := Lib.hid (HO8.out.below hb9 HO8.out.lt)
      have q9 : w9.cell? ⟨w1.heap.size + 1, 0, none⟩ = some (.slice (some ⟨g6, 0, none⟩) 64 c6) := HO9.out.cell 0
      have q10 : w9.cell? ⟨w1.heap.size + 1 + 1, 0, none⟩ = some (.int .i64 0) := HE10.out.err.cell 0
      have hl4 : (u8s (le 4 s)).length = 4 := by rw [u8s_length, le_length]
      have HCS : Hid (∀ j u, (u8s (le 4 s))[j]? = some u → w9.cell? ((⟨g9, 0, none⟩ : Addr).add j) = some u) := by
        have := (Reads.of_own hown9).2 (by omega)
        obtain ⟨ad, e1, _, hc⟩ := this
        injection e1 with e1
        subst e1
        exact hc
      have hcp := fun ty => run_copy_row (P := Tryz.prog) w9 23 23 ty 5 g6 0 64 c6 ⟨g9, 0, none⟩ 4 c9 cur6 5 (u8s (le 4 s)) Tryz.underlying23 (by rw [hi0]; simp [hz1]) HB9.out (by rw [hl4]; rfl) HCS.out (by rw [HCUR.out, hl4]; omega) (u8s_one _)
      rw [hl4] at hcp
      obtain ⟨cur10, hcur10⟩ : ∃ cs : Array Value, cs = (cur6.toList.take 0 ++ u8s (le 4 s) ++ cur6.toList.drop (0 + 4)).toArray := ⟨_, rfl⟩
      rw [← hcur10] at hcp
      have HT10 : Hid (cur10.toList.take 64 = u8s (encOf BB)) := by
        have := copy_take cur6.toList (l ++ zbytes 20) (le 4 s) HTK.out HL6.out (le_length _ _)
        rw [hl4] at this
        rw [hcur10]
        show _ = u8s (le 4 (csum (restOf BB)).toNat ++ restOf BB)
        rw [← HS.out, ← HREST.out]
        exact this
      have q11 : (w9.setRow g6 cur10).cell? ⟨w1.heap.size + 1, 0, none⟩ = some (.slice (some ⟨g6, 0, none⟩) 64 c6) := by
        have hne : w1.heap.size + 1 ≠ g6 := Blk.ne_ HO9.out HB9.out (by decide)
        rw [← q9]
        exact World.cell?_of_block (setRow_other w9 g6 _ cur10 hne)
      clear hown9 htk9 hb9 hcur10 hcur9 hl4
      go_wp2_with fail
      go_ret2
      refine ⟨g6, cur10, rfl, by omega, setRow_heap w9 g6 cur6 cur10 5 _ HB9.out, HT10.out, ?_⟩
      exact below_setRow (HB.out.trans (HE10.out.bel.mono (by omega))) (by omega) _
theorem encode_any (b : Bk) (hw : b.wf) (hok : b.ok) (w : World) :
    Calls Tryz.prog 14 #[.agg (bkv b)] w fun ed w' => ∃ g cs, ed = .returned (.tuple #[.slice (some ⟨g, 0, none⟩) 64 64, .int .i64 0]) ∧ w.heap.size ≤ g ∧ Blk w' g 5 cs ∧ cs.toList.take 64 = u8s (encOf b) ∧ Below w.heap.size w w' := by
  obtain ⟨e, n1, n2, n3, n4, n5, n6, n7, rfl, he, h1, h2, h3, h4, h5, h6, h7⟩ := bkN_of b hok
  exact encode_ok e n1 n2 n3 n4 n5 n6 n7 hw hok he h1 h2 h3 h4 h5 h6 h7 w
end Go.Proofs.YtnopljanpjmbgaaGreat
namespace Go.Proofs.YtnopljanpjmbgaaGreat
open Go.RowKit Drum
set_option linter.unusedVariables false
theorem take_eq_all {l m : List (BitVec 8)} (hn : l.length = m.length) (h : ∀ i (h1 : i < l.length) (h2 : i < m.length), l[i] = m[i]) : l = m := List.ext_getElem hn fun i h1 h2 => h i h1 h2
set_option maxHeartbeats 1000000 in
theorem equal_len (A A' : Option Addr) (n c n' c' : Nat) (hne : n ≠ n') (hn : n ≤ maxLen) (hn' : n' ≤ maxLen) (w : World) :
    Calls Tryz.prog 13 #[.slice A n c, .slice A' n' c'] w fun e w' => e = .returned (.bool false) ∧ w = w' := by
  unfold maxLen at hn hn'
  go_enter Tryz.func13, Tryz.ntmps13
  go_wp2_with fail
  go_ret
  exact ⟨rfl, rfl⟩
set_option maxHeartbeats 2000000 in
theorem equal_same (A A' : Option Addr) (n c c' B B' : Nat) (l m : List (BitVec 8)) (w : World) (hl : n = l.length) (hm : n = m.length) (hn : n ≤ maxLen) (hr : Reads w B 1 A n (u8s l)) (hr' : Reads w B' 1 A' n (u8s m)) :
    Calls Tryz.prog 13 #[.slice A n c, .slice A' n c'] w fun e w' => e = .returned (.bool (decide (l = m))) ∧ (∃ q, w' = w.drewN q) := by
  unfold maxLen at hn
  have HR := Lib.hid hr
  have HR' := Lib.hid hr'
  have HL := Lib.hid hl
  have HM := Lib.hid hm
  clear hr hr' hl hm
  go_enter Tryz.func13, Tryz.ntmps13
  go_wp2_with fail
  go_loopg [13] n (fun q v13 wr => ∃ j : Nat, j + q = n ∧ v13 = .int .i64 j ∧ (∀ i (h1 : i < l.length) (h2 : i < m.length), i < j → l[i] = m[i]) ∧ (∃ q, wr = w.drewN q))
  case atStart => exact ⟨0, by omega, rfl, fun i _ _ h => by omega, 0, rfl⟩
  case round =>
    obtain ⟨j, hj, rfl, hs, q, rfl⟩ := hrel
    have HJ := Lib.hid hj
    have HS := Lib.hid hs
    have hj' : j ≤ n := by omega
    clear hj hs
    by_cases hlt : j < n
    · have hR := HR.out
      have hR' := HR'.out
      obtain ⟨ad, u, rfl, _, hx, hc⟩ := hR.at_ hlt
      obtain ⟨ad', u', rfl, _, hx', hc'⟩ := hR'.at_ hlt
      obtain ⟨hjl, rfl⟩ := u8s_at hx
      obtain ⟨hjm, rfl⟩ := u8s_at hx'
      clear hx hx' hR hR'
      by_cases he : l[j] = m[j]
      · have hb : (n8 l[j] != n8 m[j]) = false := by rw [he]; simp
        have HE := Lib.hid he
        clear he
        go_wp2_with fail
        go_region
        all_goals go_wp2_with fail
        all_goals go_roundg (gk - 1)
        case measure => have := HJ.out; omega
        case rel =>
          refine ⟨j + 1, by have := HJ.out; omega, by go_num, fun i h1 h2 hi => ?_, q + 1, rfl⟩
          by_cases e : i = j
          · subst e; exact HE.out
          · exact HS.out i h1 h2 (by omega)
      · have hb : (n8 l[j] != n8 m[j]) = true := by simp only [bne_iff_ne, ne_eq]; exact fun h => he (n8_eq.1 h)
        have HE : Hid (decide (l = m) = false) := decide_eq_false fun h => he (by subst h; rfl)
        clear he
        go_wp2_with fail
        go_region
        all_goals go_wp2_with fail
        all_goals go_ret
        exact ⟨by rw [HE.out]; rfl, q + 1, rfl⟩
    · have e8 : j = n := by omega
      subst e8
      have HE : Hid (decide (l = m) = true) := decide_eq_true (take_eq_all (by rw [← HL.out, ← HM.out]) (fun i h1 h2 => HS.out i h1 h2 (by have := HL.out; omega)))
      go_wp2_with fail
      go_ret
      exact ⟨by rw [HE.out]; rfl, q, rfl⟩
theorem equal_any (A A' : Option Addr) (n c n' c' B B' : Nat) (l m : List (BitVec 8)) (w : World) (hl : n = l.length) (hm : n' = m.length) (hn : n ≤ maxLen) (hn' : n' ≤ maxLen) (hr : Reads w B 1 A n (u8s l)) (hr' : Reads w B' 1 A' n' (u8s m)) :
    Calls Tryz.prog 13 #[.slice A n c, .slice A' n' c'] w fun e w' => e = .returned (.bool (decide (l = m))) ∧ (∃ q, w' = w.drewN q) := by
  by_cases h : n = n'
  · subst h
    exact equal_same A A' n c c' B B' l m w hl hm hn hr hr'
  · rw [decide_eq_false (p := l = m) (fun e => h (by rw [hl, hm, e]))]
    exact (equal_len A A' n c n' c' h hn hn' w).mono fun e w' ⟨h1, h2⟩ => ⟨h1, 0, h2.symm⟩
end Go.Proofs.YtnopljanpjmbgaaGreat
