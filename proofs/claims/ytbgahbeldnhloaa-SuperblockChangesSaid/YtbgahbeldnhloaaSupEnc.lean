/-
  The walks of superblock.numbers and of Encode's closure. Conditions: the block is of the call's own; the number fits.
-/
import Derived.Test.YtbgahbeldnhloaaSupCheck2
import Derived.Test.YtbgahbeldnhloaaAppendZ
import Derived.Test.YtbgahbeldnhloaaCrcUpd
import Derived.BigRegion
import Derived.Laws.ResultCell
import Derived.Laws.Rows
namespace Go.Proofs.Ytbgahbeldnhloaa
open Go.RowKit Drum
set_option linter.unusedVariables false
theorem results_blk {P : Program} {fn : Func} {p : Tmp} {ty : TypeId} (h : fn.results = #[.cell p ty]) (tmps : Array Value) (w : World) (g : Nat) (t : TypeId) (cs : Array Value) (d : TypeDesc)
    (hp : tmps.getD p undef = .pointer (some ⟨g, 0, none⟩)) (hg : Blk w g t cs)
    (hu : P.underlying ty = some d) (hd : (match d with | .struct _ | .array _ _ => true | _ => false) = true) (hi : (P.info? ty).map (·.size) = some cs.size) :
    (results fn tmps).run P w = .ok (.agg cs) w := results_cell_row h tmps w g t cs (0, 0) d hp hg hu hd hi
theorem results_blk_tmp {P : Program} {fn : Func} {p u : Tmp} {ty : TypeId} (h : fn.results = #[.cell p ty, .tmp u]) (tmps : Array Value) (w : World) (g : Nat) (t : TypeId) (cs : Array Value) (d : TypeDesc)
    (hp : tmps.getD p undef = .pointer (some ⟨g, 0, none⟩)) (hg : Blk w g t cs)
    (hu : P.underlying ty = some d) (hd : (match d with | .struct _ | .array _ _ => true | _ => false) = true) (hi : (P.info? ty).map (·.size) = some cs.size) :
    (results fn tmps).run P w = .ok (.tuple #[.agg cs, tmps.getD u undef]) w := by
  rw [results_cell_tmp h, hp]
  simp only [asAddr, Sem.run_pure, Result.andThen_ok, run_loadVar_row w g t ty cs (0, 0) d hg hu hd hi]
def ptr (g i : Nat) : Value := .pointer (some ⟨g, i, none⟩)
/-- Where the numbers of a configuration are. -/
def numPtrs (g : Nat) : Array Value := #[ptr g 1, ptr g 2, ptr g 3, ptr g 4, ptr g 5, ptr g 6, ptr g 7]
set_option maxHeartbeats 4000000 in
theorem numbers_any (g : Nat) (w : World) :
    Calls Try.prog 26 #[.pointer (some ⟨g, 1, none⟩)] w fun e w' => e = .returned (.agg (numPtrs g)) ∧ Below w.heap.size w w' := by
  go_enter Try.func26, Try.ntmps26
  go_wp2_with fail
  go_region
  go_wp2_with fail
  exact bodyPost_ret (results_blk rfl _ _ w.heap.size 61 (numPtrs g) _ rfl (show Blk (w.alloc (.cells (numPtrs g) 61)) w.heap.size 61 (numPtrs g) from Blk.new _ _ _) Try.underlying61 rfl (by kernel_rfl)) rfl ⟨rfl, by go_grown⟩
/-- Bytes of the call's own that a variable of its own holds. -/
structure Enc (B : Nat) (w0 w : World) (go gf : Nat) (l : List (BitVec 8)) : Prop where
  ex : ∃ v, Blk w go 26 #[v] ∧ w.ownsRow B 5 1 v l.length (u8s l)
  err : Blk w gf 27 #[.int .i64 0]
  bo : B ≤ go
  bf : B ≤ gf
  bel : Below B w0 w
  big : B ≤ w.heap.size
set_option maxHeartbeats 1000000 in
theorem put_any {B : Nat} {w0 w : World} {go gf : Nat} {l : List (BitVec 8)} (h : Enc B w0 w go gf l) (x k : Nat) (hk : k = 4 ∨ k = 8) (hx : x < 256 ^ k) (hl : l.length ≤ 1000) :
    Calls Try.prog 24 #[.int .u64 (x : Int), .int .i64 (k : Int), .pointer (some ⟨go, 0, none⟩), .pointer (some ⟨gf, 0, none⟩)] w fun e w' => e = .returned (.tuple #[]) ∧ Enc B w0 w' go gf (l ++ le k x) := by
  obtain ⟨v, hb, ho⟩ := h.ex
  obtain ⟨A, c, rfl, hA, hc, hr⟩ := own_slice ho
  have H := Lib.hid h
  have HB := Lib.hid hb
  have HR := Lib.hid hr
  have hz : A = none → c = 0 := by
    rintro rfl
    rcases ho.2 with ⟨h1, _⟩ | ⟨g, cap, cur, h1, _⟩
    · injection h1
    · injection h1 with h1; cases h1
  have hc0 := hb.cell 0
  have hc1 := hb.frozen 0
  have hq0 : w.cell? ⟨go, 0, none⟩ = some (.slice A l.length c) := hc0
  have HC := Lib.hid (cappend_any A l.length c w.heap.size l x k hk hx w hr (Nat.le_refl _) (by omega) hz)
  have hgo : go < w.heap.size := hb.lt
  have hgf : gf < w.heap.size := h.err.lt
  clear hc0 hb ho hr h hk hx
  go_enter Try.func24, Try.ntmps24
  go_wp2_with fail
  refine HC.out.mono ?_
  rintro e w1 ⟨v1, rfl, hown, hb1⟩
  obtain ⟨A1, c1, rfl, hA1, hc1', hr1⟩ := own_slice hown
  have HB1 := Lib.hid hb1
  have HO1 := Lib.hid hown
  have HBG := Lib.hid (HB.out.below hb1 hgo)
  have hq1 : w1.cell? ⟨go, 0, none⟩ = some (.slice A l.length c) := HBG.out.cell 0
  have hf1 : w1.frozen? ⟨go, 0, none⟩ = false := HBG.out.frozen 0
  have hws := hb1.size
  clear hown hb1 hr1 HC hc1
  go_wp2_with fail
  go_end0
  have hlen : (l ++ le k x).length = l.length + k := by rw [List.length_append, le_length]
  have hne : go ≠ gf := fun e => by
    subst e
    exact Blk.ne_ HB.out H.out.err (by decide) rfl
  have hown1 : (w1.setCell ⟨go, 0, none⟩ (.slice A1 (l.length + k) c1)).ownsRow B 5 1 (.slice A1 (l.length + k) c1) (l.length + k) (u8s (l ++ le k x)) := by
    refine own_chg (F := fun q => q = go) (own_base HO1.out (fun q hq => by have := (HO1.out.lt q hq).1; have := H.out.big; omega)) ((Chg.refl (fun q => q = go) w1).setCell (p := ⟨go, 0, none⟩) (.inl rfl) _) (fun q hq e => ?_)
    have := (HO1.out.lt q hq).1
    omega
  refine ⟨rfl, ⟨_, HBG.out.set_ 0 _, by rw [hlen]; exact hown1⟩, ((H.out.err.below HB1.out hgf).far (p := ⟨go, 0, none⟩) (Ne.symm hne) _), H.out.bo, H.out.bf, ?_, ?_⟩
  · exact (H.out.bel.trans (HB1.out.mono H.out.big)).setCell H.out.bo _
  · have := H.out.big; simp; omega
end Go.Proofs.Ytbgahbeldnhloaa
