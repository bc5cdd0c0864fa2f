/-
  The walk of the law SlotsetLoops: it returns true and writes nothing that was there. Condition: the library's table holds what its text lists.
-/
import Derived.Test.YthmkaefpgcjlnaaDoorSetAll
import Derived.Deep.RegionHeld3
namespace Go.Proofs.YthmkaefpgcjlnaaDoor
open Go.RowKit Go.Shelf
set_option linter.unusedVariables false
attribute [local go_sem] Oper.semAt_some
/-- The two records for deferred calls, still empty. -/
def TwoDef (D D2 : Nat) (X : World) : Prop := X.heap[D]? = some (.deferred (some [])) ∧ X.heap[D2]? = some (.deferred (some []))
theorem TwoDef.below {D D2 : Nat} {X X' : World} (h : TwoDef D D2 X) (hb : Below X.heap.size X X') : TwoDef D D2 X' :=
  ⟨(hb.block D (Array.getElem?_eq_some_iff.1 h.1).1).trans h.1, (hb.block D2 (Array.getElem?_eq_some_iff.1 h.2).1).trans h.2⟩
set_option maxHeartbeats 8000000 in
set_option maxRecDepth 100000 in
theorem SlotsetLoops_w (sz some_ : BitVec 8) (A1 : Option Addr) (n1 c1 : Nat) (l1 : List (BitVec 8)) (w : World) (ht : TabIn w) (hr1 : Reads w w.heap.size 1 A1 n1 (u8s l1)) (hm1 : n1 ≤ maxLen) :
    Calls Tryd.prog 7 #[.int .u8 (n8 sz), .slice A1 n1 c1, .int .u8 (n8 some_)] w fun e w' => e = .returned (.bool true) ∧ Below w.heap.size w w' := by
  refine (callsIn_wide (n := 5)).1 ?_
  have HT := Lib.hid ht
  have hp := ht.pos
  have HR1 := Lib.hid hr1
  unfold maxLen at hm1
  obtain ⟨hz1, hz2⟩ := n8_bd sz
  obtain ⟨hs1, hs2⟩ := n8_bd some_
  clear ht hr1
  by_cases h1 : 100 < n1
  · refine callsIn_of_wp_marks Tryd.func7 rfl trivial ?_ rfl
    simp only [Tryd.ntmps7, List.size_toArray, List.length_cons, List.length_nil, Nat.reduceAdd, Nat.reduceSub, Array.replicate_succ, Array.replicate_zero, List.push_toArray, List.append_toArray, List.nil_append, List.cons_append]
    gi_wp2
    refine ⟨trivial, ?_⟩
    refine (callsIn_wide.2 (works_any _ (HT.out.below (B := w.heap.size) (((Below.refl _ w).alloc (Nat.le_refl _) _).alloc (by simp) _) hp))).mono ?_
    rintro e w2 ⟨rfl, hb⟩
    have hk : Blk w2 (w.heap.size + 1) 4 #[.bool false] := by
      have := Blk.new (w.alloc (.cells #[.int .u8 (n8 some_)] 5)) 4 #[.bool false]
      rw [World.size_alloc] at this
      exact this.below hb (by simp)
    have c6 : w2.cell? ⟨w.heap.size + 1, 0, none⟩ = some (.bool false) := hk.cell 0
    have f6 := hk.frozen 0
    have hcf : (w2.setCell ⟨w.heap.size + 1, 0, none⟩ (.bool true)).cell? ⟨w.heap.size + 1, 0, none⟩ = some (.bool true) := World.cell?_setCell_same' _ _ _ (by rw [c6]; rfl)
    have HCF := Lib.hid hcf
    have HB : Hid (Below w.heap.size w (w2.setCell ⟨w.heap.size + 1, 0, none⟩ (.bool true))) := ((((Below.refl _ w).alloc (Nat.le_refl _) _).alloc (by simp) _).trans (hb.mono (by simp; omega))).setCell (p := ⟨w.heap.size + 1, 0, none⟩) (by simp) _
    clear hb hk hcf
    gi_wp2
    exact ⟨_, by simp [results, Tryd.f7, go_sem, HCF.out], rfl, HB.out⟩
  · have d1 : decide (100 < (n1 : Int)) = false := by simp; omega
    refine callsIn_of_wp_marks Tryd.func7 rfl trivial ?_ rfl
    simp only [Tryd.ntmps7, List.size_toArray, List.length_cons, List.length_nil, Nat.reduceAdd, Nat.reduceSub, Array.replicate_succ, Array.replicate_zero, List.push_toArray, List.append_toArray, List.nil_append, List.cons_append]
    have H0 : Hid (Sep w.heap.size w ((w.alloc (.cells #[.int .u8 (n8 some_)] 5)).alloc (.cells #[.bool false] 4)) [blkOb (w.heap.size + 1) 4 #[.bool false], blkOb w.heap.size 5 #[.int .u8 (n8 some_)]]) := ((Sep.start w).newBlk w.heap.size _ _ rfl).newBlk (w.heap.size + 1) _ _ (by simp)
    gi_wp2
    refine ⟨trivial, ?_⟩
    refine (callsIn_wide.2 (sep_filled H0.out sz _ _ _ l1 ((HR1.out.below (Below.mono (((Below.refl _ w).alloc (Nat.le_refl _) _).alloc (by simp) _) (Nat.le_refl _))).more (by simp; omega)) (by omega))).mono ?_
    rintro e w1 ⟨g, bi, n, L, rfl, hn, hN, hs, hb⟩
    have H1 := Lib.hid hs
    have HL := Lib.hid hn
    have hlen := hs.len
    have hn34 : n ≤ 34 := by omega
    have hw1 : w.heap.size + 2 ≤ w1.heap.size := by have := hb.size; simp at this; omega
    have hE := slotsOf_le L
    have hEn : (slotsOf L).length ≤ n := by omega
    clear hn hN hs hb hlen hE
    gi_wp2_with (refine ⟨trivial, ?_⟩; gi_at_call 27; refine (callsIn_wide.2 (all_any _ _)).mono ?_; rintro e w' ⟨rfl, rfl⟩)
    have H2 : Hid (Sep w.heap.size w (((w1.alloc (.cells #[.slice (some ⟨bi, 0, none⟩) n n] 25)).alloc (.cells #[.pointer (some ⟨g, 0, none⟩)] 24)).alloc (.cells #[.int .i64 0] 3)) [blkOb (w1.heap.size + 1 + 1) 3 #[.int .i64 0], blkOb (w1.heap.size + 1) 24 #[.pointer (some ⟨g, 0, none⟩)], blkOb w1.heap.size 25 #[.slice (some ⟨bi, 0, none⟩) n n], setOb g L, bvOb bi L, blkOb (w.heap.size + 1) 4 #[.bool false], blkOb w.heap.size 5 #[.int .u8 (n8 some_)]]) :=
      ((H1.out.newBlk w1.heap.size _ _ rfl).newBlk (w1.heap.size + 1) _ _ (by simp)).newBlk (w1.heap.size + 1 + 1) _ _ (by simp)
    obtain ⟨W0, hW0⟩ : ∃ W0 : World, W0 = (((w1.alloc (.cells #[.slice (some ⟨bi, 0, none⟩) n n] 25)).alloc (.cells #[.pointer (some ⟨g, 0, none⟩)] 24)).alloc (.cells #[.int .i64 0] 3)) := ⟨_, rfl⟩
    rw [← hW0] at H2 ⊢
    have hs0 : W0.heap.size = w1.heap.size + 3 := by rw [hW0]; simp
    clear hW0
    have hset : HasSet W0 g L := H2.out.get (.tail _ (.tail _ (.tail _ (.head _))))
    have hbox : Blk W0 (w1.heap.size + 1) 24 #[.pointer (some ⟨g, 0, none⟩)] := H2.out.get (.tail _ (.head _))
    obtain ⟨OS, hOS⟩ : ∃ OS : Nat → List Ob, OS = fun (k : Nat) => [blkOb (w1.heap.size + 1 + 1) 3 #[.int .i64 (k : Int)], blkOb (w1.heap.size + 1) 24 #[.pointer (some ⟨g, 0, none⟩)], blkOb w1.heap.size 25 #[.slice (some ⟨bi, 0, none⟩) n n], setOb g L, bvOb bi L, blkOb (w.heap.size + 1) 4 #[.bool false], blkOb w.heap.size 5 #[.int .u8 (n8 some_)]] := ⟨_, rfl⟩
    have HOS := Lib.hid hOS
    have HC : Hid (∀ k, AllCells (OS k)) := fun k => by
      rw [hOS]
      exact AllCells.cons (cellOb_blk _ _ _) (AllCells.cons (cellOb_blk _ _ _) (AllCells.cons (cellOb_blk _ _ _) (AllCells.cons (cellOb_set _ _) (AllCells.cons (cellOb_bv _ _) (AllCells.cons (cellOb_blk _ _ _) (AllCells.cons (cellOb_blk _ _ _) AllCells.nil))))))
    have H3 : Hid (Sep w.heap.size w W0 (OS 0)) := by show Sep _ _ _ _; rw [hOS]; exact H2.out
    have hst := all_stops_set 4 (by omega) (w1.heap.size + 1) g L (fun _ _ => True) W0 (by omega) (hbox.cell 0) hset
    have HBX := Lib.hid hbox
    clear hOS H2 hset hbox
    refine wpIn_rangeFunc_ownF rfl (by omega) (gf := 46) (lb := #[.pointer (some ⟨w1.heap.size + 1, 0, none⟩)]) rfl trivial (enters_of Tryd.func46 (by kernel_rfl) rfl)
      hst (fun _ _ => trivial) (fun _ _ _ _ _ _ _ _ => trivial) (Below.refl _ _) (fun _ => rfl)
      (fun pre W => Sep w.heap.size w W (OS pre.length) ∧ (pre.length : Int) ≤ n8 some_)
      (fun c pre W => c = .exit 0 ∧ ∃ k : Nat, Sep w.heap.size w W (OS k) ∧ (k : Int) = n8 some_ ∧ pre.length = k + 1)
      (OwnFrom.and (ownFrom_sep (os := fun (s : List (SlotIn L)) => OS s.length) (by rw [hs0]; omega) (fun s => HC.out _)) ownFrom_true)
      (fun c s A B row hs hg hr => by
        obtain ⟨h1, k, h2, h3⟩ := hs
        exact ⟨h1, k, h2.others (HC.out _) hg (fun r e => ⟨by have := (hr r e).1; omega, (hr r e).2⟩), h3⟩)
      ⟨H3.out, by simp; omega⟩
      (fun x => { tmps := #[.int .u8 (n8 sz), .slice A1 n1 c1, .int .u8 (n8 some_), undef, undef, .pointer (some ⟨w.heap.size, 0, none⟩), .pointer (some ⟨w.heap.size + 1, 0, none⟩), .pointer (some ⟨g, 0, none⟩), .pointer (some ⟨w1.heap.size, 0, none⟩), .func (.func 46) #[] #[.pointer (some ⟨w1.heap.size + 1, 0, none⟩)], .pointer (some ⟨w1.heap.size + 1 + 1, 0, none⟩), undef, undef, .slice A1 n1 c1, .int .i64 (n1 : Int), .bool false, undef, .tuple #[.pointer (some ⟨g, 0, none⟩), .slice (some ⟨bi, 0, none⟩) n n], .int .u8 (n8 sz), .slice A1 n1 c1, .tuple #[.pointer (some ⟨g, 0, none⟩), .slice (some ⟨bi, 0, none⟩) n n], .pointer (some ⟨g, 0, none⟩), .slice (some ⟨bi, 0, none⟩) n n, .pointer (some ⟨g, 0, none⟩), .bool false, .pointer (some ⟨g, 0, none⟩), .func (.func 46) #[] #[.pointer (some ⟨w1.heap.size + 1, 0, none⟩)], .func (.func 46) #[] #[.pointer (some ⟨w1.heap.size + 1, 0, none⟩)], .int .i64 (x.1 : Int), undef, undef, undef, undef, undef, undef, undef, undef, undef, undef, undef, undef, undef, undef, undef, undef, undef, undef, undef, undef, undef, undef, undef, undef, undef, undef, undef, undef, undef, undef, undef, undef, undef, undef, undef, undef, undef, undef, undef], defers := [] }) ?assign ?body ?done ?stop
    case assign =>
      intro l x W K hK
      gi_wp2
      exact hK
    case body =>
      rintro l pre x W ⟨hs, hle⟩ hpl
      have hs' := hs
      rw [HOS.out] at hs'
      have h10 : Blk W (w1.heap.size + 1 + 1) 3 #[.int .i64 (pre.length : Int)] := hs'.get (.head _)
      have h5 : Blk W w.heap.size 5 #[.int .u8 (n8 some_)] := hs'.get (.tail _ (.tail _ (.tail _ (.tail _ (.tail _ (.tail _ (.head _)))))))
      have q10 : W.cell? ⟨w1.heap.size + 1 + 1, 0, none⟩ = some (.int .i64 (pre.length : Int)) := h10.cell 0
      have f10 := h10.frozen 0
      have q5 : W.cell? ⟨w.heap.size, 0, none⟩ = some (.int .u8 (n8 some_)) := h5.cell 0
      have HS := Lib.hid hs
      have HPL := Lib.hid hpl
      have HLE := Lib.hid hle
      have hst2 : Sep w.heap.size w (W.setCell ⟨w1.heap.size + 1 + 1, 0, none⟩ (.int .i64 ((pre.length + 1 : Nat) : Int))) (OS (pre.length + 1)) := by
        rw [HOS.out]
        exact hs'.setBlk 0 _
      obtain ⟨k, hk⟩ : ∃ k, pre.length = k := ⟨_, rfl⟩
      have HK := Lib.hid hk
      rw [hk] at q10 hst2 hle hpl
      have hk64 : k ≤ 34 := by omega
      have HST := Lib.hid hst2
      have hle' := hle
      clear hs hs' h10 h5 hst2 hk hle hpl
      by_cases heq : (k : Int) = n8 some_
      · have hd : ((k : Int) == n8 some_) = true := by simpa using heq
        clear hle'
        gi_wp2
        exact ⟨KeepsOthers.refl _, rfl, k, by rw [← HK.out]; exact HS.out, heq, by rw [List.length_append, HK.out]; rfl⟩
      · have hd : ((k : Int) == n8 some_) = false := by simpa using heq
        gi_wp2
        refine ⟨KeepsOthers.setCell _ _ _, trivial, ?_, ?_⟩
        · have hll : (pre ++ [x]).length = k + 1 := by rw [List.length_append, HK.out]; rfl
          rw [hll]
          exact HST.out
        · rw [List.length_append, HK.out]
          show ((k + 1 : Nat) : Int) ≤ _
          omega
    case done =>
      rintro D ys W hD hys ⟨hs, hle⟩ hK
      have hkk : (if ((slotsOf L).length : Int) < n8 some_ then ((slotsOf L).length : Int) else n8 some_) = (ys.length : Int) := by
        have e : ys.length = (slotsOf L).length := by rw [← vals_length, hys]
        rw [← e]
        split <;> omega
      clear hys hle
      generalize ys.length = k at hs hkk
      rw [HOS.out] at hs
      have H4 := Lib.hid hs
      have HD1 := Lib.hid hK
      have HDW := Lib.hid hD
      have HKK := Lib.hid hkk
      clear hs hK hD hkk
      gi_wp2
      obtain ⟨W2, hW2⟩ : ∃ W2 : World, W2 = W.alloc (.cells #[.int .i64 0] 3) := ⟨_, rfl⟩
      rw [← hW2]
      have hs2 : W2.heap.size = W.heap.size + 1 := by rw [hW2]; simp
      have hDlt : D < W.heap.size := (Array.getElem?_eq_some_iff.1 HD1.out).1
      have hW0W : w1.heap.size + 3 ≤ W.heap.size := by have := HDW.out; omega
      have H5 : Hid (Sep w.heap.size w W2 [blkOb W.heap.size 3 #[.int .i64 0], blkOb (w1.heap.size + 1 + 1) 3 #[.int .i64 (k : Int)], blkOb (w1.heap.size + 1) 24 #[.pointer (some ⟨g, 0, none⟩)], blkOb w1.heap.size 25 #[.slice (some ⟨bi, 0, none⟩) n n], setOb g L, bvOb bi L, blkOb (w.heap.size + 1) 4 #[.bool false], blkOb w.heap.size 5 #[.int .u8 (n8 some_)]]) := by rw [hW2]; exact H4.out.newBlk W.heap.size _ _ rfl
      have HD2 : Hid (W2.heap[D]? = some (.deferred (some []))) := by rw [hW2]; exact (Below.heap_alloc W _ D hDlt).trans HD1.out
      clear hW2
      have hset : HasSet W2 g L := H5.out.get (.tail _ (.tail _ (.tail _ (.tail _ (.head _)))))
      have hbox : Blk W2 (w1.heap.size + 1) 24 #[.pointer (some ⟨g, 0, none⟩)] := H5.out.get (.tail _ (.tail _ (.head _)))
      obtain ⟨OT, hOT⟩ : ∃ OT : Nat → List Ob, OT = fun (m : Nat) => [blkOb W.heap.size 3 #[.int .i64 (m : Int)], blkOb (w1.heap.size + 1 + 1) 3 #[.int .i64 (k : Int)], blkOb (w1.heap.size + 1) 24 #[.pointer (some ⟨g, 0, none⟩)], blkOb w1.heap.size 25 #[.slice (some ⟨bi, 0, none⟩) n n], setOb g L, bvOb bi L, blkOb (w.heap.size + 1) 4 #[.bool false], blkOb w.heap.size 5 #[.int .u8 (n8 some_)]] := ⟨_, rfl⟩
      have HOT := Lib.hid hOT
      have HC2 : Hid (∀ m, AllCells (OT m)) := fun m => by
        rw [hOT]
        exact AllCells.cons (cellOb_blk _ _ _) (AllCells.cons (cellOb_blk _ _ _) (AllCells.cons (cellOb_blk _ _ _) (AllCells.cons (cellOb_blk _ _ _) (AllCells.cons (cellOb_set _ _) (AllCells.cons (cellOb_bv _ _) (AllCells.cons (cellOb_blk _ _ _) (AllCells.cons (cellOb_blk _ _ _) AllCells.nil)))))))
      have H6 : Hid (Sep w.heap.size w W2 (OT 0)) := by show Sep _ _ _ _; rw [hOT]; exact H5.out
      have hst := all_stops_set 4 (by omega) (w1.heap.size + 1) g L (fun _ _ => True) W2 (by omega) (hbox.cell 0) hset
      clear hOT H5 hset hbox
      refine wpIn_rangeFunc_ownF rfl (by omega) (gf := 46) (lb := #[.pointer (some ⟨w1.heap.size + 1, 0, none⟩)]) rfl trivial (enters_of Tryd.func46 (by kernel_rfl) rfl)
        hst (fun _ _ => trivial) (fun _ _ _ _ _ _ _ _ => trivial) (Below.refl _ _) (fun _ => rfl)
        (fun pre V => Sep w.heap.size w V (OT pre.length) ∧ V.heap[D]? = some (.deferred (some [])))
        (fun c pre V => False)
        (OwnFrom.and (ownFrom_sep (os := fun (s : List (SlotIn L)) => OT s.length) (by rw [hs2]; omega) (fun s => HC2.out _)) (fun s A B row hs hg hr => (hg.block D (Array.getElem?_eq_some_iff.1 hs).1 (fun e => by have := (hr _ e.symm).1; omega)).trans hs))
        (fun c s A B row hs hg hr => hs)
        ⟨H6.out, HD2.out⟩
        (fun x => { tmps := #[.int .u8 (n8 sz), .slice A1 n1 c1, .int .u8 (n8 some_), undef, undef, .pointer (some ⟨w.heap.size, 0, none⟩), .pointer (some ⟨w.heap.size + 1, 0, none⟩), .pointer (some ⟨g, 0, none⟩), .pointer (some ⟨w1.heap.size, 0, none⟩), .func (.func 46) #[] #[.pointer (some ⟨w1.heap.size + 1, 0, none⟩)], .pointer (some ⟨w1.heap.size + 1 + 1, 0, none⟩), .pointer (some ⟨W.heap.size, 0, none⟩), .int .i64 (x.1 : Int), .slice A1 n1 c1, .int .i64 (n1 : Int), .bool false, undef, .tuple #[.pointer (some ⟨g, 0, none⟩), .slice (some ⟨bi, 0, none⟩) n n], .int .u8 (n8 sz), .slice A1 n1 c1, .tuple #[.pointer (some ⟨g, 0, none⟩), .slice (some ⟨bi, 0, none⟩) n n], .pointer (some ⟨g, 0, none⟩), .slice (some ⟨bi, 0, none⟩) n n, .pointer (some ⟨g, 0, none⟩), .bool false, .pointer (some ⟨g, 0, none⟩), .func (.func 46) #[] #[.pointer (some ⟨w1.heap.size + 1, 0, none⟩)], .func (.func 46) #[] #[.pointer (some ⟨w1.heap.size + 1, 0, none⟩)], undef, undef, undef, undef, undef, undef, undef, .func (.func 46) #[] #[.pointer (some ⟨w1.heap.size + 1, 0, none⟩)], .int .i64 (x.1 : Int), undef, undef, undef, undef, undef, undef, undef, undef, undef, undef, undef, undef, undef, undef, undef, undef, undef, undef, undef, undef, undef, undef, undef, undef, undef, undef, undef, undef, undef, undef, undef], defers := [] }) ?assign2 ?body2 ?done2 ?stop2
      case assign2 =>
        intro l x V K hK
        gi_wp2
        exact hK
      case body2 =>
        rintro l pre x V ⟨hs, hd⟩ hpl
        have hs' := hs
        rw [HOT.out] at hs'
        have h11 : Blk V W.heap.size 3 #[.int .i64 (pre.length : Int)] := hs'.get (.head _)
        have h8 : Blk V w1.heap.size 25 #[.slice (some ⟨bi, 0, none⟩) n n] := hs'.get (.tail _ (.tail _ (.tail _ (.head _))))
        have hB : Blk V bi 4 (bvals L).toArray := hs'.get (.tail _ (.tail _ (.tail _ (.tail _ (.tail _ (.head _))))))
        have q11 : V.cell? ⟨W.heap.size, 0, none⟩ = some (.int .i64 (pre.length : Int)) := h11.cell 0
        have f11 := h11.frozen 0
        have q8 : V.cell? ⟨w1.heap.size, 0, none⟩ = some (.slice (some ⟨bi, 0, none⟩) n n) := h8.cell 0
        have hxl := inL_lt x.2
        have qb : V.cell? ⟨bi, x.1, none⟩ = some (.bool true) := by rw [hB.cell, List.getElem?_toArray, bvals_at hxl, x.2]
        have hxn : x.1 < n := by rw [HL.out]; exact hxl
        have hst2 : Sep w.heap.size w (V.setCell ⟨W.heap.size, 0, none⟩ (.int .i64 ((pre.length + 1 : Nat) : Int))) (OT (pre.length + 1)) := by
          rw [HOT.out]
          exact hs'.setBlk 0 _
        obtain ⟨m, hm⟩ : ∃ m, pre.length = m := ⟨_, rfl⟩
        have HM := Lib.hid hm
        rw [hm] at q11 hst2 hpl
        have hm64 : m ≤ 34 := by omega
        have HST := Lib.hid hst2
        have HDD := Lib.hid hd
        generalize x.1 = y at qb hxn ⊢
        clear hs hs' h11 h8 hB hst2 hm hpl hd hxl
        gi_wp2
        refine ⟨KeepsOthers.setCell _ _ _, trivial, ?_, (KeepsOthers.setCell _ _ _).same D _ HDD.out rfl⟩
        have hll : (pre ++ [x]).length = m + 1 := by rw [List.length_append, HM.out]; rfl
        rw [hll]
        exact HST.out
      case done2 =>
        rintro D2 zs V hD2 hys ⟨hs, hd⟩ hK2
        have hlen : zs.length = (slotsOf L).length := by rw [← vals_length, hys]
        rw [hlen, HOT.out] at hs
        have H7 := Lib.hid hs
        have HD1 := Lib.hid hd
        have HDB := Lib.hid hK2
        have HDW2 := Lib.hid hD2
        clear hs hd hK2 hD2 hlen hys
        obtain ⟨OB, hOB⟩ : ∃ OB : List Ob, OB = [blkOb W.heap.size 3 #[.int .i64 ((slotsOf L).length : Int)], blkOb (w1.heap.size + 1 + 1) 3 #[.int .i64 (k : Int)], blkOb (w1.heap.size + 1) 24 #[.pointer (some ⟨g, 0, none⟩)], blkOb w1.heap.size 25 #[.slice (some ⟨bi, 0, none⟩) n n], setOb g L, bvOb bi L, blkOb (w.heap.size + 1) 4 #[.bool false], blkOb w.heap.size 5 #[.int .u8 (n8 some_)]] := ⟨_, rfl⟩
        have HOB := Lib.hid hOB
        have H7 : Hid (Sep w.heap.size w V OB) := by show Sep _ _ _ _; rw [hOB]; exact H7.out
        clear hOB
        have CELLS : Hid (∀ X, Sep w.heap.size w X OB → X.cell? ⟨W.heap.size, 0, none⟩ = some (.int .i64 ((slotsOf L).length : Int)) ∧ X.cell? ⟨w1.heap.size + 1 + 1, 0, none⟩ = some (.int .i64 (k : Int)) ∧ X.cell? ⟨w1.heap.size, 0, none⟩ = some (.slice (some ⟨bi, 0, none⟩) n n) ∧ X.cell? ⟨w.heap.size, 0, none⟩ = some (.int .u8 (n8 some_)) ∧ X.cell? ⟨w.heap.size + 1, 0, none⟩ = some (.bool false) ∧ X.frozen? ⟨w.heap.size + 1, 0, none⟩ = false) := fun X h => by
          rw [HOB.out] at h
          have x1 : Blk X W.heap.size 3 #[.int .i64 ((slotsOf L).length : Int)] := h.get (.head _)
          have x2 : Blk X (w1.heap.size + 1 + 1) 3 #[.int .i64 (k : Int)] := h.get (.tail _ (.head _))
          have x3 : Blk X w1.heap.size 25 #[.slice (some ⟨bi, 0, none⟩) n n] := h.get (.tail _ (.tail _ (.tail _ (.head _))))
          have x4 : Blk X (w.heap.size + 1) 4 #[.bool false] := h.get (.tail _ (.tail _ (.tail _ (.tail _ (.tail _ (.tail _ (.head _)))))))
          have x5 : Blk X w.heap.size 5 #[.int .u8 (n8 some_)] := h.get (.tail _ (.tail _ (.tail _ (.tail _ (.tail _ (.tail _ (.tail _ (.head _))))))))
          exact ⟨x1.cell 0, x2.cell 0, x3.cell 0, x5.cell 0, x4.cell 0, x4.frozen 0⟩
        have CSL : Hid (∀ X, Sep w.heap.size w X OB → TwoDef D D2 X → Calls Tryd.prog 15 #[.slice (some ⟨bi, 0, none⟩) n n] X fun e X' => ∃ A' c', e = .returned (.slice A' (slotsOf L).length c') ∧ (Sep w.heap.size w X' OB ∧ (X'.cell? ⟨W.heap.size, 0, none⟩ = some (.int .i64 ((slotsOf L).length : Int)) ∧ X'.cell? ⟨w1.heap.size + 1 + 1, 0, none⟩ = some (.int .i64 (k : Int)) ∧ X'.cell? ⟨w1.heap.size, 0, none⟩ = some (.slice (some ⟨bi, 0, none⟩) n n) ∧ X'.cell? ⟨w.heap.size, 0, none⟩ = some (.int .u8 (n8 some_)) ∧ X'.cell? ⟨w.heap.size + 1, 0, none⟩ = some (.bool false) ∧ X'.frozen? ⟨w.heap.size + 1, 0, none⟩ = false)) ∧ Reads X' X'.heap.size 1 A' (slotsOf L).length (nats (slotsOf L)) ∧ TwoDef D D2 X') := fun X h htd => by
          have h' := h
          rw [HOB.out] at h'
          refine (sep_slots h (some ⟨bi, 0, none⟩) n n (by rw [← HL.out]; omega) (bv_reads (h'.get (.tail _ (.tail _ (.tail _ (.tail _ (.tail _ (.head _))))))) n HL.out) _ rfl).mono ?_
          rintro e X' ⟨A', c', h1, h2, h3, h4⟩
          exact ⟨A', c', h1, ⟨h2, CELLS.out X' h2⟩, h4, htd.below h3⟩
        have CSA : Hid (∀ X A' c', Sep w.heap.size w X OB → Reads X X.heap.size 1 A' (slotsOf L).length (nats (slotsOf L)) → TwoDef D D2 X → Calls Tryd.prog 14 #[.pointer (some ⟨g, 0, none⟩), .slice A' (slotsOf L).length c'] X fun e X' => e = .returned (.bool true) ∧ (Sep w.heap.size w X' OB ∧ (X'.cell? ⟨W.heap.size, 0, none⟩ = some (.int .i64 ((slotsOf L).length : Int)) ∧ X'.cell? ⟨w1.heap.size + 1 + 1, 0, none⟩ = some (.int .i64 (k : Int)) ∧ X'.cell? ⟨w1.heap.size, 0, none⟩ = some (.slice (some ⟨bi, 0, none⟩) n n) ∧ X'.cell? ⟨w.heap.size, 0, none⟩ = some (.int .u8 (n8 some_)) ∧ X'.cell? ⟨w.heap.size + 1, 0, none⟩ = some (.bool false) ∧ X'.frozen? ⟨w.heap.size + 1, 0, none⟩ = false)) ∧ TwoDef D D2 X') := fun X A' c' h hr htd => by
          have h' := h
          rw [HOB.out] at h'
          refine (sep_same h (show HasSet X g L from h'.get (.tail _ (.tail _ (.tail _ (.tail _ (.head _)))))) A' _ c' _ rfl hr).mono ?_
          rintro e X' ⟨h1, h2, h3⟩
          exact ⟨h1, ⟨h2, CELLS.out X' h2⟩, htd.below h3⟩
        have CWO : Hid (∀ X, Sep w.heap.size w X OB → TwoDef D D2 X → Calls Tryd.prog 12 #[] X fun e X' => e = .returned (.bool true) ∧ (Sep w.heap.size w X' OB ∧ (X'.cell? ⟨W.heap.size, 0, none⟩ = some (.int .i64 ((slotsOf L).length : Int)) ∧ X'.cell? ⟨w1.heap.size + 1 + 1, 0, none⟩ = some (.int .i64 (k : Int)) ∧ X'.cell? ⟨w1.heap.size, 0, none⟩ = some (.slice (some ⟨bi, 0, none⟩) n n) ∧ X'.cell? ⟨w.heap.size, 0, none⟩ = some (.int .u8 (n8 some_)) ∧ X'.cell? ⟨w.heap.size + 1, 0, none⟩ = some (.bool false) ∧ X'.frozen? ⟨w.heap.size + 1, 0, none⟩ = false)) ∧ TwoDef D D2 X') := fun X h htd => by
          refine (works_any X (h.tab HT.out hp)).mono ?_
          rintro e X' ⟨h1, h2⟩
          exact ⟨h1, ⟨h.below h2, CELLS.out X' (h.below h2)⟩, htd.below h2⟩
        obtain ⟨q1, q2, q3, q4, q5, q6⟩ := CELLS.out V H7.out
        have h7 := H7.out
        have htd0 : TwoDef D D2 V := ⟨HD1.out, HDB.out⟩
        have htd1 : TwoDef D D2 V.drew := ⟨HD1.out, HDB.out⟩
        have hkk := HKK.out
        have hmin : min (n8 some_) ((slotsOf L).length : Int) = (k : Int) := by rw [← hkk]; split <;> omega
        have hw64 : IntKind.i64.wrap (n8 some_) = n8 some_ := by rw [IntKind.wrap_i64]; omega
        have hmin2 : min ((slotsOf L).length : Int) (n8 some_) = (k : Int) := by rw [← hkk]; split <;> omega
        gi_wp2
        refine wpIn_wide.2 ?_
        go_region_held3 (fun X' => X'.cell? ⟨W.heap.size, 0, none⟩ = some (.int .i64 ((slotsOf L).length : Int)) ∧ X'.cell? ⟨w1.heap.size + 1 + 1, 0, none⟩ = some (.int .i64 (k : Int)) ∧ X'.cell? ⟨w1.heap.size, 0, none⟩ = some (.slice (some ⟨bi, 0, none⟩) n n) ∧ X'.cell? ⟨w.heap.size, 0, none⟩ = some (.int .u8 (n8 some_))) ((repeat' apply And.intro) <;> first | assumption | (refine (World.cell?_setCell_other _ _ _ _ (by simp <;> omega)).trans ?_; assumption) | go_keep)
          (first
            | (go_at_call 15; refine (CSL.out _ (by first | assumption | exact Sep.drew (by assumption)) (by assumption)).mono ?_; rintro e x4 ⟨A4, c4, rfl, ⟨hs4, k1, k2, k3, k4, k5, k6⟩, hr4, ht4⟩)
            | (go_at_call 14; refine (CSA.out _ _ _ (by first | assumption | exact Sep.drew (by assumption)) (by assumption) (by assumption)).mono ?_; rintro e x5 ⟨rfl, ⟨hs5, k1, k2, k3, k4, k5, k6⟩, ht5⟩)
            | (go_at_call 12; refine (CWO.out _ (by first | assumption | exact Sep.drew (by assumption)) (by assumption)).mono ?_; rintro e x6 ⟨rfl, ⟨hs6, k1, k2, k3, k4, k5, k6⟩, ht6⟩))
        have hcf : (x6.setCell ⟨w.heap.size + 1, 0, none⟩ (.bool true)).cell? ⟨w.heap.size + 1, 0, none⟩ = some (.bool true) := World.cell?_setCell_same' _ _ _ (by rw [k5]; rfl)
        have HCF := Lib.hid hcf
        have HBF : Hid (Below w.heap.size w (x6.setCell ⟨w.heap.size + 1, 0, none⟩ (.bool true))) := hs6.bel.setCell (p := ⟨w.heap.size + 1, 0, none⟩) (by simp) _
        have HDa : Hid ((x6.setCell ⟨w.heap.size + 1, 0, none⟩ (.bool true)).heap[D]? = some (.deferred (some []))) := (KeepsOthers.setCell _ _ _).same D _ ht6.1 rfl
        have HDb : Hid ((x6.setCell ⟨w.heap.size + 1, 0, none⟩ (.bool true)).heap[D2]? = some (.deferred (some []))) := (KeepsOthers.setCell _ _ _).same D2 _ ht6.2 rfl
        have hDD : D ≠ D2 := by have := HDW2.out; omega
        have hwD : w.heap.size ≤ D := by have := HDW.out; omega
        have hwD2 : w.heap.size ≤ D2 := by have := HDW2.out; omega
        clear hcf
        generalize x6.setCell ⟨w.heap.size + 1, 0, none⟩ (.bool true) = x7 at HCF HBF HDa HDb ⊢
        gi_wp2
        have HDc : Hid ((x7.putObj D2 (.deferred none)).heap[D]? = some (.deferred (some []))) := ((grownBy_putObj' x7 D2 (.deferred none)).block D (Array.getElem?_eq_some_iff.1 HDa.out).1 (fun e => hDD (Option.some.inj e))).trans HDa.out
        have hc1 := cell_kept HCF.out (grownBy_putObj' _ D2 (.deferred none)) (fun r e => by cases e; exact ⟨_, HDb.out, rfl⟩)
        have hc2 := cell_kept hc1 (grownBy_putObj' _ D (.deferred none)) (fun r e => by cases e; exact ⟨_, HDc.out, rfl⟩)
        have hb1 : Below w.heap.size w (x7.putObj D2 (.deferred none)) := HBF.out.trans (belowK_b (w := w) (Nat.le_refl _) _ D2 _ _ hwD2 HDb.out rfl rfl)
        have hb2 : Below w.heap.size w ((x7.putObj D2 (.deferred none)).putObj D (.deferred none)) := hb1.trans (belowK_b (w := w) (Nat.le_refl _) _ D _ _ hwD HDc.out rfl rfl)
        refine ⟨by simp, .inl ⟨_, _, rfl, run_takeDeferred HDb.out, by simp, .inl ⟨_, _, rfl, run_takeDeferred HDc.out, ?_⟩⟩⟩
        exact ⟨.bool true, by simp [results, Tryd.f7, go_sem, hc2], rfl, hb2⟩
      case stop2 =>
        rintro D2 c pre V hD2 _ hx _
        exact hx.elim
    case stop =>
      rintro D c pre W hD hpre ⟨rfl, k, hs, hke, hpl⟩ hK
      have hkk : (if ((slotsOf L).length : Int) < n8 some_ then ((slotsOf L).length : Int) else n8 some_) = (k : Int) := by
        have := hpre.length_le
        rw [vals_length] at this
        split <;> omega
      clear hpre hpl
      rw [HOS.out] at hs
      have H4 := Lib.hid hs
      have HD1 := Lib.hid hK
      have HDW := Lib.hid hD
      have HKK := Lib.hid hkk
      clear hs hK hD hkk
      gi_wp2
      obtain ⟨W2, hW2⟩ : ∃ W2 : World, W2 = W.alloc (.cells #[.int .i64 0] 3) := ⟨_, rfl⟩
      rw [← hW2]
      have hs2 : W2.heap.size = W.heap.size + 1 := by rw [hW2]; simp
      have hDlt : D < W.heap.size := (Array.getElem?_eq_some_iff.1 HD1.out).1
      have hW0W : w1.heap.size + 3 ≤ W.heap.size := by have := HDW.out; omega
      have H5 : Hid (Sep w.heap.size w W2 [blkOb W.heap.size 3 #[.int .i64 0], blkOb (w1.heap.size + 1 + 1) 3 #[.int .i64 (k : Int)], blkOb (w1.heap.size + 1) 24 #[.pointer (some ⟨g, 0, none⟩)], blkOb w1.heap.size 25 #[.slice (some ⟨bi, 0, none⟩) n n], setOb g L, bvOb bi L, blkOb (w.heap.size + 1) 4 #[.bool false], blkOb w.heap.size 5 #[.int .u8 (n8 some_)]]) := by rw [hW2]; exact H4.out.newBlk W.heap.size _ _ rfl
      have HD2 : Hid (W2.heap[D]? = some (.deferred (some []))) := by rw [hW2]; exact (Below.heap_alloc W _ D hDlt).trans HD1.out
      clear hW2
      have hset : HasSet W2 g L := H5.out.get (.tail _ (.tail _ (.tail _ (.tail _ (.head _)))))
      have hbox : Blk W2 (w1.heap.size + 1) 24 #[.pointer (some ⟨g, 0, none⟩)] := H5.out.get (.tail _ (.tail _ (.head _)))
      obtain ⟨OT, hOT⟩ : ∃ OT : Nat → List Ob, OT = fun (m : Nat) => [blkOb W.heap.size 3 #[.int .i64 (m : Int)], blkOb (w1.heap.size + 1 + 1) 3 #[.int .i64 (k : Int)], blkOb (w1.heap.size + 1) 24 #[.pointer (some ⟨g, 0, none⟩)], blkOb w1.heap.size 25 #[.slice (some ⟨bi, 0, none⟩) n n], setOb g L, bvOb bi L, blkOb (w.heap.size + 1) 4 #[.bool false], blkOb w.heap.size 5 #[.int .u8 (n8 some_)]] := ⟨_, rfl⟩
      have HOT := Lib.hid hOT
      have HC2 : Hid (∀ m, AllCells (OT m)) := fun m => by
        rw [hOT]
        exact AllCells.cons (cellOb_blk _ _ _) (AllCells.cons (cellOb_blk _ _ _) (AllCells.cons (cellOb_blk _ _ _) (AllCells.cons (cellOb_blk _ _ _) (AllCells.cons (cellOb_set _ _) (AllCells.cons (cellOb_bv _ _) (AllCells.cons (cellOb_blk _ _ _) (AllCells.cons (cellOb_blk _ _ _) AllCells.nil)))))))
      have H6 : Hid (Sep w.heap.size w W2 (OT 0)) := by show Sep _ _ _ _; rw [hOT]; exact H5.out
      have hst := all_stops_set 4 (by omega) (w1.heap.size + 1) g L (fun _ _ => True) W2 (by omega) (hbox.cell 0) hset
      clear hOT H5 hset hbox
      refine wpIn_rangeFunc_ownF rfl (by omega) (gf := 46) (lb := #[.pointer (some ⟨w1.heap.size + 1, 0, none⟩)]) rfl trivial (enters_of Tryd.func46 (by kernel_rfl) rfl)
        hst (fun _ _ => trivial) (fun _ _ _ _ _ _ _ _ => trivial) (Below.refl _ _) (fun _ => rfl)
        (fun pre V => Sep w.heap.size w V (OT pre.length) ∧ V.heap[D]? = some (.deferred (some [])))
        (fun c pre V => False)
        (OwnFrom.and (ownFrom_sep (os := fun (s : List (SlotIn L)) => OT s.length) (by rw [hs2]; omega) (fun s => HC2.out _)) (fun s A B row hs hg hr => (hg.block D (Array.getElem?_eq_some_iff.1 hs).1 (fun e => by have := (hr _ e.symm).1; omega)).trans hs))
        (fun c s A B row hs hg hr => hs)
        ⟨H6.out, HD2.out⟩
        (fun x => { tmps := #[.int .u8 (n8 sz), .slice A1 n1 c1, .int .u8 (n8 some_), undef, undef, .pointer (some ⟨w.heap.size, 0, none⟩), .pointer (some ⟨w.heap.size + 1, 0, none⟩), .pointer (some ⟨g, 0, none⟩), .pointer (some ⟨w1.heap.size, 0, none⟩), .func (.func 46) #[] #[.pointer (some ⟨w1.heap.size + 1, 0, none⟩)], .pointer (some ⟨w1.heap.size + 1 + 1, 0, none⟩), .pointer (some ⟨W.heap.size, 0, none⟩), .int .i64 (x.1 : Int), .slice A1 n1 c1, .int .i64 (n1 : Int), .bool false, undef, .tuple #[.pointer (some ⟨g, 0, none⟩), .slice (some ⟨bi, 0, none⟩) n n], .int .u8 (n8 sz), .slice A1 n1 c1, .tuple #[.pointer (some ⟨g, 0, none⟩), .slice (some ⟨bi, 0, none⟩) n n], .pointer (some ⟨g, 0, none⟩), .slice (some ⟨bi, 0, none⟩) n n, .pointer (some ⟨g, 0, none⟩), .bool false, .pointer (some ⟨g, 0, none⟩), .func (.func 46) #[] #[.pointer (some ⟨w1.heap.size + 1, 0, none⟩)], .func (.func 46) #[] #[.pointer (some ⟨w1.heap.size + 1, 0, none⟩)], undef, undef, undef, undef, undef, undef, undef, .func (.func 46) #[] #[.pointer (some ⟨w1.heap.size + 1, 0, none⟩)], .int .i64 (x.1 : Int), undef, undef, undef, undef, undef, undef, undef, undef, undef, undef, undef, undef, undef, undef, undef, undef, undef, undef, undef, undef, undef, undef, undef, undef, undef, undef, undef, undef, undef, undef, undef], defers := [] }) ?assign2 ?body2 ?done2 ?stop2
      case assign2 =>
        intro l x V K hK
        gi_wp2
        exact hK
      case body2 =>
        rintro l pre x V ⟨hs, hd⟩ hpl
        have hs' := hs
        rw [HOT.out] at hs'
        have h11 : Blk V W.heap.size 3 #[.int .i64 (pre.length : Int)] := hs'.get (.head _)
        have h8 : Blk V w1.heap.size 25 #[.slice (some ⟨bi, 0, none⟩) n n] := hs'.get (.tail _ (.tail _ (.tail _ (.head _))))
        have hB : Blk V bi 4 (bvals L).toArray := hs'.get (.tail _ (.tail _ (.tail _ (.tail _ (.tail _ (.head _))))))
        have q11 : V.cell? ⟨W.heap.size, 0, none⟩ = some (.int .i64 (pre.length : Int)) := h11.cell 0
        have f11 := h11.frozen 0
        have q8 : V.cell? ⟨w1.heap.size, 0, none⟩ = some (.slice (some ⟨bi, 0, none⟩) n n) := h8.cell 0
        have hxl := inL_lt x.2
        have qb : V.cell? ⟨bi, x.1, none⟩ = some (.bool true) := by rw [hB.cell, List.getElem?_toArray, bvals_at hxl, x.2]
        have hxn : x.1 < n := by rw [HL.out]; exact hxl
        have hst2 : Sep w.heap.size w (V.setCell ⟨W.heap.size, 0, none⟩ (.int .i64 ((pre.length + 1 : Nat) : Int))) (OT (pre.length + 1)) := by
          rw [HOT.out]
          exact hs'.setBlk 0 _
        obtain ⟨m, hm⟩ : ∃ m, pre.length = m := ⟨_, rfl⟩
        have HM := Lib.hid hm
        rw [hm] at q11 hst2 hpl
        have hm64 : m ≤ 34 := by omega
        have HST := Lib.hid hst2
        have HDD := Lib.hid hd
        generalize x.1 = y at qb hxn ⊢
        clear hs hs' h11 h8 hB hst2 hm hpl hd hxl
        gi_wp2
        refine ⟨KeepsOthers.setCell _ _ _, trivial, ?_, (KeepsOthers.setCell _ _ _).same D _ HDD.out rfl⟩
        have hll : (pre ++ [x]).length = m + 1 := by rw [List.length_append, HM.out]; rfl
        rw [hll]
        exact HST.out
      case done2 =>
        rintro D2 zs V hD2 hys ⟨hs, hd⟩ hK2
        have hlen : zs.length = (slotsOf L).length := by rw [← vals_length, hys]
        rw [hlen, HOT.out] at hs
        have H7 := Lib.hid hs
        have HD1 := Lib.hid hd
        have HDB := Lib.hid hK2
        have HDW2 := Lib.hid hD2
        clear hs hd hK2 hD2 hlen hys
        obtain ⟨OB, hOB⟩ : ∃ OB : List Ob, OB = [blkOb W.heap.size 3 #[.int .i64 ((slotsOf L).length : Int)], blkOb (w1.heap.size + 1 + 1) 3 #[.int .i64 (k : Int)], blkOb (w1.heap.size + 1) 24 #[.pointer (some ⟨g, 0, none⟩)], blkOb w1.heap.size 25 #[.slice (some ⟨bi, 0, none⟩) n n], setOb g L, bvOb bi L, blkOb (w.heap.size + 1) 4 #[.bool false], blkOb w.heap.size 5 #[.int .u8 (n8 some_)]] := ⟨_, rfl⟩
        have HOB := Lib.hid hOB
        have H7 : Hid (Sep w.heap.size w V OB) := by show Sep _ _ _ _; rw [hOB]; exact H7.out
        clear hOB
        have CELLS : Hid (∀ X, Sep w.heap.size w X OB → X.cell? ⟨W.heap.size, 0, none⟩ = some (.int .i64 ((slotsOf L).length : Int)) ∧ X.cell? ⟨w1.heap.size + 1 + 1, 0, none⟩ = some (.int .i64 (k : Int)) ∧ X.cell? ⟨w1.heap.size, 0, none⟩ = some (.slice (some ⟨bi, 0, none⟩) n n) ∧ X.cell? ⟨w.heap.size, 0, none⟩ = some (.int .u8 (n8 some_)) ∧ X.cell? ⟨w.heap.size + 1, 0, none⟩ = some (.bool false) ∧ X.frozen? ⟨w.heap.size + 1, 0, none⟩ = false) := fun X h => by
          rw [HOB.out] at h
          have x1 : Blk X W.heap.size 3 #[.int .i64 ((slotsOf L).length : Int)] := h.get (.head _)
          have x2 : Blk X (w1.heap.size + 1 + 1) 3 #[.int .i64 (k : Int)] := h.get (.tail _ (.head _))
          have x3 : Blk X w1.heap.size 25 #[.slice (some ⟨bi, 0, none⟩) n n] := h.get (.tail _ (.tail _ (.tail _ (.head _))))
          have x4 : Blk X (w.heap.size + 1) 4 #[.bool false] := h.get (.tail _ (.tail _ (.tail _ (.tail _ (.tail _ (.tail _ (.head _)))))))
          have x5 : Blk X w.heap.size 5 #[.int .u8 (n8 some_)] := h.get (.tail _ (.tail _ (.tail _ (.tail _ (.tail _ (.tail _ (.tail _ (.head _))))))))
          exact ⟨x1.cell 0, x2.cell 0, x3.cell 0, x5.cell 0, x4.cell 0, x4.frozen 0⟩
        have CSL : Hid (∀ X, Sep w.heap.size w X OB → TwoDef D D2 X → Calls Tryd.prog 15 #[.slice (some ⟨bi, 0, none⟩) n n] X fun e X' => ∃ A' c', e = .returned (.slice A' (slotsOf L).length c') ∧ (Sep w.heap.size w X' OB ∧ (X'.cell? ⟨W.heap.size, 0, none⟩ = some (.int .i64 ((slotsOf L).length : Int)) ∧ X'.cell? ⟨w1.heap.size + 1 + 1, 0, none⟩ = some (.int .i64 (k : Int)) ∧ X'.cell? ⟨w1.heap.size, 0, none⟩ = some (.slice (some ⟨bi, 0, none⟩) n n) ∧ X'.cell? ⟨w.heap.size, 0, none⟩ = some (.int .u8 (n8 some_)) ∧ X'.cell? ⟨w.heap.size + 1, 0, none⟩ = some (.bool false) ∧ X'.frozen? ⟨w.heap.size + 1, 0, none⟩ = false)) ∧ Reads X' X'.heap.size 1 A' (slotsOf L).length (nats (slotsOf L)) ∧ TwoDef D D2 X') := fun X h htd => by
          have h' := h
          rw [HOB.out] at h'
          refine (sep_slots h (some ⟨bi, 0, none⟩) n n (by rw [← HL.out]; omega) (bv_reads (h'.get (.tail _ (.tail _ (.tail _ (.tail _ (.tail _ (.head _))))))) n HL.out) _ rfl).mono ?_
          rintro e X' ⟨A', c', h1, h2, h3, h4⟩
          exact ⟨A', c', h1, ⟨h2, CELLS.out X' h2⟩, h4, htd.below h3⟩
        have CSA : Hid (∀ X A' c', Sep w.heap.size w X OB → Reads X X.heap.size 1 A' (slotsOf L).length (nats (slotsOf L)) → TwoDef D D2 X → Calls Tryd.prog 14 #[.pointer (some ⟨g, 0, none⟩), .slice A' (slotsOf L).length c'] X fun e X' => e = .returned (.bool true) ∧ (Sep w.heap.size w X' OB ∧ (X'.cell? ⟨W.heap.size, 0, none⟩ = some (.int .i64 ((slotsOf L).length : Int)) ∧ X'.cell? ⟨w1.heap.size + 1 + 1, 0, none⟩ = some (.int .i64 (k : Int)) ∧ X'.cell? ⟨w1.heap.size, 0, none⟩ = some (.slice (some ⟨bi, 0, none⟩) n n) ∧ X'.cell? ⟨w.heap.size, 0, none⟩ = some (.int .u8 (n8 some_)) ∧ X'.cell? ⟨w.heap.size + 1, 0, none⟩ = some (.bool false) ∧ X'.frozen? ⟨w.heap.size + 1, 0, none⟩ = false)) ∧ TwoDef D D2 X') := fun X A' c' h hr htd => by
          have h' := h
          rw [HOB.out] at h'
          refine (sep_same h (show HasSet X g L from h'.get (.tail _ (.tail _ (.tail _ (.tail _ (.head _)))))) A' _ c' _ rfl hr).mono ?_
          rintro e X' ⟨h1, h2, h3⟩
          exact ⟨h1, ⟨h2, CELLS.out X' h2⟩, htd.below h3⟩
        have CWO : Hid (∀ X, Sep w.heap.size w X OB → TwoDef D D2 X → Calls Tryd.prog 12 #[] X fun e X' => e = .returned (.bool true) ∧ (Sep w.heap.size w X' OB ∧ (X'.cell? ⟨W.heap.size, 0, none⟩ = some (.int .i64 ((slotsOf L).length : Int)) ∧ X'.cell? ⟨w1.heap.size + 1 + 1, 0, none⟩ = some (.int .i64 (k : Int)) ∧ X'.cell? ⟨w1.heap.size, 0, none⟩ = some (.slice (some ⟨bi, 0, none⟩) n n) ∧ X'.cell? ⟨w.heap.size, 0, none⟩ = some (.int .u8 (n8 some_)) ∧ X'.cell? ⟨w.heap.size + 1, 0, none⟩ = some (.bool false) ∧ X'.frozen? ⟨w.heap.size + 1, 0, none⟩ = false)) ∧ TwoDef D D2 X') := fun X h htd => by
          refine (works_any X (h.tab HT.out hp)).mono ?_
          rintro e X' ⟨h1, h2⟩
          exact ⟨h1, ⟨h.below h2, CELLS.out X' (h.below h2)⟩, htd.below h2⟩
        obtain ⟨q1, q2, q3, q4, q5, q6⟩ := CELLS.out V H7.out
        have h7 := H7.out
        have htd0 : TwoDef D D2 V := ⟨HD1.out, HDB.out⟩
        have htd1 : TwoDef D D2 V.drew := ⟨HD1.out, HDB.out⟩
        have hkk := HKK.out
        have hmin : min (n8 some_) ((slotsOf L).length : Int) = (k : Int) := by rw [← hkk]; split <;> omega
        have hw64 : IntKind.i64.wrap (n8 some_) = n8 some_ := by rw [IntKind.wrap_i64]; omega
        have hmin2 : min ((slotsOf L).length : Int) (n8 some_) = (k : Int) := by rw [← hkk]; split <;> omega
        gi_wp2
        refine wpIn_wide.2 ?_
        go_region_held3 (fun X' => X'.cell? ⟨W.heap.size, 0, none⟩ = some (.int .i64 ((slotsOf L).length : Int)) ∧ X'.cell? ⟨w1.heap.size + 1 + 1, 0, none⟩ = some (.int .i64 (k : Int)) ∧ X'.cell? ⟨w1.heap.size, 0, none⟩ = some (.slice (some ⟨bi, 0, none⟩) n n) ∧ X'.cell? ⟨w.heap.size, 0, none⟩ = some (.int .u8 (n8 some_))) ((repeat' apply And.intro) <;> first | assumption | (refine (World.cell?_setCell_other _ _ _ _ (by simp <;> omega)).trans ?_; assumption) | go_keep)
          (first
            | (go_at_call 15; refine (CSL.out _ (by first | assumption | exact Sep.drew (by assumption)) (by assumption)).mono ?_; rintro e x4 ⟨A4, c4, rfl, ⟨hs4, k1, k2, k3, k4, k5, k6⟩, hr4, ht4⟩)
            | (go_at_call 14; refine (CSA.out _ _ _ (by first | assumption | exact Sep.drew (by assumption)) (by assumption) (by assumption)).mono ?_; rintro e x5 ⟨rfl, ⟨hs5, k1, k2, k3, k4, k5, k6⟩, ht5⟩)
            | (go_at_call 12; refine (CWO.out _ (by first | assumption | exact Sep.drew (by assumption)) (by assumption)).mono ?_; rintro e x6 ⟨rfl, ⟨hs6, k1, k2, k3, k4, k5, k6⟩, ht6⟩))
        have hcf : (x6.setCell ⟨w.heap.size + 1, 0, none⟩ (.bool true)).cell? ⟨w.heap.size + 1, 0, none⟩ = some (.bool true) := World.cell?_setCell_same' _ _ _ (by rw [k5]; rfl)
        have HCF := Lib.hid hcf
        have HBF : Hid (Below w.heap.size w (x6.setCell ⟨w.heap.size + 1, 0, none⟩ (.bool true))) := hs6.bel.setCell (p := ⟨w.heap.size + 1, 0, none⟩) (by simp) _
        have HDa : Hid ((x6.setCell ⟨w.heap.size + 1, 0, none⟩ (.bool true)).heap[D]? = some (.deferred (some []))) := (KeepsOthers.setCell _ _ _).same D _ ht6.1 rfl
        have HDb : Hid ((x6.setCell ⟨w.heap.size + 1, 0, none⟩ (.bool true)).heap[D2]? = some (.deferred (some []))) := (KeepsOthers.setCell _ _ _).same D2 _ ht6.2 rfl
        have hDD : D ≠ D2 := by have := HDW2.out; omega
        have hwD : w.heap.size ≤ D := by have := HDW.out; omega
        have hwD2 : w.heap.size ≤ D2 := by have := HDW2.out; omega
        clear hcf
        generalize x6.setCell ⟨w.heap.size + 1, 0, none⟩ (.bool true) = x7 at HCF HBF HDa HDb ⊢
        gi_wp2
        have HDc : Hid ((x7.putObj D2 (.deferred none)).heap[D]? = some (.deferred (some []))) := ((grownBy_putObj' x7 D2 (.deferred none)).block D (Array.getElem?_eq_some_iff.1 HDa.out).1 (fun e => hDD (Option.some.inj e))).trans HDa.out
        have hc1 := cell_kept HCF.out (grownBy_putObj' _ D2 (.deferred none)) (fun r e => by cases e; exact ⟨_, HDb.out, rfl⟩)
        have hc2 := cell_kept hc1 (grownBy_putObj' _ D (.deferred none)) (fun r e => by cases e; exact ⟨_, HDc.out, rfl⟩)
        have hb1 : Below w.heap.size w (x7.putObj D2 (.deferred none)) := HBF.out.trans (belowK_b (w := w) (Nat.le_refl _) _ D2 _ _ hwD2 HDb.out rfl rfl)
        have hb2 : Below w.heap.size w ((x7.putObj D2 (.deferred none)).putObj D (.deferred none)) := hb1.trans (belowK_b (w := w) (Nat.le_refl _) _ D _ _ hwD HDc.out rfl rfl)
        refine ⟨by simp, .inl ⟨_, _, rfl, run_takeDeferred HDb.out, by simp, .inl ⟨_, _, rfl, run_takeDeferred HDc.out, ?_⟩⟩⟩
        exact ⟨.bool true, by simp [results, Tryd.f7, go_sem, hc2], rfl, hb2⟩
      case stop2 =>
        rintro D2 c pre V hD2 _ hx _
        exact hx.elim
theorem SlotsetLoops_walk (v0 v1 v2 : Value) (w : World) (ht : TabIn w) (h0 : ArgIn Tryd.prog w 5 v0) (h1 : ArgIn Tryd.prog w 22 v1) (h2 : ArgIn Tryd.prog w 5 v2) :
    Calls Tryd.prog 7 #[v0, v1, v2] w fun e w' => e = .returned (.bool true) ∧ Below w.heap.size w w' := by
  obtain ⟨n, rfl, w2⟩ := h0.int Tryd.underlying5
  obtain ⟨b, rfl⟩ := u8_of_wf w2
  obtain ⟨A1, n1, c1, l1, rfl, _, hm1, hr1⟩ := h1.bytes
  obtain ⟨m, rfl, w3⟩ := h2.int Tryd.underlying5
  obtain ⟨c, rfl⟩ := u8_of_wf w3
  exact SlotsetLoops_w b c A1 n1 c1 l1 w ht hr1 hm1
end Go.Proofs.YthmkaefpgcjlnaaDoor
