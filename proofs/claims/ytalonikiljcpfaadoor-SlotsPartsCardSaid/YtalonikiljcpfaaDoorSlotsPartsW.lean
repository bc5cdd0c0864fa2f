/-
  The walk of the law SlotsParts: it returns true and writes nothing that was there. Condition: the variables hold what their texts list.
-/
import Derived.Test.YtalonikiljcpfaaDoorTabLoop
import Derived.Test.YtalonikiljcpfaaDoorSlotLaid
import Derived.Test.YtalonikiljcpfaaDoorTabPlain
import Derived.Test.YtalonikiljcpfaaDoorMarks
import Derived.Sort.CutIn
import Derived.Deep.RegionHeld3
namespace Go.Proofs.YtalonikiljcpfaaDoor
open Go.RowKit Go.Shelf
set_option linter.unusedVariables false
attribute [local go_sem] Oper.semAt_some
set_option maxHeartbeats 16000000 in
set_option maxRecDepth 100000 in
theorem SlotsParts_w (a b : BitVec 8) (A : Option Addr) (m c : Nat) (ts : Nat → Turn2) (st : Int) (w : World) (hl : LaidIn w) (hr : TurnsAt w w.heap.size A m ts) (hn : m ≤ c) (hc : c ≤ maxLen) :
    Calls Tryd.prog 8 #[.int .u8 (n8 a), .int .u8 (n8 b), .slice A m c, .int .i64 st] w fun e w' => e = .returned (.bool true) ∧ Below w.heap.size w w' := by
  refine (callsIn_wide (n := 5)).1 ?_
  have HR := Lib.hid hr
  have HL := Lib.hid hl
  have hB := hl.big
  unfold maxLen at hc
  clear hr hl
  by_cases hm : 200 < m
  · refine callsIn_of_wp_marks Tryd.func8 rfl trivial ?_ rfl
    simp only [Tryd.ntmps8, List.size_toArray, List.length_cons, List.length_nil, Nat.reduceAdd, Nat.reduceSub, Array.replicate_succ, Array.replicate_zero, List.push_toArray, List.append_toArray, List.nil_append, List.cons_append]
    have hs8 : Sep w.heap.size w (w.alloc (.cells #[.bool false] 4)) [blkOb w.heap.size 4 #[.bool false]] := (Sep.start w).newBlk w.heap.size _ _ rfl
    obtain ⟨b8, hb8⟩ : ∃ b8, b8 = w.heap.size := ⟨_, rfl⟩
    obtain ⟨W8, hW8⟩ : ∃ W8 : World, W8 = w.alloc (.cells #[.bool false] 4) := ⟨_, rfl⟩
    rw [← hb8, ← hW8] at hs8
    have HS8 : Hid (Sep w.heap.size w W8 [blkOb b8 4 #[.bool false]]) := by rw [← hb8]; exact hs8
    clear hs8
    gi_wp2_with fail
    rw [← hb8, ← hW8]
    clear hW8 hb8
    refine ⟨trivial, ?_⟩
    refine (callsIn_wide.2 (works_any _ (HS8.out.laid HL.out hB))).mono ?_
    rintro e w9 ⟨rfl, hb⟩
    have H9 := Lib.hid (HS8.out.below hb)
    have hbk : Blk w9 b8 4 #[.bool false] := H9.out.get (.head _)
    have q8 : w9.cell? ⟨b8, 0, none⟩ = some (.bool false) := hbk.cell 0
    have f8 := hbk.frozen 0
    clear hb hbk
    gi_wp2_with fail
    have hz := H9.out.setBlk 0 (.bool true)
    have hbk : Blk _ b8 4 #[.bool true] := hz.get (.head _)
    have hcf := hbk.cell 0
    exact ⟨.bool true, by simp [results, Tryd.f8, go_sem, hcf], rfl, hz.bel⟩
  refine callsIn_of_wp_marks Tryd.func8 rfl trivial ?_ rfl
  simp only [Tryd.ntmps8, List.size_toArray, List.length_cons, List.length_nil, Nat.reduceAdd, Nat.reduceSub, Array.replicate_succ, Array.replicate_zero, List.push_toArray, List.append_toArray, List.nil_append, List.cons_append]
  have hs8 : Sep w.heap.size w (w.alloc (.cells #[.bool false] 4)) [blkOb w.heap.size 4 #[.bool false]] := (Sep.start w).newBlk w.heap.size _ _ rfl
  obtain ⟨b8, hb8⟩ : ∃ b8, b8 = w.heap.size := ⟨_, rfl⟩
  obtain ⟨W8, hW8⟩ : ∃ W8 : World, W8 = w.alloc (.cells #[.bool false] 4) := ⟨_, rfl⟩
  rw [← hb8, ← hW8] at hs8
  have HS8 : Hid (Sep w.heap.size w W8 [blkOb b8 4 #[.bool false]]) := by rw [← hb8]; exact hs8
  clear hs8
  gi_wp2_with fail
  rw [← hb8, ← hW8]
  clear hW8 hb8
  refine ⟨trivial, ?_⟩
  refine (callsIn_wide.2 (begin_any HS8.out a b)).mono ?_
  rintro e w1 ⟨g, p, rfl, hs⟩
  obtain ⟨n, hn⟩ : ∃ n, a.toNat % 32 + 1 = n := ⟨_, rfl⟩
  obtain ⟨k, hk⟩ : ∃ k, b.toNat % (a.toNat % 32 + 2) = k := ⟨_, rfl⟩
  have hn1 : 1 ≤ n := by omega
  have hn32 : n ≤ 32 := by omega
  have hkn : k ≤ n := by have := Nat.mod_lt b.toNat (show 0 < a.toNat % 32 + 2 by omega); omega
  rw [hn, hk] at hs ⊢
  have HT0 : Hid ((List.replicate n 0).length = n) := List.length_replicate
  generalize List.replicate n 0 = T0 at hs HT0
  obtain ⟨b9, hb9⟩ : ∃ b9, b9 = w1.heap.size := ⟨_, rfl⟩
  obtain ⟨b10, hb10⟩ : ∃ b10, b10 = w1.heap.size + 1 := ⟨_, rfl⟩
  have hs := (hs.newBlk b9 24 #[.pointer (some ⟨g, 0, none⟩)] hb9).newBlk b10 3 #[.int .i64 (n : Int)] (by rw [World.size_alloc]; exact hb10)
  obtain ⟨W2, hW2⟩ : ∃ W2 : World, W2 = (w1.alloc (.cells #[.pointer (some ⟨g, 0, none⟩)] 24)).alloc (.cells #[.int .i64 (n : Int)] 3) := ⟨_, rfl⟩
  rw [← hW2] at hs
  have HS2 : Hid (Sep w.heap.size w W2 (tabOb g p k T0 :: [blkOb b10 3 #[.int .i64 (n : Int)], blkOb b9 24 #[.pointer (some ⟨g, 0, none⟩)], blkOb b8 4 #[.bool false]])) := hs.perm (List.perm_middle (l₁ := [_, _]))
  have hbk9 : Blk W2 b9 24 #[.pointer (some ⟨g, 0, none⟩)] := hs.get (.tail _ (.head _))
  have q9 := hbk9.cell 0
  clear hs hn hk HS8
  rw [hW2, hb9] at q9
  gi_wp2_with fail
  rw [← hW2, ← hb10, ← hb9]
  clear q9 hbk9 hW2
  obtain ⟨OS, hOS⟩ : ∃ OS : List Ob, OS = [blkOb b10 3 #[.int .i64 (n : Int)], blkOb b9 24 #[.pointer (some ⟨g, 0, none⟩)], blkOb b8 4 #[.bool false]] := ⟨_, rfl⟩
  have HS2 : Hid (Sep w.heap.size w W2 (tabOb g p k T0 :: OS)) := by show Sep _ _ _ _; rw [hOS]; exact HS2.out
  have HOS := Lib.hid hOS
  have HCE : Hid (∀ X T, Sep w.heap.size w X (tabOb g p k T :: OS) → X.cell? ⟨b9, 0, none⟩ = some (.pointer (some ⟨g, 0, none⟩)) ∧ X.cell? ⟨b10, 0, none⟩ = some (.int .i64 (n : Int))) := fun X T h => by
    rw [hOS] at h
    have h9 : Blk X b9 24 #[.pointer (some ⟨g, 0, none⟩)] := h.get (.tail _ (.tail _ (.head _)))
    have h10 : Blk X b10 3 #[.int .i64 (n : Int)] := h.get (.tail _ (.head _))
    exact ⟨h9.cell 0, h10.cell 0⟩
  clear hOS hb9 hb10
  gi_loopg [12] m (fun q v12 wr => ∃ (j : Nat) (T : List Nat), j + q = m ∧ v12 = .int .i64 (j : Int) ∧ T.length = n ∧ Sep w.heap.size w wr (tabOb g p k T :: OS))
  case atStart => exact ⟨0, T0, by omega, rfl, HT0.out, HS2.out⟩
  case round =>
    obtain ⟨j, T, hj, rfl, hT, hs⟩ := hrel
    have HJ := Lib.hid hj
    have hj' : j ≤ m := by omega
    have HS := Lib.hid hs
    have HTL := Lib.hid hT
    clear hj hs hT HS2 HT0
    by_cases hlt : j < m
    · obtain ⟨ad, ht⟩ := HR.out.below HS.out.bel j hlt
      obtain rfl := ht.a
      have HTT : Hid (∀ W, Below w.heap.size w W → W.cell? (ad.add (j * 2)) = some (.int .u8 (n8 (ts j).a)) ∧ W.cell? ⟨(ad.add (j * 2)).block, (ad.add (j * 2)).off + 1, none⟩ = some (.int .u8 (n8 (ts j).s))) := fun W hW => by
        obtain ⟨ad', ht'⟩ := HR.out.below hW j hlt
        have := ht'.a
        injection this with this
        subst this
        exact ⟨ht'.c0, ht'.c1⟩
      have HDO : Hid (∀ X, Sep w.heap.size w X (tabOb g p k T :: OS) → Calls Tryd.prog 14 #[.pointer (some ⟨g, 0, none⟩), .agg #[.int .u8 (n8 (ts j).a), .int .u8 (n8 (ts j).s)], .int .i64 (n : Int)] X fun e w' => e = .returned (.tuple #[.int .i64 (doV T k (ts j).a (ts j).s : Int), .int .i64 (doE T k (ts j).a (ts j).s)]) ∧ Sep w.heap.size w w' (tabOb g p k (doT T k (ts j).a (ts j).s) :: OS)) := fun X hX => sep_do hX HL.out hB (ts j).a (ts j).s n HTL.out
      have HTL2 : Hid ((doT T k (ts j).a (ts j).s).length = n) := (doT_length _ _ _ _).trans HTL.out
      generalize doT T k (ts j).a (ts j).s = T' at HDO HTL2
      obtain ⟨q9, q10⟩ := HCE.out _ _ HS.out
      obtain ⟨c0, c1⟩ := HTT.out _ HS.out.bel
      have hs : Sep w.heap.size w wr.drew (tabOb g p k T :: OS) := HS.out.drew
      clear ht
      gi_wp2_with fail
      refine wpIn_wide.2 ?_
      go_region_held3 (fun X => X.cell? ⟨b9, 0, none⟩ = some (.pointer (some ⟨g, 0, none⟩)) ∧ X.cell? ⟨b10, 0, none⟩ = some (.int .i64 (n : Int)) ∧ X.cell? (ad.add (j * 2)) = some (.int .u8 (n8 (ts j).a)) ∧ X.cell? ⟨(ad.add (j * 2)).block, (ad.add (j * 2)).off + 1, none⟩ = some (.int .u8 (n8 (ts j).s))) ((repeat' apply And.intro) <;> first | assumption | go_keep)
        (first
          | (go_at_call 14; refine (HDO.out _ (by assumption)).mono ?_; rintro e w5 ⟨rfl, hs5⟩
             obtain ⟨e9, e10⟩ := HCE.out _ _ hs5
             obtain ⟨ec0, ec1⟩ := HTT.out _ hs5.bel))
      all_goals
        have HS5 := Lib.hid hs5
        clear hs5 e9 e10 ec0 ec1
        gi_wp2_with fail
        gi_roundg (gk - 1)
        case measure => have := HJ.out; omega
        case rel => exact ⟨j + 1, T', by have := HJ.out; omega, by go_num, HTL2.out, HS5.out⟩
    · obtain ⟨q9, q10⟩ := HCE.out _ _ HS.out
      have hmk := make_bools n (by omega)
      gi_wp2_with fail
      have h := HS.out
      rw [HOS.out] at h
      obtain ⟨gb, hgb⟩ : ∃ gb, gb = wr.heap.size := ⟨_, rfl⟩
      obtain ⟨b13, hb13⟩ : ∃ b13, b13 = wr.heap.size + 1 := ⟨_, rfl⟩
      obtain ⟨b14, hb14⟩ : ∃ b14, b14 = wr.heap.size + 1 + 1 := ⟨_, rfl⟩
      obtain ⟨b15, hb15⟩ : ∃ b15, b15 = wr.heap.size + 1 + 1 + 1 := ⟨_, rfl⟩
      have h2 := (((h.newBlk gb 4 (bvals (List.replicate n false)).toArray hgb).newBlk b13 53 #[.slice (some ⟨gb, 0, none⟩) n n] (by simp; omega)).newBlk b14 3 #[.int .i64 0] (by simp; omega)).newBlk b15 3 #[.int .i64 0] (by simp; omega)
      obtain ⟨W0, hW0⟩ : ∃ W0 : World, W0 = (((wr.alloc (.cells (bvals (List.replicate n false)).toArray 4)).alloc (.cells #[.slice (some ⟨gb, 0, none⟩) n n] 53)).alloc (.cells #[.int .i64 0] 3)).alloc (.cells #[.int .i64 0] 3) := ⟨_, rfl⟩
      rw [← hW0, seenA_zero T n HTL.out] at h2
      rw [← hb15, ← hb14, ← hb13, ← hgb, ← hW0]
      obtain ⟨OB, hOB⟩ : ∃ OB : Nat → Nat → List Ob, OB = fun (b15 s : Nat) => [blkOb b15 3 #[.int .i64 (s : Int)], blkOb b14 3 #[.int .i64 (cntTo T s : Int)], blkOb b13 53 #[.slice (some ⟨gb, 0, none⟩) n n], blkOb gb 4 (seenA T s []), tabOb g p k T, blkOb b10 3 #[.int .i64 (n : Int)], blkOb b9 24 #[.pointer (some ⟨g, 0, none⟩)], blkOb b8 4 #[.bool false]] := ⟨_, rfl⟩
      have H0 : Hid (Sep w.heap.size w W0 (OB b15 0 ++ marks [])) := by
        show Sep _ _ _ _
        rw [hOB]
        dsimp only
        rw [cntTo_zero]
        exact h2
      have HOB := Lib.hid hOB
      clear h h2 q9 q10 hmk hgb hb13 hb14 hb15 hW0 hOB HOS HCE
      refine wpIn_loop_ghost_k (fun (q : Nat) (a' : Act) (w' : World) => ∃ (ds : List Deferred) (x15 x16 x17 x21 x22 x53 x54 x55 x56 x57 x58 x59 x99 x100 x101 x102 x103 x104 x105 x106 x107 x108 x109 x110 x111 x112 x113 x114 x115 x116 x117 x118 x119 x120 x121 x122 x123 x124 x125 x126 x127 x128 x129 x130 x131 x132 x133 x134 x135 x136 x137 : Value), (∃ (s : Nat) (l : List Nat) (b15 : Nat), s + q = 5 ∧ x15 = .pointer (some ⟨b15, 0, none⟩) ∧ ds = markDs l ∧ Sep w.heap.size w w' (OB b15 s ++ marks l)) ∧ a' = { tmps := #[.int .u8 (n8 a), .int .u8 (n8 b), .slice A m c, .int .i64 st, undef, undef, undef, undef, .pointer (some ⟨b8, 0, none⟩), .pointer (some ⟨b9, 0, none⟩), .pointer (some ⟨b10, 0, none⟩), .int .i64 (k : Int), .int .i64 (j : Int), .pointer (some ⟨b13, 0, none⟩), .pointer (some ⟨b14, 0, none⟩), x15, x16, x17, undef, undef, undef, x21, x22, undef, undef, .slice A m c, .int .i64 (m : Int), .bool (decide (200 < (m : Int))), undef, .tuple #[.pointer (some ⟨g, 0, none⟩), .int .i64 (n : Int), .int .i64 (k : Int)], .int .u8 (n8 a), .int .u8 (n8 b), .tuple #[.pointer (some ⟨g, 0, none⟩), .int .i64 (n : Int), .int .i64 (k : Int)], .pointer (some ⟨g, 0, none⟩), .int .i64 (n : Int), .int .i64 (k : Int), .pointer (some ⟨g, 0, none⟩), .bool false, .int .i64 (j : Int), .slice A m c, .int .i64 (m : Int), .bool false, u42, u43, u44, u45, u46, u47, u48, u49, u50, .int .i64 (n : Int), .slice (some ⟨gb, 0, none⟩) n n, x53, x54, x55, x56, x57, x58, x59, undef, undef, undef, undef, undef, undef, undef, undef, undef, undef, undef, undef, undef, undef, undef, undef, undef, undef, undef, undef, undef, undef, undef, undef, undef, undef, undef, undef, undef, undef, undef, undef, undef, undef, undef, undef, undef, undef, undef, x99, x100, x101, x102, x103, x104, x105, x106, x107, x108, x109, x110, x111, x112, x113, x114, x115, x116, x117, x118, x119, x120, x121, x122, x123, x124, x125, x126, x127, x128, x129, x130, x131, x132, x133, x134, x135, x136, x137, undef, undef, undef, undef, undef, undef, undef, undef, undef, undef, undef, undef, undef, undef, undef, undef, undef, undef, undef, undef, undef, undef, undef, undef, undef], defers := ds }) 5 ?start ?round
      case start =>
        (repeat apply Exists.intro)
        refine ⟨?_, rfl⟩
        exact ⟨0, [], b15, by omega, rfl, rfl, H0.out⟩
      case round =>
        intro gk _ wr hinv
        obtain ⟨ds, hinv⟩ := hinv
        obtain ⟨x15, hinv⟩ := hinv
        obtain ⟨x16, hinv⟩ := hinv
        obtain ⟨x17, hinv⟩ := hinv
        obtain ⟨x21, hinv⟩ := hinv
        obtain ⟨x22, hinv⟩ := hinv
        obtain ⟨x53, hinv⟩ := hinv
        obtain ⟨x54, hinv⟩ := hinv
        obtain ⟨x55, hinv⟩ := hinv
        obtain ⟨x56, hinv⟩ := hinv
        obtain ⟨x57, hinv⟩ := hinv
        obtain ⟨x58, hinv⟩ := hinv
        obtain ⟨x59, hinv⟩ := hinv
        obtain ⟨x99, hinv⟩ := hinv
        obtain ⟨x100, hinv⟩ := hinv
        obtain ⟨x101, hinv⟩ := hinv
        obtain ⟨x102, hinv⟩ := hinv
        obtain ⟨x103, hinv⟩ := hinv
        obtain ⟨x104, hinv⟩ := hinv
        obtain ⟨x105, hinv⟩ := hinv
        obtain ⟨x106, hinv⟩ := hinv
        obtain ⟨x107, hinv⟩ := hinv
        obtain ⟨x108, hinv⟩ := hinv
        obtain ⟨x109, hinv⟩ := hinv
        obtain ⟨x110, hinv⟩ := hinv
        obtain ⟨x111, hinv⟩ := hinv
        obtain ⟨x112, hinv⟩ := hinv
        obtain ⟨x113, hinv⟩ := hinv
        obtain ⟨x114, hinv⟩ := hinv
        obtain ⟨x115, hinv⟩ := hinv
        obtain ⟨x116, hinv⟩ := hinv
        obtain ⟨x117, hinv⟩ := hinv
        obtain ⟨x118, hinv⟩ := hinv
        obtain ⟨x119, hinv⟩ := hinv
        obtain ⟨x120, hinv⟩ := hinv
        obtain ⟨x121, hinv⟩ := hinv
        obtain ⟨x122, hinv⟩ := hinv
        obtain ⟨x123, hinv⟩ := hinv
        obtain ⟨x124, hinv⟩ := hinv
        obtain ⟨x125, hinv⟩ := hinv
        obtain ⟨x126, hinv⟩ := hinv
        obtain ⟨x127, hinv⟩ := hinv
        obtain ⟨x128, hinv⟩ := hinv
        obtain ⟨x129, hinv⟩ := hinv
        obtain ⟨x130, hinv⟩ := hinv
        obtain ⟨x131, hinv⟩ := hinv
        obtain ⟨x132, hinv⟩ := hinv
        obtain ⟨x133, hinv⟩ := hinv
        obtain ⟨x134, hinv⟩ := hinv
        obtain ⟨x135, hinv⟩ := hinv
        obtain ⟨x136, hinv⟩ := hinv
        obtain ⟨x137, hinv⟩ := hinv
        obtain ⟨hrel, ha⟩ := hinv
        subst ha
        try dsimp only
        intro _ _ _ _
        obtain ⟨s, l, b15, hj, rfl, rfl, hs⟩ := hrel
        have HJ := Lib.hid hj
        have hs5 : s ≤ 5 := by omega
        have HS := Lib.hid hs
        have h := hs
        rw [HOB.out] at h
        have k15 : Blk wr b15 3 #[.int .i64 (s : Int)] := h.get (.head _)
        have q15 : wr.cell? ⟨b15, 0, none⟩ = some (.int .i64 (s : Int)) := k15.cell 0
        clear hj hs h k15 H0
        by_cases hlt : s < 5
        · gi_upto_region 17 with fail
          obtain ⟨b16, hb16⟩ : ∃ b16, b16 = wr.heap.size := ⟨_, rfl⟩
          obtain ⟨b17, hb17⟩ : ∃ b17, b17 = wr.heap.size + 1 := ⟨_, rfl⟩
          obtain ⟨W1, hW1⟩ : ∃ W1 : World, W1 = (wr.alloc (.cells #[.int .i64 (-1)] 3)).alloc (.cells #[.int .i64 (-1)] 3) := ⟨_, rfl⟩
          have h1 := (HS.out.newBlk b16 3 #[.int .i64 (-1)] hb16).newBlk b17 3 #[.int .i64 (-1)] (by simp; omega)
          rw [← hW1] at h1
          rw [← hW1, ← hb17, ← hb16]
          have h := h1
          rw [HOB.out] at h
          have k15 : Blk W1 b15 3 #[.int .i64 (s : Int)] := h.get (.tail _ (.tail _ (.head _)))
          have q15 : W1.cell? ⟨b15, 0, none⟩ = some (.int .i64 (s : Int)) := k15.cell 0
          have k9 : Blk W1 b9 24 #[.pointer (some ⟨g, 0, none⟩)] := h.get (.tail _ (.tail _ (.tail _ (.tail _ (.tail _ (.tail _ (.tail _ (.tail _ (.head _)))))))))
          have q9 : W1.cell? ⟨b9, 0, none⟩ = some (.pointer (some ⟨g, 0, none⟩)) := k9.cell 0
          have H1 := Lib.hid h1
          clear h h1 k15 k9 hW1 hb16 hb17
          gi_wp2_with fail
          refine ⟨trivial, ?_⟩
          refine (callsIn_wide.2 (in_any _ _ _)).mono ?_
          rintro e w2 ⟨rfl, rfl⟩
          obtain ⟨bB1, hbB1⟩ : ∃ bB1, bB1 = W1.heap.size := ⟨_, rfl⟩
          obtain ⟨bB2, hbB2⟩ : ∃ bB2, bB2 = W1.heap.size + 1 := ⟨_, rfl⟩
          obtain ⟨W2, hW2⟩ : ∃ W2 : World, W2 = (W1.alloc (.cells #[.pointer (some ⟨g, 0, none⟩)] 24)).alloc (.cells #[.int .i64 (s : Int)] 3) := ⟨_, rfl⟩
          have h2 := (H1.out.newBlk bB1 24 #[.pointer (some ⟨g, 0, none⟩)] hbB1).newBlk bB2 3 #[.int .i64 (s : Int)] (by simp; omega)
          rw [← hW2] at h2
          rw [← hW2, ← hbB2, ← hbB1]
          have hs2 : W2.heap.size = W1.heap.size + 2 := by rw [hW2]; simp
          obtain ⟨OR, hOR⟩ : ∃ OR : Int → Int → Int → Array Value → List Ob, OR = fun (fi la cn : Int) (sa : Array Value) => [blkOb bB2 3 #[.int .i64 (s : Int)], blkOb bB1 24 #[.pointer (some ⟨g, 0, none⟩)], blkOb b17 3 #[.int .i64 fi], blkOb b16 3 #[.int .i64 la], blkOb b15 3 #[.int .i64 (s : Int)], blkOb b14 3 #[.int .i64 cn], blkOb b13 53 #[.slice (some ⟨gb, 0, none⟩) n n], blkOb gb 4 sa, tabOb g p k T, blkOb b10 3 #[.int .i64 (n : Int)], blkOb b9 24 #[.pointer (some ⟨g, 0, none⟩)], blkOb b8 4 #[.bool false]] := ⟨_, rfl⟩
          have H2 : Hid (Sep w.heap.size w W2 (OR (firstI []) (lastI []) ((cntTo T s + ([] : List Nat).length : Nat) : Int) (seenA T s []) ++ marks l)) := by
            show Sep _ _ _ _
            rw [HOB.out] at h2
            rw [hOR]
            exact h2
          have HOR := Lib.hid hOR
          have HN2 : Hid (W2.heap.size = W1.heap.size + 2 ∧ w.heap.size ≤ W1.heap.size) := ⟨hs2, H1.out.big⟩
          have HC : Hid (∀ fi la cn sa o, o ∈ OR fi la cn sa ++ marks l → CellOb o ∨ ∀ k, o.F k → k < W2.heap.size) := fun fi la cn sa o ho => by
            rcases List.mem_append.1 ho with ho | ho
            · left
              have hA : AllCells (OR fi la cn sa) := by
                rw [hOR]
                exact AllCells.cons (cellOb_blk _ _ _) (AllCells.cons (cellOb_blk _ _ _) (AllCells.cons (cellOb_blk _ _ _) (AllCells.cons (cellOb_blk _ _ _) (AllCells.cons (cellOb_blk _ _ _) (AllCells.cons (cellOb_blk _ _ _) (AllCells.cons (cellOb_blk _ _ _) (AllCells.cons (cellOb_blk _ _ _) (AllCells.cons (cellOb_tab _ _ _ _) (AllCells.cons (cellOb_blk _ _ _) (AllCells.cons (cellOb_blk _ _ _) (AllCells.cons (cellOb_blk _ _ _) AllCells.nil)))))))))))
              exact hA o ho
            · right
              exact fun q hq => o.lt (H2.out.get (List.mem_append_right _ ho)) q hq
          have HLT : Hid (∀ o, o ∈ OR (firstI []) (lastI []) ((cntTo T s + ([] : List Nat).length : Nat) : Int) (seenA T s []) ++ marks l → ∀ q, o.F q → q < W2.heap.size) := fun o ho q hq => o.lt (H2.out.get ho) q hq
          have HX : Hid (∀ V fi la cn sa os, Sep w.heap.size w V (OR fi la cn sa ++ os) → IsTab V g p k T ∧ Blk V b17 3 #[.int .i64 fi] ∧ Blk V b16 3 #[.int .i64 la] ∧ Blk V b15 3 #[.int .i64 (s : Int)] ∧ Blk V b14 3 #[.int .i64 cn] ∧ Blk V b13 53 #[.slice (some ⟨gb, 0, none⟩) n n] ∧ Blk V gb 4 sa ∧ Blk V b10 3 #[.int .i64 (n : Int)] ∧ Blk V b9 24 #[.pointer (some ⟨g, 0, none⟩)] ∧ Blk V bB1 24 #[.pointer (some ⟨g, 0, none⟩)] ∧ Blk V bB2 3 #[.int .i64 (s : Int)]) := fun V fi la cn sa os h => by
            rw [hOR] at h
            exact ⟨h.get (.tail _ (.tail _ (.tail _ (.tail _ (.tail _ (.tail _ (.tail _ (.tail _ (.head _))))))))), h.get (.tail _ (.tail _ (.head _))), h.get (.tail _ (.tail _ (.tail _ (.head _)))), h.get (.tail _ (.tail _ (.tail _ (.tail _ (.head _))))), h.get (.tail _ (.tail _ (.tail _ (.tail _ (.tail _ (.head _)))))), h.get (.tail _ (.tail _ (.tail _ (.tail _ (.tail _ (.tail _ (.head _))))))), h.get (.tail _ (.tail _ (.tail _ (.tail _ (.tail _ (.tail _ (.tail _ (.head _)))))))), h.get (.tail _ (.tail _ (.tail _ (.tail _ (.tail _ (.tail _ (.tail _ (.tail _ (.tail _ (.head _)))))))))), h.get (.tail _ (.tail _ (.tail _ (.tail _ (.tail _ (.tail _ (.tail _ (.tail _ (.tail _ (.tail _ (.head _))))))))))), h.get (.tail _ (.head _)), h.get (.head _)⟩
          have HS17 : Hid (∀ V fi la cn sa os v, Sep w.heap.size w V (OR fi la cn sa ++ os) → Sep w.heap.size w (V.setCell ⟨b17, 0, none⟩ (.int .i64 v)) (OR v la cn sa ++ os)) := fun V fi la cn sa os v h => by
            rw [hOR] at h ⊢
            exact Sep.setMid (l₁ := [_, _]) h 0 (.int .i64 v)
          have HS16 : Hid (∀ V fi la cn sa os v, Sep w.heap.size w V (OR fi la cn sa ++ os) → Sep w.heap.size w (V.setCell ⟨b16, 0, none⟩ (.int .i64 v)) (OR fi v cn sa ++ os)) := fun V fi la cn sa os v h => by
            rw [hOR] at h ⊢
            exact Sep.setMid (l₁ := [_, _, _]) h 0 (.int .i64 v)
          have HS14 : Hid (∀ V fi la cn sa os v, Sep w.heap.size w V (OR fi la cn sa ++ os) → Sep w.heap.size w (V.setCell ⟨b14, 0, none⟩ (.int .i64 v)) (OR fi la v sa ++ os)) := fun V fi la cn sa os v h => by
            rw [hOR] at h ⊢
            exact Sep.setMid (l₁ := [_, _, _, _, _]) h 0 (.int .i64 v)
          have HSG : Hid (∀ V fi la cn sa os i u, Sep w.heap.size w V (OR fi la cn sa ++ os) → Sep w.heap.size w (V.setCell ⟨gb, i, none⟩ u) (OR fi la cn (sa.setIfInBounds i u) ++ os)) := fun V fi la cn sa os i u h => by
            rw [hOR] at h ⊢
            exact Sep.setMid (l₁ := [_, _, _, _, _, _, _]) h i u
          have HBL : Hid (b17 < W2.heap.size ∧ b16 < W2.heap.size ∧ b14 < W2.heap.size ∧ gb < W2.heap.size) := by
            obtain ⟨_, y17, y16, _, y14, _, yg, _⟩ := HX.out _ _ _ _ _ _ H2.out
            exact ⟨y17.lt, y16.lt, y14.lt, yg.lt⟩
          have HOS2 : Hid (∀ fi la cn sa o, o ∈ OR fi la cn sa ++ marks l → ∀ q, o.F q → q < W2.heap.size) := fun fi la cn sa o ho q hq => by
            rcases List.mem_append.1 ho with ho | ho
            · refine (?_ : ∃ o', o' ∈ OR (firstI []) (lastI []) ((cntTo T s + ([] : List Nat).length : Nat) : Int) (seenA T s []) ++ marks l ∧ o'.F q).elim (fun o' h => HLT.out o' h.1 q h.2)
              rw [hOR] at ho ⊢
              simp only [List.mem_cons, List.not_mem_nil, or_false] at ho
              rcases ho with rfl | rfl | rfl | rfl | rfl | rfl | rfl | rfl | rfl | rfl | rfl | rfl
              · exact ⟨_, .head _, hq⟩
              · exact ⟨_, .tail _ (.head _), hq⟩
              · exact ⟨_, .tail _ (.tail _ (.head _)), hq⟩
              · exact ⟨_, .tail _ (.tail _ (.tail _ (.head _))), hq⟩
              · exact ⟨_, .tail _ (.tail _ (.tail _ (.tail _ (.head _)))), hq⟩
              · exact ⟨_, .tail _ (.tail _ (.tail _ (.tail _ (.tail _ (.head _))))), hq⟩
              · exact ⟨_, .tail _ (.tail _ (.tail _ (.tail _ (.tail _ (.tail _ (.head _)))))), hq⟩
              · exact ⟨_, .tail _ (.tail _ (.tail _ (.tail _ (.tail _ (.tail _ (.tail _ (.head _))))))), hq⟩
              · exact ⟨_, .tail _ (.tail _ (.tail _ (.tail _ (.tail _ (.tail _ (.tail _ (.tail _ (.head _)))))))), hq⟩
              · exact ⟨_, .tail _ (.tail _ (.tail _ (.tail _ (.tail _ (.tail _ (.tail _ (.tail _ (.tail _ (.head _))))))))), hq⟩
              · exact ⟨_, .tail _ (.tail _ (.tail _ (.tail _ (.tail _ (.tail _ (.tail _ (.tail _ (.tail _ (.tail _ (.head _)))))))))), hq⟩
              · exact ⟨_, .tail _ (.tail _ (.tail _ (.tail _ (.tail _ (.tail _ (.tail _ (.tail _ (.tail _ (.tail _ (.tail _ (.head _))))))))))), hq⟩
            · exact HLT.out o (List.mem_append_right _ ho) q hq
          clear h2 hW2 hbB1 hbB2 hs2 hOR q15 q9 HS
          have HNE : Hid ((b13 ≠ b17 ∧ gb ≠ b17 ∧ b16 ≠ b17 ∧ b14 ≠ b17 ∧ b16 ≠ gb ∧ b14 ≠ gb ∧ b14 ≠ b16) ∧ (b17 ≠ b13 ∧ b17 ≠ gb ∧ b17 ≠ b16 ∧ b17 ≠ b14 ∧ gb ≠ b16 ∧ gb ≠ b14 ∧ b16 ≠ b14)) := by
            have ap := H2.out.apart
            rw [HOR.out] at ap
            simp only [List.cons_append, List.pairwise_cons] at ap
            obtain ⟨-, -, a17, a16, a15, a14, a13, ag, -⟩ := ap
            have e1 : b17 ≠ b13 := a17 _ (.tail _ (.tail _ (.tail _ (.head _)))) b17 rfl
            have e2 : b17 ≠ gb := a17 _ (.tail _ (.tail _ (.tail _ (.tail _ (.head _))))) b17 rfl
            have e3 : b17 ≠ b16 := a17 _ (.head _) b17 rfl
            have e4 : b17 ≠ b14 := a17 _ (.tail _ (.tail _ (.head _))) b17 rfl
            have e5 : b16 ≠ gb := a16 _ (.tail _ (.tail _ (.tail _ (.head _)))) b16 rfl
            have e6 : b14 ≠ gb := a14 _ (.tail _ (.head _)) b14 rfl
            have e7 : b16 ≠ b14 := a16 _ (.tail _ (.head _)) b16 rfl
            exact ⟨⟨e1.symm, e2.symm, e3.symm, e4.symm, e5, e6, e7.symm⟩, e1, e2, e3, e4, e5.symm, e6.symm, e7⟩
          clear HLT
          gi_wp2_with fail
          refine wpIn_rangeFunc_on rfl (by omega) (gf := 46) (lb := #[.pointer (some ⟨bB1, 0, none⟩), .pointer (some ⟨bB2, 0, none⟩)]) rfl trivial (enters_of Tryd.func46 (by kernel_rfl) rfl)
            (fun pre V => Sep w.heap.size w V (OR (firstI pre) (lastI pre) ((cntTo T s + pre.length : Nat) : Int) (seenA T s pre) ++ marks l))
            (fun c pre V => False)
            (in1_on bB1 bB2 g k s p T hlt _ W2 (fun V hV => by
              obtain ⟨y, _, _, _, _, _, _, _, _, y1, y2⟩ := HX.out _ _ _ _ _ _ hV
              exact ⟨y1.cell 0, y2.cell 0, y⟩)) (fun _ => rfl)
            ?hI (fun c _ _ _ _ h _ _ => h) H2.out
            (fun x => { tmps := #[.int .u8 (n8 a), .int .u8 (n8 b), .slice A m c, .int .i64 st, undef, undef, undef, undef, .pointer (some ⟨b8, 0, none⟩), .pointer (some ⟨b9, 0, none⟩), .pointer (some ⟨b10, 0, none⟩), .int .i64 (k : Int), .int .i64 (j : Int), .pointer (some ⟨b13, 0, none⟩), .pointer (some ⟨b14, 0, none⟩), .pointer (some ⟨b15, 0, none⟩), .pointer (some ⟨b16, 0, none⟩), .pointer (some ⟨b17, 0, none⟩), .int .i64 (x : Int), undef, undef, x21, x22, undef, undef, .slice A m c, .int .i64 (m : Int), .bool (decide (200 < (m : Int))), undef, .tuple #[.pointer (some ⟨g, 0, none⟩), .int .i64 (n : Int), .int .i64 (k : Int)], .int .u8 (n8 a), .int .u8 (n8 b), .tuple #[.pointer (some ⟨g, 0, none⟩), .int .i64 (n : Int), .int .i64 (k : Int)], .pointer (some ⟨g, 0, none⟩), .int .i64 (n : Int), .int .i64 (k : Int), .pointer (some ⟨g, 0, none⟩), .bool false, .int .i64 (j : Int), .slice A m c, .int .i64 (m : Int), .bool false, u42, u43, u44, u45, u46, u47, u48, u49, u50, .int .i64 (n : Int), .slice (some ⟨gb, 0, none⟩) n n, .int .i64 (s : Int), .bool true, x55, x56, .pointer (some ⟨g, 0, none⟩), .int .i64 (s : Int), .func (.func 46) #[] #[.pointer (some ⟨bB1, 0, none⟩), .pointer (some ⟨bB2, 0, none⟩)], .int .i64 (x : Int), undef, undef, undef, undef, undef, undef, undef, undef, undef, undef, undef, undef, undef, undef, undef, undef, undef, undef, undef, undef, undef, undef, undef, undef, undef, undef, undef, undef, undef, undef, undef, undef, undef, undef, undef, undef, undef, undef, x99, x100, x101, x102, x103, x104, x105, x106, x107, x108, x109, x110, x111, x112, x113, x114, x115, x116, x117, x118, x119, x120, x121, x122, x123, x124, x125, x126, x127, x128, x129, x130, x131, x132, x133, x134, x135, x136, x137, undef, undef, undef, undef, undef, undef, undef, undef, undef, undef, undef, undef, undef, undef, undef, undef, undef, undef, undef, undef, undef, undef, undef, undef, undef], defers := [] }) ?assign ?body ?done ?stop
          case hI =>
            rintro pre V V' row hs hg hr
            exact hs.othersM (HC.out _ _ _ _) (by have := HN2.out; omega) hg hr
          case assign =>
            intro l' x V K hK
            gi_wp2
            exact hK
          case body =>
            rintro l' pre x V hs ⟨hpre, hx⟩ hVs
            obtain ⟨hxl, hxs⟩ := in_state T s x hx
            obtain ⟨y, y17, y16, y15, y14, y13, yg, y10, y9, _, _⟩ := HX.out _ _ _ _ _ _ hs
            have q17 := y17.c0
            have q16 := y16.c0
            have q15 := y15.c0
            have q14 := y14.c0
            have q13 := y13.c0
            have qg : V.cell? ⟨gb, x, none⟩ = some (.bool false) := by rw [yg.cell, hpre]; exact seenA_new T s x hx
            have q10 := y10.c0
            have q9 := y9.c0
            have f17 := y17.frozen 0
            have f16 := y16.frozen 0
            have f14 := y14.frozen 0
            have fg := yg.frozen x
            have HST : Hid (Calls Tryd.prog 16 #[.pointer (some ⟨g, 0, none⟩), .int .i64 (x : Int)] V fun e w' => e = .returned (.tuple #[.int .i64 (s : Int), .int .i64 0]) ∧ V = w') := by
              have := tstate_in y x hxl
              rw [hxs] at this
              exact this
            have hla := lastI_lt (memb T s) x
            have hpl := slotsTo_le (memb T s) x
            have hct := cntTo_le T s
            rw [← hpre] at hla hpl
            rw [HTL.out] at hct hxl
            have HSV := Lib.hid hs
            have HEQ : Hid (firstI (pre ++ [x]) = (if firstI pre < 0 then (x : Int) else firstI pre) ∧ lastI (pre ++ [x]) = (x : Int) ∧ ((cntTo T s + (pre ++ [x]).length : Nat) : Int) = ((cntTo T s + pre.length : Nat) : Int) + 1 ∧ seenA T s (pre ++ [x]) = (seenA T s pre).setIfInBounds x (.bool true)) :=
              ⟨firstI_snoc _ _, lastI_snoc _ _, by rw [List.length_append]; simp; omega, (seenA_set _ _ _ _).symm⟩
            generalize pre ++ [x] = pre' at HEQ ⊢
            generalize hcc : cntTo T s + pre.length = cc at q14 HSV HEQ
            have hcc64 : cc ≤ 64 := by omega
            generalize lastI pre = la at q16 hla HSV
            generalize firstI pre = fi at q17 HSV HEQ
            generalize seenA T s pre = sa at HSV HEQ
            have d1 : decide ((x : Int) ≤ la) = false := by simp; omega
            have d2 : decide (n ≤ x) = false := by simp; omega
            clear hs hpre hx hxs y y17 y16 y15 y14 y13 yg y10 y9 hcc hpl hct
            have hbl := HBL.out
            obtain ⟨⟨m1, m2, m3, m4, m5, m6, m7⟩, m1', m2', m3', m4', m5', m6', m7'⟩ := HNE.out
            by_cases hfi : fi < 0
            · have HEQ : Hid (firstI pre' = (x : Int) ∧ lastI pre' = (x : Int) ∧ ((cntTo T s + pre'.length : Nat) : Int) = (cc : Int) + 1 ∧ seenA T s pre' = sa.setIfInBounds x (.bool true)) := by
                have := HEQ.out
                rw [if_pos hfi] at this
                exact this
              gi_wp2_with (refine ⟨trivial, ?_⟩; gi_at_call 16; refine (callsIn_wide.2 HST.out).mono ?_; rintro e w6 ⟨rfl, rfl⟩)
              have h1 := HS14.out _ _ _ _ _ _ ((cc : Int) + 1) (HS16.out _ _ _ _ _ _ (x : Int) (HSG.out _ _ _ _ _ _ x (.bool true) (HS17.out _ _ _ _ _ _ (x : Int) HSV.out)))
              obtain ⟨e1, e2, e3, e4⟩ := HEQ.out
              refine ⟨KeepsAll.of_chg (F := fun q => q = b17 ∨ q = b16 ∨ q = b14 ∨ q = gb) (((((Chg.refl (fun q => q = b17 ∨ q = b16 ∨ q = b14 ∨ q = gb) V).setCell (p := ⟨b17, 0, none⟩) (.inl (.inl rfl)) _).setCell (p := ⟨gb, x, none⟩) (.inl (.inr (.inr (.inr rfl)))) _).setCell (p := ⟨b16, 0, none⟩) (.inl (.inr (.inl rfl))) _).setCell (p := ⟨b14, 0, none⟩) (.inl (.inr (.inr (.inl rfl)))) _) (fun q hq => by rcases hq with rfl | rfl | rfl | rfl <;> omega), ?_⟩
              show Sep w.heap.size w _ (OR (firstI pre') (lastI pre') ((cntTo T s + pre'.length : Nat) : Int) (seenA T s pre') ++ marks l)
              rw [e1, e2, e3, e4]
              exact h1
            · have HEQ : Hid (firstI pre' = fi ∧ lastI pre' = (x : Int) ∧ ((cntTo T s + pre'.length : Nat) : Int) = (cc : Int) + 1 ∧ seenA T s pre' = sa.setIfInBounds x (.bool true)) := by
                have := HEQ.out
                rw [if_neg hfi] at this
                exact this
              gi_wp2_with (refine ⟨trivial, ?_⟩; gi_at_call 16; refine (callsIn_wide.2 HST.out).mono ?_; rintro e w6 ⟨rfl, rfl⟩)
              have h1 := HS14.out _ _ _ _ _ _ ((cc : Int) + 1) (HS16.out _ _ _ _ _ _ (x : Int) (HSG.out _ _ _ _ _ _ x (.bool true) HSV.out))
              obtain ⟨e1, e2, e3, e4⟩ := HEQ.out
              refine ⟨KeepsAll.of_chg (F := fun q => q = b17 ∨ q = b16 ∨ q = b14 ∨ q = gb) ((((Chg.refl (fun q => q = b17 ∨ q = b16 ∨ q = b14 ∨ q = gb) V).setCell (p := ⟨gb, x, none⟩) (.inl (.inr (.inr (.inr rfl)))) _).setCell (p := ⟨b16, 0, none⟩) (.inl (.inr (.inl rfl))) _).setCell (p := ⟨b14, 0, none⟩) (.inl (.inr (.inr (.inl rfl)))) _) (fun q hq => by rcases hq with rfl | rfl | rfl | rfl <;> omega), ?_⟩
              show Sep w.heap.size w _ (OR (firstI pre') (lastI pre') ((cntTo T s + pre'.length : Nat) : Int) (seenA T s pre') ++ marks l)
              rw [e1, e2, e3, e4]
              exact h1
          case done =>
            rintro D xs V hD rfl hs hK
            have HCS := Lib.hid (only_cases T s hlt)
            have hcn : cntTo T s + (slotsOf (memb T s)).length = cntTo T (s + 1) := (cntTo_succ T s).symm
            rw [hcn, seenA_next] at hs
            have hg := grow_marks hs hK (by have := HN2.out; omega) (fun o ho q hq e => by have := HOS2.out _ _ _ _ o ho q hq; omega)
            have HSV := Lib.hid hg
            obtain ⟨y, y17, y16, y15, y14, y13, yg, y10, y9, _, _⟩ := HX.out _ _ _ _ _ _ hg
            have HON : Hid (Calls Tryd.prog 27 #[.pointer (some ⟨g, 0, none⟩), .int .i64 (s : Int)] V fun e w' => e = .returned (.tuple #[.int .i64 (onlyV T s), .bool (onlyB T s)]) ∧ V = w') := tonly_any y (hg.laid HL.out hB).tab s
            have q17 := y17.c0
            have q15 := y15.c0
            have q9 := y9.c0
            generalize onlyV T s = ov at HON HCS
            generalize onlyB T s = ob at HON HCS
            generalize firstI (slotsOf (memb T s)) = fi at q17 HSV HCS
            generalize lastI (slotsOf (memb T s)) = la at HSV
            have HPOST : Hid (∀ v : Int, v = (s : Int) + 1 → Sep w.heap.size w (V.alloc (.cells #[.int .i64 v] 3)) (OB V.heap.size (s + 1) ++ marks (D :: l))) := fun v hv => by
              rw [hv]
              have h1 := HSV.out
              rw [HOR.out] at h1
              have h2 := h1.newBlk V.heap.size 3 #[.int .i64 ((s : Int) + 1)] rfl
              rw [HOB.out]
              exact h2.sub (.cons_cons _ (.cons _ (.cons _ (.cons _ (.cons _ (.cons _ (List.Sublist.refl _)))))))
            clear hs hcn hK hg y y17 y16 y15 y14 y13 yg y10 y9 hD
            gi_upto_region 28 with (refine ⟨trivial, ?_⟩; gi_at_call 27; refine (callsIn_wide.2 HON.out).mono ?_; rintro e w6 ⟨rfl, rfl⟩)
            rcases HCS.out with ⟨hs2, rfl, rfl, f, rfl⟩ | ⟨hs2, f, rfl, rfl, rfl⟩ | ⟨rfl, rfl, rfl⟩
            · rcases hs2 with rfl | rfl
              all_goals
                gi_wp2_with fail
                gi_roundg (gk - 1)
                case measure => have := HJ.out; omega
                case rel => exact ⟨_, D :: l, V.heap.size, by have := HJ.out; omega, rfl, rfl, HPOST.out _ (by first | rfl | omega)⟩
            · rcases hs2 with rfl | rfl | rfl
              all_goals
                gi_wp2_with fail
                gi_roundg (gk - 1)
                case measure => have := HJ.out; omega
                case rel => exact ⟨_, D :: l, V.heap.size, by have := HJ.out; omega, rfl, rfl, HPOST.out _ (by first | rfl | omega)⟩
            · gi_wp2_with fail
              gi_roundg (gk - 1)
              case measure => have := HJ.out; omega
              case rel => exact ⟨s + 1, D :: l, V.heap.size, by have := HJ.out; omega, rfl, rfl, HPOST.out _ (by first | rfl | omega)⟩
          case stop =>
            rintro D c pre V hD hpre hno hK
            exact hno.elim
        · have e5 : s = 5 := by omega
          subst e5
          have h := HS.out
          rw [HOB.out] at h
          have y14 : Blk wr b14 3 #[.int .i64 (cntTo T 5 : Int)] := h.get (.tail _ (.head _))
          have y10 : Blk wr b10 3 #[.int .i64 (n : Int)] := h.get (.tail _ (.tail _ (.tail _ (.tail _ (.tail _ (.head _))))))
          have y9 : Blk wr b9 24 #[.pointer (some ⟨g, 0, none⟩)] := h.get (.tail _ (.tail _ (.tail _ (.tail _ (.tail _ (.tail _ (.head _)))))))
          have yt : IsTab wr g p k T := h.get (.tail _ (.tail _ (.tail _ (.tail _ (.head _)))))
          have ecn : cntTo T 5 = n := (cntTo_all T yt.all).trans HTL.out
          rw [ecn] at y14
          have q14 := y14.c0
          have q10 := y10.c0
          have q9 := y9.c0
          have H8 : Hid (Sep w.heap.size w wr (blkOb b8 4 #[.bool false] :: ([blkOb b14 3 #[.int .i64 (n : Int)], blkOb b10 3 #[.int .i64 (n : Int)]] ++ marks l))) := by
            dsimp only at h
            rw [ecn] at h
            have h1 : Sep w.heap.size w wr ([blkOb b14 3 #[.int .i64 (n : Int)], blkOb b10 3 #[.int .i64 (n : Int)]] ++ (blkOb b8 4 #[.bool false] :: marks l)) := h.sub (.cons _ (.cons_cons _ (.cons _ (.cons _ (.cons _ (.cons_cons _ (.cons _ (List.Sublist.refl _))))))))
            exact h1.perm List.perm_middle
          have HT := Lib.hid yt
          clear h y14 y10 y9 ecn yt
          by_cases hst : 0 ≤ st ∧ st ≤ 4
          · have d1 : decide (st < 0) = false := by simp; omega
            have d2 : decide (4 < st) = false := by simp; omega
            clear hst
            gi_wp2_with fail
            refine ⟨trivial, ?_⟩
            refine (callsIn_wide.2 (works_any _ (H8.out.laid HL.out hB))).mono ?_
            rintro e w9 ⟨rfl, hb⟩
            have H9 := Lib.hid (H8.out.below hb)
            have hbk : Blk w9 b8 4 #[.bool false] := H9.out.get (.head _)
            have q8 := hbk.c0
            have f8 := hbk.frozen 0
            clear hb hbk q14 q10 q9
            gi_wp2_with fail
            have hz := H9.out.setBlk 0 (.bool true)
            have hz2 : Sep w.heap.size w _ ([blkOb b8 4 #[.bool true]] ++ marks l) := hz.sub (.cons_cons _ (.cons _ (.cons _ (List.Sublist.refl _))))
            refine leaves_sep hz2 (fun w' hs hc => ?_)
            have hbk : Blk w' b8 4 #[.bool true] := hs.get (.head _)
            have hcf := hbk.c0
            exact ⟨.bool true, by simp [results, Tryd.f8, go_sem, hcf], rfl, hs.bel⟩
          · have hsh : shown T st = [] := by unfold shown; rw [if_neg (by omega)]
            have HSM : Hid (Calls Tryd.prog 28 #[.pointer (some ⟨g, 0, none⟩), .int .i64 st, .slice none 0 0] wr fun e w' => e = .returned (.bool true) ∧ Below wr.heap.size wr w') := same_tab HT.out st none 0 0 (by rw [hsh]; rfl) (by rw [hsh]; exact ⟨rfl, fun h => absurd h (Nat.lt_irrefl 0)⟩)
            have HON : Hid (Calls Tryd.prog 27 #[.pointer (some ⟨g, 0, none⟩), .int .i64 st] wr fun e w' => e = .returned (.tuple #[.int .i64 0, .bool false]) ∧ wr = w') := tonly_no _ wr st (by omega) (by omega) (by omega)
            have hst' : st < 0 ∨ 4 < st := by omega
            clear hsh hst
            rcases hst' with hst | hst
            all_goals
              gi_wp2_with fail
              refine ⟨trivial, ?_⟩
              refine (callsIn_wide.2 HON.out).mono ?_
              rintro e w8 ⟨rfl, rfl⟩
              gi_wp2_with fail
              refine ⟨trivial, ?_⟩
              refine (callsIn_wide.2 HSM.out).mono ?_
              rintro e w8 ⟨rfl, hb⟩
              have H8 := Lib.hid (H8.out.below hb)
              have y14 : Blk w8 b14 3 #[.int .i64 (n : Int)] := H8.out.get (.tail _ (.head _))
              have y10 : Blk w8 b10 3 #[.int .i64 (n : Int)] := H8.out.get (.tail _ (.tail _ (.head _)))
              clear q14 q10 q9 hb
              have q14 := y14.c0
              have q10 := y10.c0
              clear y14 y10
              gi_wp2_with fail
              refine ⟨trivial, ?_⟩
              refine (callsIn_wide.2 (works_any _ (H8.out.laid HL.out hB))).mono ?_
              rintro e w9 ⟨rfl, hb⟩
              have H9 := Lib.hid (H8.out.below hb)
              have hbk : Blk w9 b8 4 #[.bool false] := H9.out.get (.head _)
              have q8 := hbk.c0
              have f8 := hbk.frozen 0
              clear hb hbk q14 q10
              gi_wp2_with fail
              have hz := H9.out.setBlk 0 (.bool true)
              have hz2 : Sep w.heap.size w _ ([blkOb b8 4 #[.bool true]] ++ marks l) := hz.sub (.cons_cons _ (.cons _ (.cons _ (List.Sublist.refl _))))
              refine leaves_sep hz2 (fun w' hs hc => ?_)
              have hbk : Blk w' b8 4 #[.bool true] := hs.get (.head _)
              have hcf := hbk.c0
              exact ⟨.bool true, by simp [results, Tryd.f8, go_sem, hcf], rfl, hs.bel⟩
theorem SlotsParts_walk (v0 v1 v2 v3 : Value) (w : World) (hl : LaidIn w) (h0 : ArgIn Tryd.prog w 5 v0) (h1 : ArgIn Tryd.prog w 5 v1) (h2 : ArgIn Tryd.prog w 22 v2) (h3 : ArgIn Tryd.prog w 3 v3) :
    Calls Tryd.prog 8 #[v0, v1, v2, v3] w fun e w' => e = .returned (.bool true) ∧ Below w.heap.size w w' := by
  obtain ⟨m0, rfl, e0⟩ := h0.int (k := .u8) Tryd.underlying5
  obtain ⟨m1, rfl, e1⟩ := h1.int (k := .u8) Tryd.underlying5
  obtain ⟨b0, rfl⟩ := u8_of_wf e0
  obtain ⟨b1, rfl⟩ := u8_of_wf e1
  obtain ⟨st, rfl, _⟩ := h3.int (k := .i64) Tryd.underlying3
  obtain ⟨A, n, c, ts, rfl, k1, k2, k3⟩ := turns_arg h2
  exact SlotsParts_w b0 b1 A n c ts st w hl k3 k1 k2
end Go.Proofs.YtalonikiljcpfaaDoor
