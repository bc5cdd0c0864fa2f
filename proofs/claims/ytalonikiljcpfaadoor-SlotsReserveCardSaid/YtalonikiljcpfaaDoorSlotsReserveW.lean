/-
  The walk of the law SlotsReserve: it returns true and writes nothing that was there. Condition: the variables hold what their texts list.
-/
import Derived.Test.YtalonikiljcpfaaDoorTabLoop
import Derived.Test.YtalonikiljcpfaaDoorSlotLaid
import Derived.Test.YtalonikiljcpfaaDoorTabPlain
import Derived.Test.YtalonikiljcpfaaDoorMarks
import Derived.Sort.CutIn
namespace Go.Proofs.YtalonikiljcpfaaDoor
open Go.RowKit Go.Shelf
set_option linter.unusedVariables false
attribute [local go_sem] Oper.semAt_some
set_option maxHeartbeats 16000000 in
set_option maxRecDepth 100000 in
theorem SlotsReserve_w (a b : BitVec 8) (A : Option Addr) (m c : Nat) (ts : Nat → Turn2) (w : World) (hl : LaidIn w) (hr : TurnsAt w w.heap.size A m ts) (hn : m ≤ c) (hc : c ≤ maxLen) :
    Calls Tryd.prog 7 #[.int .u8 (n8 a), .int .u8 (n8 b), .slice A m c] w fun e w' => e = .returned (.bool true) ∧ Below w.heap.size w w' := by
  refine (callsIn_wide (n := 5)).1 ?_
  have HR := Lib.hid hr
  have HL := Lib.hid hl
  have hB := hl.big
  unfold maxLen at hc
  clear hr hl
  by_cases hm : 200 < m
  · refine callsIn_of_wp_marks Tryd.func7 rfl trivial ?_ rfl
    simp only [Tryd.ntmps7, List.size_toArray, List.length_cons, List.length_nil, Nat.reduceAdd, Nat.reduceSub, Array.replicate_succ, Array.replicate_zero, List.push_toArray, List.append_toArray, List.nil_append, List.cons_append]
    gi_wp2_with fail
    refine ⟨trivial, ?_⟩
    refine (callsIn_wide.2 (works_any _ HL.out)).mono ?_
    rintro e w9 ⟨rfl, hb⟩
    have HB := Lib.hid hb
    clear hb
    gi_wp2_with fail
    exact ⟨.bool true, by simp [results, Tryd.f7, go_sem], rfl, HB.out⟩
  refine callsIn_of_wp_marks Tryd.func7 rfl trivial ?_ rfl
  simp only [Tryd.ntmps7, List.size_toArray, List.length_cons, List.length_nil, Nat.reduceAdd, Nat.reduceSub, Array.replicate_succ, Array.replicate_zero, List.push_toArray, List.append_toArray, List.nil_append, List.cons_append]
  gi_wp2_with fail
  refine ⟨trivial, ?_⟩
  refine (callsIn_wide.2 (begin_any (Sep.start w) a b)).mono ?_
  rintro e w1 ⟨g, p, rfl, hs⟩
  obtain ⟨n, hn⟩ : ∃ n, a.toNat % 32 + 1 = n := ⟨_, rfl⟩
  obtain ⟨k, hk⟩ : ∃ k, b.toNat % (a.toNat % 32 + 2) = k := ⟨_, rfl⟩
  have hn1 : 1 ≤ n := by omega
  have hn32 : n ≤ 32 := by omega
  have hkn : k ≤ n := by have := Nat.mod_lt b.toNat (show 0 < a.toNat % 32 + 2 by omega); omega
  rw [hn, hk] at hs ⊢
  have HT0 : Hid ((List.replicate n 0).length = n) := List.length_replicate
  generalize List.replicate n 0 = T0 at hs HT0
  have HS1 := Lib.hid hs
  clear hs hn hk
  gi_wp2_with fail
  refine wpIn_loop_ghost_k (fun (q : Nat) (a' : Act) (w' : World) => ∃ (ds : List Deferred) (u10 u11 u12 u14 u15 u16 u17 u18 u19 u20 u21 u35 u36 u37 u38 u39 u40 u41 u42 u43 u44 u47 u48 u49 u50 u51 u52 u53 u54 u55 u56 u57 u58 u59 u60 u61 u62 u63 u64 u65 u66 u67 u68 u69 u70 u71 u72 u73 u74 u75 u76 u77 u78 u79 u80 u81 u82 u83 u84 u85 u86 u87 u88 u89 u90 u91 u92 u93 u94 u95 u96 u97 u98 u99 u100 u101 u102 u103 u104 u105 u106 u107 u108 u109 u110 u111 u112 u113 u114 u115 u116 u117 u118 u119 u120 u121 u122 u123 u124 u125 u126 : Value), (∃ (j : Nat) (T : List Nat) (l : List Nat), j + q = m ∧ u10 = .int .i64 (j : Int) ∧ ds = markDs l ∧ T.length = n ∧ Sep w.heap.size w w' ([tabOb g p k T] ++ marks l)) ∧ a' = { tmps := #[.int .u8 (n8 a), .int .u8 (n8 b), .slice A m c, undef, undef, undef, .bool false, .pointer (some ⟨g, 0, none⟩), .int .i64 (n : Int), .int .i64 (k : Int), u10, u11, u12, undef, u14, u15, u16, u17, u18, u19, u20, u21, .slice A m c, .int .i64 (m : Int), .bool (decide (200 < (m : Int))), undef, .tuple #[.pointer (some ⟨g, 0, none⟩), .int .i64 (n : Int), .int .i64 (k : Int)], .int .u8 (n8 a), .int .u8 (n8 b), .tuple #[.pointer (some ⟨g, 0, none⟩), .int .i64 (n : Int), .int .i64 (k : Int)], .pointer (some ⟨g, 0, none⟩), .int .i64 (n : Int), .int .i64 (k : Int), .pointer (some ⟨g, 0, none⟩), .bool false, u35, u36, u37, u38, u39, u40, u41, u42, u43, u44, undef, undef, u47, u48, u49, u50, u51, u52, u53, u54, u55, u56, u57, u58, u59, u60, u61, u62, u63, u64, u65, u66, u67, u68, u69, u70, u71, u72, u73, u74, u75, u76, u77, u78, u79, u80, u81, u82, u83, u84, u85, u86, u87, u88, u89, u90, u91, u92, u93, u94, u95, u96, u97, u98, u99, u100, u101, u102, u103, u104, u105, u106, u107, u108, u109, u110, u111, u112, u113, u114, u115, u116, u117, u118, u119, u120, u121, u122, u123, u124, u125, u126, undef], defers := ds }) m ?start ?round
  case start =>
    (repeat apply Exists.intro)
    refine ⟨?_, rfl⟩
    exact ⟨0, T0, [], by omega, rfl, rfl, HT0.out, HS1.out⟩
  case round =>
    intro gk _ wr hinv
    obtain ⟨ds, hinv⟩ := hinv
    obtain ⟨u10, hinv⟩ := hinv
    obtain ⟨u11, hinv⟩ := hinv
    obtain ⟨u12, hinv⟩ := hinv
    obtain ⟨u14, hinv⟩ := hinv
    obtain ⟨u15, hinv⟩ := hinv
    obtain ⟨u16, hinv⟩ := hinv
    obtain ⟨u17, hinv⟩ := hinv
    obtain ⟨u18, hinv⟩ := hinv
    obtain ⟨u19, hinv⟩ := hinv
    obtain ⟨u20, hinv⟩ := hinv
    obtain ⟨u21, hinv⟩ := hinv
    obtain ⟨u35, hinv⟩ := hinv
    obtain ⟨u36, hinv⟩ := hinv
    obtain ⟨u37, hinv⟩ := hinv
    obtain ⟨u38, hinv⟩ := hinv
    obtain ⟨u39, hinv⟩ := hinv
    obtain ⟨u40, hinv⟩ := hinv
    obtain ⟨u41, hinv⟩ := hinv
    obtain ⟨u42, hinv⟩ := hinv
    obtain ⟨u43, hinv⟩ := hinv
    obtain ⟨u44, hinv⟩ := hinv
    obtain ⟨u47, hinv⟩ := hinv
    obtain ⟨u48, hinv⟩ := hinv
    obtain ⟨u49, hinv⟩ := hinv
    obtain ⟨u50, hinv⟩ := hinv
    obtain ⟨u51, hinv⟩ := hinv
    obtain ⟨u52, hinv⟩ := hinv
    obtain ⟨u53, hinv⟩ := hinv
    obtain ⟨u54, hinv⟩ := hinv
    obtain ⟨u55, hinv⟩ := hinv
    obtain ⟨u56, hinv⟩ := hinv
    obtain ⟨u57, hinv⟩ := hinv
    obtain ⟨u58, hinv⟩ := hinv
    obtain ⟨u59, hinv⟩ := hinv
    obtain ⟨u60, hinv⟩ := hinv
    obtain ⟨u61, hinv⟩ := hinv
    obtain ⟨u62, hinv⟩ := hinv
    obtain ⟨u63, hinv⟩ := hinv
    obtain ⟨u64, hinv⟩ := hinv
    obtain ⟨u65, hinv⟩ := hinv
    obtain ⟨u66, hinv⟩ := hinv
    obtain ⟨u67, hinv⟩ := hinv
    obtain ⟨u68, hinv⟩ := hinv
    obtain ⟨u69, hinv⟩ := hinv
    obtain ⟨u70, hinv⟩ := hinv
    obtain ⟨u71, hinv⟩ := hinv
    obtain ⟨u72, hinv⟩ := hinv
    obtain ⟨u73, hinv⟩ := hinv
    obtain ⟨u74, hinv⟩ := hinv
    obtain ⟨u75, hinv⟩ := hinv
    obtain ⟨u76, hinv⟩ := hinv
    obtain ⟨u77, hinv⟩ := hinv
    obtain ⟨u78, hinv⟩ := hinv
    obtain ⟨u79, hinv⟩ := hinv
    obtain ⟨u80, hinv⟩ := hinv
    obtain ⟨u81, hinv⟩ := hinv
    obtain ⟨u82, hinv⟩ := hinv
    obtain ⟨u83, hinv⟩ := hinv
    obtain ⟨u84, hinv⟩ := hinv
    obtain ⟨u85, hinv⟩ := hinv
    obtain ⟨u86, hinv⟩ := hinv
    obtain ⟨u87, hinv⟩ := hinv
    obtain ⟨u88, hinv⟩ := hinv
    obtain ⟨u89, hinv⟩ := hinv
    obtain ⟨u90, hinv⟩ := hinv
    obtain ⟨u91, hinv⟩ := hinv
    obtain ⟨u92, hinv⟩ := hinv
    obtain ⟨u93, hinv⟩ := hinv
    obtain ⟨u94, hinv⟩ := hinv
    obtain ⟨u95, hinv⟩ := hinv
    obtain ⟨u96, hinv⟩ := hinv
    obtain ⟨u97, hinv⟩ := hinv
    obtain ⟨u98, hinv⟩ := hinv
    obtain ⟨u99, hinv⟩ := hinv
    obtain ⟨u100, hinv⟩ := hinv
    obtain ⟨u101, hinv⟩ := hinv
    obtain ⟨u102, hinv⟩ := hinv
    obtain ⟨u103, hinv⟩ := hinv
    obtain ⟨u104, hinv⟩ := hinv
    obtain ⟨u105, hinv⟩ := hinv
    obtain ⟨u106, hinv⟩ := hinv
    obtain ⟨u107, hinv⟩ := hinv
    obtain ⟨u108, hinv⟩ := hinv
    obtain ⟨u109, hinv⟩ := hinv
    obtain ⟨u110, hinv⟩ := hinv
    obtain ⟨u111, hinv⟩ := hinv
    obtain ⟨u112, hinv⟩ := hinv
    obtain ⟨u113, hinv⟩ := hinv
    obtain ⟨u114, hinv⟩ := hinv
    obtain ⟨u115, hinv⟩ := hinv
    obtain ⟨u116, hinv⟩ := hinv
    obtain ⟨u117, hinv⟩ := hinv
    obtain ⟨u118, hinv⟩ := hinv
    obtain ⟨u119, hinv⟩ := hinv
    obtain ⟨u120, hinv⟩ := hinv
    obtain ⟨u121, hinv⟩ := hinv
    obtain ⟨u122, hinv⟩ := hinv
    obtain ⟨u123, hinv⟩ := hinv
    obtain ⟨u124, hinv⟩ := hinv
    obtain ⟨u125, hinv⟩ := hinv
    obtain ⟨u126, hinv⟩ := hinv
    obtain ⟨hrel, ha⟩ := hinv
    subst ha
    try dsimp only
    intro _ _ _ _
    obtain ⟨j, T, l, hj, rfl, rfl, hT, hs⟩ := hrel
    have HJ := Lib.hid hj
    have hj' : j ≤ m := by omega
    have HS := Lib.hid hs
    have HTL := Lib.hid hT
    clear hj hs hT
    by_cases hlt : j < m
    · gi_wp2_with fail
      refine ⟨trivial, ?_⟩
      refine (callsIn_wide.2 (tfree (HS.out.get (.head _)))).mono ?_
      rintro e w2 ⟨rfl, rfl⟩
      gi_wp2_with fail
      refine ⟨trivial, ?_⟩
      refine (callsIn_wide.2 (in_any _ _ _)).mono ?_
      rintro e w2 ⟨rfl, rfl⟩
      gi_wp2_with fail
      obtain ⟨W0, hW0⟩ : ∃ W0 : World, W0 = ((wr.alloc (.cells #[.int .i64 (-1)] 3)).alloc (.cells #[.pointer (some ⟨g, 0, none⟩)] 24)).alloc (.cells #[.int .i64 0] 3) := ⟨_, rfl⟩
      obtain ⟨b0, hb0⟩ : ∃ b0, b0 = wr.heap.size := ⟨_, rfl⟩
      obtain ⟨b1, hb1⟩ : ∃ b1, b1 = wr.heap.size + 1 := ⟨_, rfl⟩
      obtain ⟨b2, hb2⟩ : ∃ b2, b2 = wr.heap.size + 1 + 1 := ⟨_, rfl⟩
      have H0 : Sep w.heap.size w W0 ([blkOb b2 3 #[.int .i64 0], blkOb b1 24 #[.pointer (some ⟨g, 0, none⟩)], blkOb b0 3 #[.int .i64 (-1)], tabOb g p k T] ++ marks l) := by
        rw [hW0]
        exact ((HS.out.newBlk b0 _ _ hb0).newBlk b1 _ _ (by simp; omega)).newBlk b2 _ _ (by simp; omega)
      have hs0 : W0.heap.size = wr.heap.size + 3 := by rw [hW0]; simp
      rw [← hW0]
      rw [← hb2, ← hb1, ← hb0]
      obtain ⟨OS, hOS⟩ : ∃ OS : Int → List Ob, OS = fun v => [blkOb b2 3 #[.int .i64 0], blkOb b1 24 #[.pointer (some ⟨g, 0, none⟩)], blkOb b0 3 #[.int .i64 v], tabOb g p k T] ++ marks l := ⟨_, rfl⟩
      have HC : Hid (∀ v o, o ∈ OS v → CellOb o ∨ ∀ k, o.F k → k < W0.heap.size) := fun v o ho => by
        rw [hOS] at ho
        rcases List.mem_append.1 ho with ho | ho
        · left
          have hA : AllCells [blkOb b2 3 #[.int .i64 0], blkOb b1 24 #[.pointer (some ⟨g, 0, none⟩)], blkOb b0 3 #[.int .i64 v], tabOb g p k T] := AllCells.cons (cellOb_blk _ _ _) (AllCells.cons (cellOb_blk _ _ _) (AllCells.cons (cellOb_blk _ _ _) (AllCells.cons (cellOb_tab _ _ _ _) AllCells.nil)))
          exact hA o ho
        · right
          intro q hq
          have := marks_low HS.out o ho q hq
          omega
      have HOS := Lib.hid hOS
      have H0 : Hid (Sep w.heap.size w W0 (OS (-1))) := by show Sep _ _ _ _; rw [hOS]; exact H0
      have HN0 : Hid (W0.heap.size = wr.heap.size + 3 ∧ b0 = wr.heap.size ∧ w.heap.size ≤ wr.heap.size) := ⟨hs0, hb0, HS.out.big⟩
      have HML := Lib.hid (marks_low HS.out)
      clear hW0 hOS hs0 hb0 hb1 hb2 HS
      refine wpIn_cut_markB (fun D W => W0.heap.size ≤ D ∧ W.heap[D]? = some (.deferred (some [])) ∧ Sep w.heap.size w W (OS (leastV T))) ?first ?rest
      case first =>
        intro K' hK'
        have HK' := Lib.hid hK'
        clear hK'
        refine wpIn_rangeFunc_on rfl (by omega) (gf := 46) (lb := #[.pointer (some ⟨b1, 0, none⟩), .pointer (some ⟨b2, 0, none⟩)]) rfl trivial (enters_of Tryd.func46 (by kernel_rfl) rfl)
          (fun pre V => pre = [] ∧ Sep w.heap.size w V (OS (-1)))
          (fun c pre V => c = .exit 2 ∧ ∃ x : Nat, pre = [x] ∧ Sep w.heap.size w V (OS (x : Int)))
          (in1_on b1 b2 g k 0 p T (by omega) _ W0 (fun V hV => by
            have h := hV.2
            rw [HOS.out] at h
            have k2 : Blk V b2 3 #[.int .i64 0] := h.get (.head _)
            have k1 : Blk V b1 24 #[.pointer (some ⟨g, 0, none⟩)] := h.get (.tail _ (.head _))
            exact ⟨k1.cell 0, k2.cell 0, h.get (.tail _ (.tail _ (.tail _ (.head _))))⟩)) (fun _ => rfl)
          ?hI ?hIx ⟨rfl, H0.out⟩
          (fun x => { tmps := #[.int .u8 (n8 a), .int .u8 (n8 b), .slice A m c, undef, undef, undef, .bool false, .pointer (some ⟨g, 0, none⟩), .int .i64 (n : Int), .int .i64 (k : Int), .int .i64 (j : Int), .int .i64 (cnt T 0 : Int), .pointer (some ⟨b0, 0, none⟩), .int .i64 (x : Int), u14, u15, u16, u17, u18, u19, u20, u21, .slice A m c, .int .i64 (m : Int), .bool (decide (200 < (m : Int))), undef, .tuple #[.pointer (some ⟨g, 0, none⟩), .int .i64 (n : Int), .int .i64 (k : Int)], .int .u8 (n8 a), .int .u8 (n8 b), .tuple #[.pointer (some ⟨g, 0, none⟩), .int .i64 (n : Int), .int .i64 (k : Int)], .pointer (some ⟨g, 0, none⟩), .int .i64 (n : Int), .int .i64 (k : Int), .pointer (some ⟨g, 0, none⟩), .bool false, .int .i64 (j : Int), .slice A m c, .int .i64 (m : Int), .bool true, u39, u40, .pointer (some ⟨g, 0, none⟩), .int .i64 (cnt T 0 : Int), .pointer (some ⟨g, 0, none⟩), .func (.func 46) #[] #[.pointer (some ⟨b1, 0, none⟩), .pointer (some ⟨b2, 0, none⟩)], .int .i64 (x : Int), undef, u47, u48, u49, u50, u51, u52, u53, u54, u55, u56, u57, u58, u59, u60, u61, u62, u63, u64, u65, u66, u67, u68, u69, u70, u71, u72, u73, u74, u75, u76, u77, u78, u79, u80, u81, u82, u83, u84, u85, u86, u87, u88, u89, u90, u91, u92, u93, u94, u95, u96, u97, u98, u99, u100, u101, u102, u103, u104, u105, u106, u107, u108, u109, u110, u111, u112, u113, u114, u115, u116, u117, u118, u119, u120, u121, u122, u123, u124, u125, u126, undef], defers := [] }) ?assign ?body ?done ?stop
        case hI =>
          rintro pre V V' row ⟨h1, h2⟩ hg hr
          exact ⟨h1, h2.othersM (HC.out _) (by have := HN0.out; omega) hg hr⟩
        case hIx =>
          rintro c pre V V' row ⟨h1, x, h2, h3⟩ hg hr
          exact ⟨h1, x, h2, h3.othersM (HC.out _) (by have := HN0.out; omega) hg hr⟩
        case assign =>
          intro l' x V K hK
          gi_wp2
          exact hK
        case body =>
          rintro l' pre x V ⟨rfl, hs⟩ hpx hVs
          have h := hs
          rw [HOS.out] at h
          have k0 : Blk V b0 3 #[.int .i64 (-1)] := h.get (.tail _ (.tail _ (.head _)))
          have q0 : V.cell? ⟨b0, 0, none⟩ = some (.int .i64 (-1)) := k0.cell 0
          have f0 := k0.frozen 0
          have HSX : Hid (Sep w.heap.size w (V.setCell ⟨b0, 0, none⟩ (.int .i64 (x : Int))) (OS (x : Int))) := by
            show Sep _ _ _ _
            rw [HOS.out]
            have h2 : Sep w.heap.size w V (blkOb b0 3 #[.int .i64 (-1)] :: ([blkOb b2 3 #[.int .i64 0], blkOb b1 24 #[.pointer (some ⟨g, 0, none⟩)]] ++ ([tabOb g p k T] ++ marks l))) := h.perm (List.perm_middle (l₁ := [_, _]))
            exact (h2.setBlk 0 (.int .i64 (x : Int))).perm (List.perm_middle (l₁ := [_, _])).symm
          clear hs h k0 hpx
          gi_wp2
          refine ⟨KeepsAll.of_chg (F := fun q => q = b0) ((Chg.refl (fun q => q = b0) V).setCell (p := ⟨b0, 0, none⟩) (.inl rfl) _) (fun q hq => by have e : q = b0 := hq; have := HN0.out; omega), rfl, x, rfl, HSX.out⟩
        case done =>
          rintro D xs V hD hS ⟨rfl, hs⟩ hK
          refine HK'.out D V ⟨hD, hK, ?_⟩
          rw [least_none T hS.symm]
          exact hs
        case stop =>
          rintro D c pre V hD hpre ⟨rfl, x, rfl, hs⟩ hK
          have hs' : Sep w.heap.size w V (OS (leastV T)) := by rw [least_pre T x hpre]; exact hs
          have HX := Lib.hid hs'
          have HD := Lib.hid hD
          have HK := Lib.hid hK
          clear hs hs' hpre hD hK
          gi_wp2
          exact HK'.out D V ⟨HD.out, HK.out, HX.out⟩
      case rest =>
        rintro D W3 ⟨hD, hK, hs⟩
        try dsimp only
        have HS3 : Hid (Sep w.heap.size w W3 (tabOb g p k T :: blkOb b0 3 #[.int .i64 (leastV T)] :: marks (D :: l))) := by
          rw [HOS.out] at hs
          have h1 : Sep w.heap.size w W3 ([blkOb b0 3 #[.int .i64 (leastV T)], tabOb g p k T] ++ marks l) := hs.sub (.cons _ (.cons _ (List.Sublist.refl _)))
          have h2 : Sep w.heap.size w W3 ([tabOb g p k T, blkOb b0 3 #[.int .i64 (leastV T)]] ++ marks l) := h1.perm (List.Perm.swap _ _ _)
          refine grow_marks (os := [tabOb g p k T, blkOb b0 3 #[.int .i64 (leastV T)]]) h2 hK (by have := HN0.out; omega) (fun o ho q hq e => ?_)
          have h0 := H0.out
          rw [HOS.out] at h0
          have hn0 := HN0.out
          rcases List.mem_append.1 ho with ho | ho
          · rcases List.mem_cons.1 ho with rfl | ho
            · have := (tabOb g p k T).lt (h0.get (.tail _ (.tail _ (.tail _ (.head _))))) q hq
              omega
            · rcases List.mem_cons.1 ho with rfl | ho
              · have e' : q = b0 := hq
                omega
              · cases ho
          · have := HML.out o ho q hq
            omega
        clear hD hK hs HC H0 HOS HML
        have HT3 := Lib.hid (HS3.out.laid HL.out hB).tab
        have HO1 : Hid (Calls Tryd.prog 27 #[.pointer (some ⟨g, 0, none⟩), .int .i64 1] W3 fun e w' => e = .returned (.tuple #[.int .i64 (firstIn T 1 : Int), .bool (decide (0 < cnt T 1))]) ∧ W3 = w') := tonly HS3.out.table 1 (.inl rfl) HT3.out _ _ (next_firstIn T 1)
        have HO4 : Hid (Calls Tryd.prog 27 #[.pointer (some ⟨g, 0, none⟩), .int .i64 4] W3 fun e w' => e = .returned (.tuple #[.int .i64 (firstIn T 4 : Int), .bool (decide (0 < cnt T 4))]) ∧ W3 = w') := tonly HS3.out.table 4 (.inr (.inr rfl)) HT3.out _ _ (next_firstIn T 4)
        have HDO := Lib.hid (sep_do HS3.out HL.out hB (ts j).a (ts j).s n HTL.out)
        have HTL2 : Hid ((doT T k (ts j).a (ts j).s).length = n) := (doT_length _ _ _ _).trans HTL.out
        have HRA := Lib.hid (res_active T k (ts j).a (ts j).s)
        have HRO := Lib.hid (res_output T k (ts j).a (ts j).s)
        have HRF := Lib.hid (do_free T k (ts j).a (ts j).s (by have := HTL.out; omega))
        have hcl := cnt_le T 0
        rw [HTL.out] at hcl
        have hcl2 := cnt_le (doT T k (ts j).a (ts j).s) 0
        rw [HTL2.out] at hcl2
        obtain ⟨vv, hvv⟩ : ∃ vv, doV T k (ts j).a (ts j).s = vv := ⟨_, rfl⟩
        obtain ⟨ee, hee⟩ : ∃ ee, doE T k (ts j).a (ts j).s = ee := ⟨_, rfl⟩
        obtain ⟨T', hT'⟩ : ∃ T', doT T k (ts j).a (ts j).s = T' := ⟨_, rfl⟩
        obtain ⟨le_, hle⟩ : ∃ le_, leastV T = le_ := ⟨_, rfl⟩
        obtain ⟨f1, hf1⟩ : ∃ f1, firstIn T 1 = f1 := ⟨_, rfl⟩
        obtain ⟨f4, hf4⟩ : ∃ f4, firstIn T 4 = f4 := ⟨_, rfl⟩
        obtain ⟨n0, hn0⟩ : ∃ n0, cnt T 0 = n0 := ⟨_, rfl⟩
        obtain ⟨n1, hn1⟩ : ∃ n1, cnt T 1 = n1 := ⟨_, rfl⟩
        obtain ⟨n4, hn4⟩ : ∃ n4, cnt T 4 = n4 := ⟨_, rfl⟩
        obtain ⟨n0', hn0'⟩ : ∃ n0', cnt T' 0 = n0' := ⟨_, rfl⟩
        rw [hT'] at HTL2
        rw [hvv, hee, hT', hle] at HDO
        rw [hf1, hn1] at HO1
        rw [hf4, hn4] at HO4
        rw [hvv, hee, hT', hle, hn0, hn1, hn0'] at HRA
        rw [hvv, hee, hle, hn0, hn4] at HRO
        rw [hT', hn0, hn0'] at HRF
        rw [hn0] at hcl
        rw [hT', hn0'] at hcl2
        rw [hle] at HS3 
        rw [hn0]
        have HN0' := Lib.hid hn0'
        obtain ⟨ad, ht⟩ := HR.out.below HS3.out.bel j hlt
        obtain rfl := ht.a
        have c0 := ht.c0
        have c1 := ht.c1
        have HTT : Hid (∀ W, Below w.heap.size w W → TurnAt W w.heap.size (some ad) j ad (ts j)) := fun W hW => by
          obtain ⟨ad', ht'⟩ := HR.out.below hW j hlt
          have := ht'.a
          injection this with this
          subst this
          exact ht'
        clear ht hvv hee hT' hle hf1 hf4 hn0 hn1 hn4 hn0' HT3
        gi_wp2_with fail
        refine ⟨trivial, ?_⟩
        refine (callsIn_wide.2 HO1.out).mono ?_
        rintro e w5 ⟨rfl, rfl⟩
        gi_wp2_with fail
        refine ⟨trivial, ?_⟩
        refine (callsIn_wide.2 HO4.out).mono ?_
        rintro e w5 ⟨rfl, rfl⟩
        gi_wp2_with fail
        refine ⟨trivial, ?_⟩
        refine (callsIn_wide.2 HDO.out).mono ?_
        rintro e w5 ⟨rfl, hs⟩
        have HS5 := Lib.hid hs
        obtain ⟨_, _, c0', c1'⟩ := HTT.out _ hs.bel
        have HF5 := Lib.hid (tfree hs.table)
        rw [HN0'.out] at HF5
        have hblk : Blk w5 b0 3 #[.int .i64 le_] := hs.get (.tail _ (.head _))
        have q0 : w5.cell? ⟨b0, 0, none⟩ = some (.int .i64 le_) := hblk.cell 0
        obtain ⟨kk, hkk⟩ : ∃ kk : Nat, (ts j).a.toNat % 8 = kk := ⟨_, rfl⟩
        have hka : n8 (ts j).a % 8 = (kk : Int) := by rw [n8_nat]; omega
        have hkk8 : kk < 8 := by omega
        obtain ⟨ha1, ha2⟩ := n8_bd (ts j).a
        rw [hkk] at HRA HRO
        clear hs hblk c0 c1 c1' hkk HO1 HO4 HDO HTT HS3 HN0'
        by_cases hk01 : kk = 0 ∨ kk = 1
        · rcases HRA.out hk01 with ⟨h1, rfl⟩ | ⟨h1, h2, rfl⟩ | ⟨h1, h2, rfl, rfl, h5⟩
          · have d1 : decide (0 < n1) = true := by simpa using h1
            clear h1 hkk8
            rcases hk01 with rfl | rfl
            all_goals
              gi_wp2_with (refine ⟨trivial, ?_⟩)
              gi_roundg (gk - 1)
              case measure => have := HJ.out; omega
              case rel => exact ⟨j + 1, T', D :: l, by have := HJ.out; omega, by go_num, rfl, HTL2.out, HS5.out.sub (.cons_cons _ (.cons _ (List.Sublist.refl _)))⟩
          · have d1 : decide (0 < n1) = false := by simp; omega
            have d2 : decide (n0 ≤ k) = true := by simp; omega
            clear h1 h2 hkk8
            rcases hk01 with rfl | rfl
            all_goals
              gi_wp2_with (refine ⟨trivial, ?_⟩)
              gi_roundg (gk - 1)
              case measure => have := HJ.out; omega
              case rel => exact ⟨j + 1, T', D :: l, by have := HJ.out; omega, by go_num, rfl, HTL2.out, HS5.out.sub (.cons_cons _ (.cons _ (List.Sublist.refl _)))⟩
          · have d1 : decide (0 < n1) = false := by simp; omega
            have d2 : decide (n0 ≤ k) = false := by simp; omega
            have d3 : decide (n0' < k) = false := by simp; omega
            clear h1 h2 h5 hkk8
            rcases hk01 with rfl | rfl
            all_goals
              gi_wp2_with (first | (refine ⟨trivial, ?_⟩; gi_at_call 15; refine (callsIn_wide.2 HF5.out).mono ?_; rintro e w6 ⟨rfl, rfl⟩) | (refine ⟨trivial, ?_⟩))
              gi_roundg (gk - 1)
              case measure => have := HJ.out; omega
              case rel => exact ⟨j + 1, T', D :: l, by have := HJ.out; omega, by go_num, rfl, HTL2.out, HS5.out.sub (.cons_cons _ (.cons _ (List.Sublist.refl _)))⟩
        by_cases hk2 : kk = 2
        · rcases HRO.out hk2 with ⟨h1, rfl⟩ | ⟨h1, h2, rfl⟩ | ⟨h1, h2, rfl, rfl⟩
          · have d1 : decide (0 < n4) = true := by simpa using h1
            clear h1 hkk8 hk01
            subst hk2
            all_goals
              gi_wp2_with (refine ⟨trivial, ?_⟩)
              gi_roundg (gk - 1)
              case measure => have := HJ.out; omega
              case rel => exact ⟨j + 1, T', D :: l, by have := HJ.out; omega, by go_num, rfl, HTL2.out, HS5.out.sub (.cons_cons _ (.cons _ (List.Sublist.refl _)))⟩
          · have d1 : decide (0 < n4) = false := by simp; omega
            subst h2
            clear h1 hkk8 hk01
            subst hk2
            all_goals
              gi_wp2_with (refine ⟨trivial, ?_⟩)
              gi_roundg (gk - 1)
              case measure => have := HJ.out; omega
              case rel => exact ⟨j + 1, T', D :: l, by have := HJ.out; omega, by go_num, rfl, HTL2.out, HS5.out.sub (.cons_cons _ (.cons _ (List.Sublist.refl _)))⟩
          · have d1 : decide (0 < n4) = false := by simp; omega
            have d2 : ((n0 : Int) == 0) = false := by simp; omega
            clear h1 h2 hkk8 hk01
            subst hk2
            all_goals
              gi_wp2_with (first | (refine ⟨trivial, ?_⟩; gi_at_call 15; refine (callsIn_wide.2 HF5.out).mono ?_; rintro e w6 ⟨rfl, rfl⟩) | (refine ⟨trivial, ?_⟩))
              gi_roundg (gk - 1)
              case measure => have := HJ.out; omega
              case rel => exact ⟨j + 1, T', D :: l, by have := HJ.out; omega, by go_num, rfl, HTL2.out, HS5.out.sub (.cons_cons _ (.cons _ (List.Sublist.refl _)))⟩
        obtain ⟨hf1, hf2⟩ := HRF.out
        have d1 : decide ((n0' : Int) < (n0 : Int) - 1) = false := by simp; omega
        have d2 : decide ((n0 : Int) + 1 < (n0' : Int)) = false := by simp; omega
        have hk3 : kk = 3 ∨ kk = 4 ∨ kk = 5 ∨ kk = 6 ∨ kk = 7 := by omega
        clear hk01 hk2 hkk8 hf1 hf2
        rcases hk3 with rfl | rfl | rfl | rfl | rfl
        all_goals
          gi_wp2_with (first | (refine ⟨trivial, ?_⟩; gi_at_call 15; refine (callsIn_wide.2 HF5.out).mono ?_; rintro e w6 ⟨rfl, rfl⟩) | (refine ⟨trivial, ?_⟩))
          gi_roundg (gk - 1)
          case measure => have := HJ.out; omega
          case rel => exact ⟨j + 1, T', D :: l, by have := HJ.out; omega, by go_num, rfl, HTL2.out, HS5.out.sub (.cons_cons _ (.cons _ (List.Sublist.refl _)))⟩
    · gi_wp2_with fail
      refine ⟨trivial, ?_⟩
      refine (callsIn_wide.2 (works_any _ (HS.out.laid HL.out hB))).mono ?_
      rintro e w17 ⟨rfl, hb⟩
      have HB17 : Hid (Sep w.heap.size w w17 ([] ++ marks l)) := (HS.out.below hb).sub (.cons _ (List.Sublist.refl _))
      clear hb
      gi_wp2_with fail
      exact leaves_sep HB17.out (fun w' hs hc => ⟨.bool true, by simp [results, Tryd.f7, go_sem], rfl, hs.bel⟩)
theorem SlotsReserve_walk (v0 v1 v2 : Value) (w : World) (hl : LaidIn w) (h0 : ArgIn Tryd.prog w 5 v0) (h1 : ArgIn Tryd.prog w 5 v1) (h2 : ArgIn Tryd.prog w 22 v2) :
    Calls Tryd.prog 7 #[v0, v1, v2] w fun e w' => e = .returned (.bool true) ∧ Below w.heap.size w w' := by
  obtain ⟨m0, rfl, e0⟩ := h0.int (k := .u8) Tryd.underlying5
  obtain ⟨m1, rfl, e1⟩ := h1.int (k := .u8) Tryd.underlying5
  obtain ⟨b0, rfl⟩ := u8_of_wf e0
  obtain ⟨b1, rfl⟩ := u8_of_wf e1
  obtain ⟨A, n, c, ts, rfl, k1, k2, k3⟩ := turns_arg h2
  exact SlotsReserve_w b0 b1 A n c ts w hl k3 k1 k2
end Go.Proofs.YtalonikiljcpfaaDoor
