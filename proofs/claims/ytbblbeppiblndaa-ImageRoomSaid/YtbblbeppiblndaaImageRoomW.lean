/-
  The walk of the law ImageRoom: it returns true and writes nothing that was there. No condition.
-/
import Derived.Test.YtbblbeppiblndaaImgFill
import Derived.Test.YtbblbeppiblndaaRepeat
namespace Go.Proofs.Ytbblbeppiblndaa
open Go.RowKit
set_option linter.unusedVariables false
set_option maxHeartbeats 400000 in
theorem clone_b (a : Addr) (n c B : Nat) (l : List (BitVec 8)) (w : World) (hr : Reads w B 1 (some a) n (u8s l)) (hB : B ≤ w.heap.size) (hn : n ≤ 65536) :
    Calls Try.prog 33 #[.slice (some a) n c] w fun e w' => ∃ v, e = .returned v ∧ w'.ownsRow w.heap.size 5 1 v n (u8s l) ∧ Below w.heap.size w w' := by
  obtain ⟨i0, hi0, hz0, hz1, hz2⟩ := info_parts u8_info
  have HR := Lib.hid hr
  clear hr
  have hq := fun W => Lib.run_eql_slice_nil (P := Try.prog) W 25 5 (some a) n c 0 0 Try.underlying25
  have hown0 : (w.alloc (.cells #[] 5)).ownsRow w.heap.size 5 1 (.slice (some ⟨w.heap.size, 0, none⟩) 0 0) 0 [] := World.ownsRow_made w #[] 0 (Nat.le_refl _) (by unfold maxLen; omega) (by simp)
  have HO := Lib.hid hown0
  clear hown0
  have HBL : Hid (∀ p : Addr, p.block < B → (w.alloc (.cells #[] 5)).cell? p = w.cell? p) := fun p hp => World.cell?_alloc_lt w _ p (by omega)
  go_enter Try.func33, Try.ntmps33
  go_wp2_with (at_builtin
               refine wpList_append_g _ rfl (.tmp 5) (.tmp 6) _ rfl w.heap.size 5 i0 _ 1 1 Try.underlying25 hi0 hz0 hz1 hz2 rfl (by omega) (.slice (some ⟨w.heap.size, 0, none⟩) 0 0) 0 [] rfl
                 HO.out B (some a) n c (u8s l) rfl (HR.out.keep (fun p hp => HBL.out p hp)) (u8s_one l) (by simp only [maxLen]; omega) (by omega) (by simp) ?_
               intro v1 w4 hown1 hg1 hat1
               have HO1 := Lib.hid hown1
               have HB4 := Lib.hid (((Below.refl w.heap.size w).alloc (Nat.le_refl _) (.cells #[] 5)).grown hg1 (by simp) (by intro q hq; simp [Value.ownBlock] at hq; omega))
               clear hown1 hg1 hat1)
  go_ret
  exact ⟨_, rfl, by simpa using HO1.out, HB4.out⟩
theorem repeat_int {w : World} {A : Addr} {c : Nat} {b : BitVec 8} (hA : A.block < w.heap.size) (x : Int) (hx : x = n8 b) (hcell : w.cell? A = some (.int .u8 x)) (k : Nat) (hk : k ≤ 8192) (z : Int) (hz : z = k) :
    Calls Try.prog 32 #[.slice (some A) 1 c, .int .i64 z] w fun e w' => ∃ h v, e = .returned v ∧ RowAt w' h v (reps k b) ∧ w.heap.size ≤ h ∧ Below w.heap.size w w' := by
  subst hx hz; exact repeat_any hA hcell k hk
theorem run_clear_row {w : World} {h n : Nat} {cs : Array Value} (hb : Blk w h 5 cs) (hn : n ≤ cs.size) (ty : TypeId) :
    ∃ w', (Builtin.clear_ #[25] ty #[.slice (some ⟨h, 0, none⟩) n n]).run Try.prog w = .ok (.tuple #[]) w' ∧ Chg (fun k => k = h) w w' := by
  rcases Nat.eq_zero_or_pos n with h0 | hpos
  · subst h0
    exact ⟨w, by simp [Builtin.clear_, run_underlying Try.underlying25], Chg.refl _ _⟩
  · have hz : ∀ w, (zeroValue 5).run Try.prog w = .ok (.int .u8 0) w := fun w => by kernel_rfl
    obtain ⟨cs', b1, b2, b3, b4⟩ := setCells_blk h 5 (List.replicate n (.int .u8 0)) 0 w cs hb (by simp; omega)
    have hrun := Lib.run_clear_slice (P := Try.prog) w 25 5 ty (.int .u8 0) Try.underlying25 hz rfl rfl h 0 n n hpos
      (fun j hj => by rw [hb.cell, Array.getElem?_eq_getElem (by omega)]; rfl) (fun j hj => hb.frozen _)
    exact ⟨_, hrun, b4.mono (fun i hi e => by injection e with e; exact e.symm)⟩
theorem RowAt.chg {F : Nat → Prop} {w w' : World} {h : Nat} {v : Value} {l : List (BitVec 8)} (hr : RowAt w h v l) (hc : Chg F w w') (hF : ¬ F h) : RowAt w' h v l := by
  obtain ⟨h1, cs, hb, hl, hat⟩ := hr
  exact ⟨h1, cs, hb.chg hc hF, hl, hat⟩
theorem RowAt.lt {w : World} {h : Nat} {v : Value} {l : List (BitVec 8)} (hr : RowAt w h v l) : h < w.heap.size := by
  obtain ⟨h1, cs, hb, hl, hat⟩ := hr
  exact hb.lt
set_option maxHeartbeats 4000000 in
theorem ImageRoom_w (A : Option Addr) (n c : Nat) (more : Int) (w : World) (hm : MovesAt w w.heap.size A n) (hn : n ≤ c) (hc : c ≤ maxLen) (hk0 : 0 ≤ more) (hk1 : more < 65536) :
    Calls Try.prog 9 #[.slice A n c, .int .u16 more] w fun e w' => e = .returned (.bool true) ∧ Below w.heap.size w w' := by
  have HM := Lib.hid hm
  clear hm
  go_enter Try.func9, Try.ntmps9
  go_wp2_with fail
  refine (filled_any HM.out hn hc).mono ?_
  rintro e w1 ⟨g, fb, l, dur, v, rfl, hs⟩
  have H1 := Lib.hid hs
  have hnum := hs.img.nums
  obtain ⟨A8, c8, rfl, hA8, hc8, hr8⟩ := own_slice (hs.get (.head _))
  unfold maxLen at hc8
  clear hs hr8
  go_wp2_with fail
  refine (st_room' H1.out (300 - (l.length : Int)) rfl).mono ?_
  rintro e w2 ⟨rfl, hs, _⟩
  have H2 := Lib.hid hs
  clear hs
  go_wp2_with fail
  refine (st_size H2.out).mono ?_
  rintro e w3 ⟨rfl, rfl⟩
  obtain ⟨q, hq⟩ : ∃ q : Nat, 300 - (l.length : Int) + 1 + more % 100 = (q : Int) := ⟨(300 - (l.length : Int) + 1 + more % 100).toNat, by omega⟩
  have hql : q ≤ 400 ∧ 300 < l.length + q := by omega
  have hmk : ∀ W, (Instr.makeSlice 25 (.int .i64 (300 - (l.length : Int) + 1 + more % 100)) (.int .i64 (300 - (l.length : Int) + 1 + more % 100))).run Try.prog W = .ok (.slice (some ⟨W.heap.size, 0, none⟩) q q) (W.alloc (.cells (u8s (zbytes q)).toArray 5)) := fun W => by rw [hq]; exact make_bytes .i64 q (by omega) W
  clear hq
  go_wp2_with fail
  refine (st_room' H2.out (300 - (l.length : Int)) rfl).mono ?_
  rintro e w4 ⟨rfl, hs, _⟩
  have H4 := Lib.hid hs
  clear hs
  go_wp2_with fail
  refine (st_append_full (H4.out.alloc _) (holds_new _ _ _ (zbytes q) q q (zbytes_length _).symm (by omega) (by omega) rfl) (by rw [zbytes_length]; omega)).mono ?_
  rintro e w5 ⟨rfl, hs, _⟩
  have H5 := Lib.hid hs
  clear hs hmk
  go_wp2_with fail
  refine (has_any H5.out (H5.out.get (.head _)).holds).mono ?_
  rintro e w6 ⟨rfl, hs, _⟩
  have H6 := Lib.hid hs
  clear hs
  obtain ⟨k, hk⟩ : ∃ k : Nat, l.length + k = 300 := ⟨300 - l.length, by omega⟩
  have HK := Lib.hid hk
  have hk300 : k ≤ 300 := by omega
  go_wp2_with fail
  refine (repeat_int (b := 9#8) (by simp) 9 (by rw [n8_nat]; rfl) ((Blk.new w6 5 #[.int .u8 9]).cell 0) k (by omega) _ (by omega)).mono ?_
  rintro e w7 ⟨h, v7, rfl, hrow, hh, hb⟩
  have H7 := Lib.hid ((H6.out.alloc _).below hb)
  have HROW := Lib.hid hrow
  have hv7 := hrow.1
  rw [reps_length] at hv7
  subst hv7
  have hh6 : w6.heap.size < h := by simp at hh; omega
  have HLT7 : Hid (∀ k, foot g fb k → k < w6.heap.size) := H6.out.img.lt
  have K8 : Hid (∀ k, (Value.slice A8 l.length c8).ownBlock = some k → k < w6.heap.size) := fun k hk => ((H6.out.get (.head _)).lt k hk).2
  have hh7 : h < w7.heap.size := hrow.lt
  clear hrow hh hb hk
  go_wp2_with fail
  have hrd : Reads w7 w7.heap.size 1 (some ⟨h, 0, none⟩) k (u8s (reps k 9#8)) := by have := HROW.out.reads; rwa [reps_length] at this
  refine (clone_b _ k k _ (reps k 9#8) _ hrd (Nat.le_refl _) (by omega)).mono ?_
  rintro e w8 ⟨vg, rfl, hog, hb⟩
  have HOG : Hid (Own8 w8 w.heap.size vg (reps k 9#8)) := by
    have h1 := own_base hog (base' := w.heap.size) (fun k hk => by have := (hog.lt k hk).1; have := H7.out.big; omega)
    exact (Own8.of h1).1
  have KG : Hid (∀ k, vg.ownBlock = some k → w7.heap.size ≤ k) := fun k hk => (hog.lt k hk).1
  have H8 := Lib.hid ((H7.out.below hb).add HOG.out (fun k hk hf => by have := KG.out k hk; have := H7.out.img.lt k hf; omega))
  have HROW8 := Lib.hid (HROW.out.chg (F := fun _ => False) (Chg.of_below hb) (fun h => h))
  clear hog hb hrd
  go_wp2_with fail
  refine (st_append H8.out (HROW8.out.holds (by rw [reps_length]; unfold maxLen; omega)) (by rw [reps_length]; have := HK.out; omega)).mono ?_
  rintro e w9 ⟨rfl, fb9, hs, hch, hfb⟩
  have H9 := Lib.hid hs
  have HROW9 := Lib.hid (HROW8.out.chg hch (fun hf => by have := HLT7.out _ hf; omega))
  have HF9 : Hid (∀ k, foot g fb9 k → k ≠ h) := by
    intro k hk e
    subst e
    rcases hk with hk | hk
    · have := HLT7.out k (.inl hk); omega
    · rcases hfb with rfl | ⟨k', e, hk'⟩
      · have := HLT7.out k (.inr hk); omega
      · rw [e] at hk; injection hk with hk; have := HROW8.out.lt; omega
  clear hs hch hfb
  obtain ⟨hv9, cs9, hb9, hl9, hat9⟩ := HROW9.out
  rw [reps_length] at hl9
  obtain ⟨w10, hclr, hch10⟩ := run_clear_row hb9 hl9 0
  have H10 := Lib.hid (H9.out.touch hch10 (fun k hk => by subst hk; exact ⟨by have := H6.out.big; omega, fun hf => HF9.out _ hf rfl⟩) [(vg, reps k 9#8), (.slice A8 l.length c8, l)] (fun p hp => by
    rcases List.mem_cons.1 hp with rfl | hp
    · exact ⟨.head _, fun k hk hf => by have := KG.out k hk; omega⟩
    · rcases List.mem_cons.1 hp with rfl | hp
      · exact ⟨.tail _ (.head _), fun k hk hf => by have := K8.out k hk; omega⟩
      · cases hp))
  clear hb9 hl9 hch10 hv9 hat9
  go_wp2_with fail
  have hlen : (l ++ reps k 9#8).length = 300 := by rw [List.length_append, reps_length]; exact HK.out
  refine (st_room' H10.out 0 (by rw [hlen]; rfl)).mono ?_
  rintro e w11 ⟨rfl, hs, _⟩
  have H11 := Lib.hid hs
  have HLEN := Lib.hid hlen
  clear hs hlen
  obtain ⟨Ag, cg, rfl, hAg, hcg, hrg⟩ := own_slice (H11.out.get (.head _))
  rw [reps_length] at hrg
  have HRG := Lib.hid hrg
  have HKL := Lib.hid (reps_length k 9#8)
  have H11' : Hid (St w.heap.size w w11 g fb9 (l ++ reps k 9#8) 300 dur [(.slice Ag k cg, reps k 9#8), (.slice A8 l.length c8, l)]) := by have := H11.out; rwa [HKL.out] at this
  rw [HKL.out]
  clear hrg H11 hAg
  obtain ⟨i0, hi0, hz0, hz1, hz2⟩ := info_parts u8_info
  have hsz : l.length + k ≤ 300 := by have := HK.out; omega
  go_wp2_with (at_builtin
               refine wpList_append_g _ (by simp [Region.wanted, yielded]) (.tmp 71) (.tmp 72) _ rfl w.heap.size 5 i0 _ 1 1 Try.underlying25 hi0 hz0 hz1 hz2 rfl (by omega) (.slice A8 l.length c8) l.length (u8s l) rfl
                 (H11'.out.get (.tail _ (.head _))) w11.heap.size Ag k cg (u8s (reps k 9#8)) rfl HRG.out (u8s_one _) (by simp only [maxLen]; omega) (by omega) H11'.out.big ?_
               intro v12 w12 hown1 hg1 hat1
               rw [u8s_append] at hown1
               have H12 := Lib.hid (H11'.out.touch ((Chg.refl (fun k => (Value.slice A8 l.length c8).ownBlock = some k) w11).grown hg1 (fun q hq => .inl hq)) (fun k hk => ⟨((H11'.out.get (.tail _ (.head _))).lt k hk).1, (H11'.out.held _ (.tail _ (.head _))).2 k hk⟩) [] (fun p hp => by cases hp))
               have HO12 := Lib.hid (Holds.of_own hown1)
               clear hown1 hg1 hat1)
  refine (has_any H12.out HO12.out).mono ?_
  rintro e w13 ⟨rfl, hs, _⟩
  have H13 := Lib.hid hs
  clear hs
  go_wp2_with fail
  refine (st_append H13.out (holds_nil _) (by rw [HLEN.out]; decide)).mono ?_
  rintro e w14 ⟨rfl, fb14, hs, _, _⟩
  have H14 := Lib.hid hs
  clear hs
  go_wp2_with fail
  refine (st_append_full (H14.out.alloc _) (holds_new _ _ _ [1#8] 1 1 rfl (by omega) (by omega) (by simp [u8s, u8v, n8_nat])) (by rw [List.append_nil, HLEN.out]; decide)).mono ?_
  rintro e w15 ⟨rfl, hs, _⟩
  have H15 := Lib.hid hs
  clear hs
  go_wp2_with fail
  refine (works_any _).mono ?_
  rintro e w16 ⟨rfl, hb⟩
  go_wp2
  go_ret
  exact ⟨rfl, bt H15.out.bel hb⟩
theorem ImageRoom_walk (v0 v1 : Value) (w : World) (h0 : ArgIn Try.prog w 22 v0) (h1 : ArgIn Try.prog w 23 v1) :
    Calls Try.prog 9 #[v0, v1] w fun e w' => e = .returned (.bool true) ∧ Below w.heap.size w w' := by
  obtain ⟨A, n, c, rfl, hn, hc, hm⟩ := moves_arg h0
  obtain ⟨a, rfl, w2⟩ := h1.int Try.underlying23
  have := u16_of_wf w2
  exact ImageRoom_w A n c a w hm hn hc (by omega) (by omega)
end Go.Proofs.Ytbblbeppiblndaa
