/-
  The walks of the document's image (drumlinref09.Image): Append, Crash, Copy. Conditions: the image is as the methods leave it.
-/
import Derived.Test.YtbblbeppiblndaaRefImg2
import Derived.Deep.RegionLaw
namespace Go.Proofs.Ytbblbeppiblndaa
open Go.RowKit
set_option linter.unusedVariables false
set_option maxHeartbeats 1000000 in
theorem append_ref {w : World} {g : Nat} {fb : Option Nat} {l : List (BitVec 8)} {size dur : Nat} (h : IsRef w g fb l size dur) (A2 : Option Addr) (n2 c2 : Nat) (b : List (BitVec 8)) (hr : Reads w w.heap.size 1 A2 n2 (u8s b)) (hf : l.length + n2 ≤ size) :
    Calls Try.prog 20 #[.pointer (some ⟨g, 0, none⟩), .slice A2 n2 c2] w fun e w' => e = .returned (.int .i64 0) ∧ ∃ fb', IsRef w' g fb' (l ++ b) size dur ∧ Chg (foot g fb) w w' ∧ (∀ k, fb' = some k → w.heap.size ≤ k) := by
  have h0 := Lib.hid h
  have hnum := h.nums
  obtain ⟨A, n, c, h, rfl⟩ := h
  have H := Lib.hid h
  have hl := h.len
  have hglt : g < w.heap.size := h.blk.lt
  obtain ⟨hc1, hc2⟩ := h.cap
  have HR := Lib.hid hr
  clear h hr
  subst hl
  have HOB : Hid ((Value.slice A l.length c).ownBlock ≠ some g) := H.out.apart
  obtain ⟨i0, hi0, hz0, hz1, hz2⟩ := info_parts u8_info
  go_enter Try.func20, Try.ntmps20
  go_wp2_with (go_at_call 37; refine (valid_ref H.out).mono ?_; rintro e w' ⟨rfl, rfl⟩)
  refine (room_ref h0.out).mono ?_
  rintro e w1 ⟨rfl, q, rfl⟩
  obtain ⟨w1, hw1⟩ : ∃ w1, w1 = w.drewN q := ⟨_, rfl⟩
  rw [← hw1]
  have hsz1 : w1.heap.size = w.heap.size := by rw [hw1]; rfl
  have hch1 : Chg (fun _ => False) w w1 := by rw [hw1]; exact (Chg.refl _ w).drewN q
  have H1 : Hid (RImg w1 g A l.length c l size dur) := H.out.chg hch1 (fun h => h) (fun _ _ h => h)
  have HR1 : Hid (Reads w1 w1.heap.size 1 A2 n2 (u8s b)) := by show Reads _ _ _ _ _ _; rw [hsz1, hw1]; exact HR.out.drewN q
  have HCH := Lib.hid hch1
  have HSZ := Lib.hid hsz1
  have hglt1 : g < w1.heap.size := by omega
  clear hw1 hch1 hsz1
  have c0 : w1.cell? ⟨g, 0, none⟩ = some (.slice A l.length c) := by rw [H1.out.blk.cell]; rfl
  have HO := Lib.hid (made0 w1)
  have HRA : Hid (Reads (w1.alloc (.cells #[] 5)) w1.heap.size 1 A l.length (u8s l)) := H1.out.reads.alloc (Nat.le_refl _) _
  go_wp2_with (first
    | (at_builtin
       refine wpList_append_g _ rfl (.tmp 14) (.tmp 18) _ rfl w1.heap.size 5 i0 _ 1 1 Try.underlying25 hi0 hz0 hz1 hz2 rfl (by omega) (.slice (some ⟨w1.heap.size, 0, none⟩) 0 0) 0 [] rfl
         HO.out w1.heap.size A _ c (u8s l) rfl HRA.out (u8s_one _) (by simp only [maxLen]; omega) (by omega) (by simp) ?_
       intro v2 w2 hown1 hg1 hat1
       have HO2 : Hid (w2.ownsRow w1.heap.size 5 1 v2 l.length (u8s l)) := by show World.ownsRow _ _ _ _ _ _ _; simpa using hown1
       have HB2 : Hid (Below w1.heap.size w1 w2) := (((Below.refl w1.heap.size w1).alloc (Nat.le_refl _) (.cells #[] 5)).grown hg1 (by simp) (by intro q hq; simp [Value.ownBlock] at hq; omega))
       have hs2 : w1.heap.size ≤ w2.heap.size := HB2.out.size
       clear hown1 hg1 hat1)
    | (at_builtin
       refine wpList_append_g _ rfl (.tmp 19) (.tmp 20) _ rfl w1.heap.size 5 i0 _ 1 1 Try.underlying25 hi0 hz0 hz1 hz2 rfl (by omega) v2 l.length (u8s l) rfl
         HO2.out w1.heap.size A2 n2 c2 (u8s b) rfl (HR1.out.below HB2.out) (u8s_one _) (by simp only [maxLen]; omega) (by omega) hs2 ?_
       intro v3 w3 hown1 hg1 hat1
       have HO3 : Hid (w3.ownsRow w1.heap.size 5 1 v3 (l.length + n2) (u8s (l ++ b))) := by rw [u8s_append] at hown1; exact hown1
       have HB3 : Hid (Below w1.heap.size w1 w3) := HB2.out.grown hg1 hs2 (fun q hq => (HO2.out.lt q hq).1)
       obtain ⟨A3, c3, rfl, _, _, _⟩ := own_slice hown1
       have d0 : w3.cell? ⟨g, 0, none⟩ = some (.slice A l.length c) := by rw [HB3.out.cell (by show g < _; omega)]; exact c0
       have f0 : w3.frozen? ⟨g, 0, none⟩ = false := (H1.out.blk.below HB3.out (by omega)).frozen 0
       clear hown1 hg1 hat1))
  go_ret
  have hb3 := H1.out.blk.below HB3.out (by omega)
  have hlt3 : ∀ k, (Value.slice A3 (l.length + n2) c3).ownBlock = some k → w1.heap.size ≤ k := fun k hk => (HO3.out.lt k hk).1
  have hn2 : n2 = b.length := by have := HR.out.1; rw [u8s_length] at this; omega
  refine ⟨rfl, _, ⟨A3, l.length + n2, c3, ⟨hb3.set_ 0 _, ?_, fun e => by have := hlt3 _ e; omega, by have := hnum.1; omega, hf, hnum.2.2.1, hnum.2.2.2⟩, rfl⟩, ?_, fun k hk => by have := hlt3 k hk; have := HSZ.out; omega⟩
  · exact own_chg (F := fun k => k = g) (own_base HO3.out (fun _ _ => Nat.zero_le _)) ((Chg.refl (fun k => k = g) w3).setCell (p := ⟨g, 0, none⟩) (.inl rfl) _) (fun k hk e => by have := hlt3 k hk; omega)
  · exact ((HCH.out.mono (fun _ _ h => h.elim)).trans (Chg.of_below (F := foot g _) HB3.out) (fun i hi h => h)).setCell (.inl (.inl rfl)) _
set_option maxHeartbeats 400000 in
theorem crash_ref_neg {w : World} {g : Nat} {fb : Option Nat} {l : List (BitVec 8)} {size dur : Nat} (h : IsRef w g fb l size dur) (keep : Int) (hk : keep < 0) :
    Calls Try.prog 23 #[.pointer (some ⟨g, 0, none⟩), .int .i64 keep] w fun e w' => e = .returned (.int .i64 2) ∧ w = w' := by
  obtain ⟨A, n, c, h, rfl⟩ := h
  have H := Lib.hid h
  clear h
  go_enter Try.func23, Try.ntmps23
  go_wp2_with (go_at_call 37; refine (valid_ref H.out).mono ?_; rintro e w' ⟨rfl, rfl⟩)
  go_ret
  exact ⟨rfl, rfl⟩
set_option maxHeartbeats 1000000 in
theorem crash_ref {w : World} {g : Nat} {fb : Option Nat} {l : List (BitVec 8)} {size dur : Nat} (h : IsRef w g fb l size dur) (keep : Int) (hk : 0 ≤ keep) (hk2 : keep ≤ 9223372036854775807) (m : Nat) (hm : m = dur + min keep.toNat (l.length - dur)) :
    Calls Try.prog 23 #[.pointer (some ⟨g, 0, none⟩), .int .i64 keep] w fun e w' => e = .returned (.int .i64 0) ∧ ∃ fb', IsRef w' g fb' (l.take m) size m ∧ Chg (foot g fb) w w' ∧ (∀ k, fb' = some k → w.heap.size ≤ k) := by
  have hnum := h.nums
  obtain ⟨A, n, c, h, rfl⟩ := h
  have H := Lib.hid h
  have hl := h.len
  have hglt : g < w.heap.size := h.blk.lt
  obtain ⟨hc1, hc2⟩ := h.cap
  subst hl
  obtain ⟨mi, hmi⟩ : ∃ mi : Int, (if (l.length : Int) - (dur : Int) < keep then (l.length : Int) - (dur : Int) else keep) = mi := ⟨_, rfl⟩
  have hmm : (dur : Int) + mi = (m : Int) := by split at hmi <;> omega
  have hml : m ≤ l.length := by omega
  have hmd : dur ≤ m := by omega
  have HMI := Lib.hid hmi
  have HMM := Lib.hid hmm
  clear h hm
  have c0 : w.cell? ⟨g, 0, none⟩ = some (.slice A l.length c) := by rw [H.out.blk.cell]; rfl
  have c1 : w.cell? ⟨g, 1, none⟩ = some (.int .i64 (dur : Int)) := by rw [H.out.blk.cell]; rfl
  have f1 : w.frozen? ⟨g, 1, none⟩ = false := H.out.blk.frozen 1
  obtain ⟨i0, hi0, hz0, hz1, hz2⟩ := info_parts u8_info
  go_enter Try.func23, Try.ntmps23
  go_wp2_with (go_at_call 37; refine (valid_ref H.out).mono ?_; rintro e w' ⟨rfl, rfl⟩)
  by_cases hlt : (l.length : Int) - (dur : Int) < keep
  · have HV : Hid ((dur : Int) + ((l.length : Int) - (dur : Int)) = (m : Int)) := by show _ = _; rw [if_pos hlt] at hmi; omega
    clear hmi hmm
    go_region
    go_wp2_with fail
    rw [HV.out]
    obtain ⟨w1, hw1⟩ : ∃ w1, w1 = (w.setCell ⟨g, 1, none⟩ (.int .i64 (m : Int))).drew := ⟨_, rfl⟩
    rw [← hw1]
    have HSZ : Hid (w1.heap.size = w.heap.size) := by show _ = _; rw [hw1]; simp [World.setCell]
    have HCH : Hid (Chg (foot g (Value.slice A l.length c).ownBlock) w w1) := by rw [hw1]; exact ((Chg.refl _ w).setCell (p := ⟨g, 1, none⟩) (.inl (.inl rfl)) _).drew
    have hb1 : Blk w1 g 65 #[.slice A l.length c, .int .i64 (m : Int), .int .i64 (size : Int)] := by rw [hw1]; exact (H.out.blk.set_ 1 _).drew
    have ho1 : w1.ownsRow 0 5 1 (.slice A l.length c) l.length (u8s l) := by
      rw [hw1]; exact own_chg (F := fun k => k = g) H.out.own ((Chg.refl (fun k => k = g) w).setCell (p := ⟨g, 1, none⟩) (.inl rfl) _).drew (fun k hk e => H.out.apart (by rw [hk, e]))
    clear hw1
    have HBL := Lib.hid hb1
    have HRA : Hid (Reads (w1.alloc (.cells #[] 5)) w1.heap.size 1 A m (u8s (l.take m))) := ((Reads.of_own ho1).take hml).alloc (Nat.le_refl _) _
    have c0 : w1.cell? ⟨g, 0, none⟩ = some (.slice A l.length c) := by rw [hb1.cell]; rfl
    have c1 : w1.cell? ⟨g, 1, none⟩ = some (.int .i64 (m : Int)) := by rw [hb1.cell]; rfl
    have f0 : w1.frozen? ⟨g, 0, none⟩ = false := hb1.frozen 0
    have HO := Lib.hid (made0 w1)
    have hglt1 : g < w1.heap.size := hb1.lt
    have hmc : m ≤ c := by omega
    clear hb1 ho1
    go_region_law ((refine step_append_any _ (by rfl) (.tmp 31) (.tmp 40) _ (by rfl) w1.heap.size 5 i0 _ 1 1 Try.underlying25 hi0 hz0 hz1 hz2 (by rfl) (by omega) (.slice (some ⟨w1.heap.size, 0, none⟩) 0 0) 0 [] (by rfl) HO.out w1.heap.size A m c (u8s (l.take m)) (by rfl) HRA.out (u8s_one _) (by simp only [maxLen]; omega) (by omega) (by simp) ?_; intro v2 w2 hown1 hg1 hat1; have HO2 := Lib.hid hown1; have HB2 := Lib.hid ((((Below.refl w1.heap.size w1).alloc (Nat.le_refl _) (.cells #[] 5)).drew).grown hg1 (by simp) (by intro q hq; simp [Value.ownBlock] at hq; omega)); obtain ⟨A3, c3, rfl, _, _, _⟩ := own_slice hown1; have d0 : w2.cell? ⟨g, 0, none⟩ = some (.slice A l.length c) := ((HBL.out.below HB2.out hglt1).cell 0).trans rfl; have f2 : w2.frozen? ⟨g, 0, none⟩ = false := (HBL.out.below HB2.out hglt1).frozen 0; clear hown1 hg1 hat1))
    all_goals
      go_wp2_with fail
      go_ret
      have hb3 := HBL.out.below HB2.out hglt1
      have hlt3 : ∀ k, (Value.slice A3 (0 + m) c3).ownBlock = some k → w1.heap.size ≤ k := fun k hk => (HO2.out.lt k hk).1
      have ho3 := HO2.out
      rw [Nat.zero_add, List.nil_append] at ho3
      rw [Nat.zero_add] at hlt3
      refine ⟨rfl, _, ⟨A3, m, c3, ⟨hb3.set_ 0 _, ?_, fun e => by have := hlt3 _ e; omega, Nat.le_refl _, by omega, hnum.2.2.1, hnum.2.2.2⟩, rfl⟩, ?_, fun k hk => by have := hlt3 k hk; have := HSZ.out; omega⟩
      · exact own_chg (F := fun k => k = g) (own_base ho3 (fun _ _ => Nat.zero_le _)) ((Chg.refl (fun k => k = g) w2).setCell (p := ⟨g, 0, none⟩) (.inl rfl) _) (fun k hk e => by have := hlt3 k hk; omega)
      · exact (HCH.out.trans (Chg.of_below (F := foot g _) HB2.out) (fun i hi h => h)).setCell (.inl (.inl rfl)) _
  · have HV : Hid ((dur : Int) + keep = (m : Int)) := by show _ = _; rw [if_neg hlt] at hmi; omega
    clear hmi hmm
    go_region
    go_wp2_with fail
    rw [HV.out]
    obtain ⟨w1, hw1⟩ : ∃ w1, w1 = (w.setCell ⟨g, 1, none⟩ (.int .i64 (m : Int))).drew := ⟨_, rfl⟩
    rw [← hw1]
    have HSZ : Hid (w1.heap.size = w.heap.size) := by show _ = _; rw [hw1]; simp [World.setCell]
    have HCH : Hid (Chg (foot g (Value.slice A l.length c).ownBlock) w w1) := by rw [hw1]; exact ((Chg.refl _ w).setCell (p := ⟨g, 1, none⟩) (.inl (.inl rfl)) _).drew
    have hb1 : Blk w1 g 65 #[.slice A l.length c, .int .i64 (m : Int), .int .i64 (size : Int)] := by rw [hw1]; exact (H.out.blk.set_ 1 _).drew
    have ho1 : w1.ownsRow 0 5 1 (.slice A l.length c) l.length (u8s l) := by
      rw [hw1]; exact own_chg (F := fun k => k = g) H.out.own ((Chg.refl (fun k => k = g) w).setCell (p := ⟨g, 1, none⟩) (.inl rfl) _).drew (fun k hk e => H.out.apart (by rw [hk, e]))
    clear hw1
    have HBL := Lib.hid hb1
    have HRA : Hid (Reads (w1.alloc (.cells #[] 5)) w1.heap.size 1 A m (u8s (l.take m))) := ((Reads.of_own ho1).take hml).alloc (Nat.le_refl _) _
    have c0 : w1.cell? ⟨g, 0, none⟩ = some (.slice A l.length c) := by rw [hb1.cell]; rfl
    have c1 : w1.cell? ⟨g, 1, none⟩ = some (.int .i64 (m : Int)) := by rw [hb1.cell]; rfl
    have f0 : w1.frozen? ⟨g, 0, none⟩ = false := hb1.frozen 0
    have HO := Lib.hid (made0 w1)
    have hglt1 : g < w1.heap.size := hb1.lt
    have hmc : m ≤ c := by omega
    clear hb1 ho1
    go_region_law ((refine step_append_any _ (by rfl) (.tmp 31) (.tmp 40) _ (by rfl) w1.heap.size 5 i0 _ 1 1 Try.underlying25 hi0 hz0 hz1 hz2 (by rfl) (by omega) (.slice (some ⟨w1.heap.size, 0, none⟩) 0 0) 0 [] (by rfl) HO.out w1.heap.size A m c (u8s (l.take m)) (by rfl) HRA.out (u8s_one _) (by simp only [maxLen]; omega) (by omega) (by simp) ?_; intro v2 w2 hown1 hg1 hat1; have HO2 := Lib.hid hown1; have HB2 := Lib.hid ((((Below.refl w1.heap.size w1).alloc (Nat.le_refl _) (.cells #[] 5)).drew).grown hg1 (by simp) (by intro q hq; simp [Value.ownBlock] at hq; omega)); obtain ⟨A3, c3, rfl, _, _, _⟩ := own_slice hown1; have d0 : w2.cell? ⟨g, 0, none⟩ = some (.slice A l.length c) := ((HBL.out.below HB2.out hglt1).cell 0).trans rfl; have f2 : w2.frozen? ⟨g, 0, none⟩ = false := (HBL.out.below HB2.out hglt1).frozen 0; clear hown1 hg1 hat1))
    all_goals
      go_wp2_with fail
      go_ret
      have hb3 := HBL.out.below HB2.out hglt1
      have hlt3 : ∀ k, (Value.slice A3 (0 + m) c3).ownBlock = some k → w1.heap.size ≤ k := fun k hk => (HO2.out.lt k hk).1
      have ho3 := HO2.out
      rw [Nat.zero_add, List.nil_append] at ho3
      rw [Nat.zero_add] at hlt3
      refine ⟨rfl, _, ⟨A3, m, c3, ⟨hb3.set_ 0 _, ?_, fun e => by have := hlt3 _ e; omega, Nat.le_refl _, by omega, hnum.2.2.1, hnum.2.2.2⟩, rfl⟩, ?_, fun k hk => by have := hlt3 k hk; have := HSZ.out; omega⟩
      · exact own_chg (F := fun k => k = g) (own_base ho3 (fun _ _ => Nat.zero_le _)) ((Chg.refl (fun k => k = g) w2).setCell (p := ⟨g, 0, none⟩) (.inl rfl) _) (fun k hk e => by have := hlt3 k hk; omega)
      · exact (HCH.out.trans (Chg.of_below (F := foot g _) HB2.out) (fun i hi h => h)).setCell (.inl (.inl rfl)) _
end Go.Proofs.Ytbblbeppiblndaa
