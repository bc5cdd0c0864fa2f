/-
  The walk of dualcopy.Advance; The plain law of the two copies: what a writing makes of a device, without a crash; The plain law of the two copies: what a writing makes of a device that crashes in it; The plain law of the two copies: one of them is the newest; what beginning, advancing, and a crash in it make of them; The devices of the dualcopy law's works, one after another.
-/
import Derived.Test.YtnopljanpjmbgaaGreatMO
namespace Go.Proofs.YtnopljanpjmbgaaGreat
open Go.RowKit Go.Shelf Drum
set_option linter.unusedVariables false
theorem ok_wf {b : Bk} (h : b.ok) : b.wf := by
  have h1 := h.1
  have h2 := Cf.ok_nums h.2
  refine ⟨by omega, fun n hn => ?_⟩
  have := h2 n hn
  omega
theorem bk0_wf : bk0.wf := ⟨by show (-9223372036854775808 : Int) ≤ 0 ∧ (0 : Int) ≤ 9223372036854775807; omega, fun n hn => by
  have : n = 0 := by simpa [bk0, Cf.nums] using hn
  omega⟩
theorem cpD_ok {X : DevD} {i : Nat} (h : (cpD X i).1 = 0) : (cpD X i).2.ok := by
  unfold cpD at h ⊢
  rcases decOf_cases (cpL X i) with ⟨e, _⟩ | ⟨e, _⟩ | ⟨e, _⟩ | ⟨e, _, hok, _⟩
  · rw [e] at h; cases h
  · rw [e] at h; cases h
  · rw [e] at h; cases h
  · rw [e]; exact hok
theorem valid_ok (X : DevD) (i : Nat) : ∀ x, x ∈ validTo X i → x.2.ok := by
  induction i with
  | zero => intro x hx; cases hx
  | succ i ih =>
    intro x hx
    unfold validTo at hx
    split at hx
    · rename_i h
      rcases List.mem_append.1 hx with hx | hx
      · exact ih x hx
      · have e : x = (i, (cpD X i).2) := by simpa using hx
        rw [e]
        exact cpD_ok h
    · exact ih x hx
theorem fold_in (l : List (Nat × Bk)) : ∀ a : Nat × Bk, l.foldl (fun a x => if a.2.epoch < x.2.epoch then x else a) a = a ∨ l.foldl (fun a x => if a.2.epoch < x.2.epoch then x else a) a ∈ l := by
  induction l with
  | nil => exact fun a => .inl rfl
  | cons x l ih =>
    intro a
    rw [List.foldl_cons]
    rcases ih (if a.2.epoch < x.2.epoch then x else a) with e | e
    · rw [e]
      split
      · exact .inr (.head _)
      · exact .inl rfl
    · exact .inr (.tail _ e)
theorem newest_in (l : List (Nat × Bk)) : newestOf l = (0, bk0) ∨ newestOf l ∈ l := fold_in l (0, bk0)
theorem read_wf (X : DevD) : (readX X).2.2.wf := by
  unfold readX
  split
  · exact bk0_wf
  · split
    · exact bk0_wf
    · rcases newest_in (validTo X 2) with e | e
      · rw [e]; exact bk0_wf
      · exact ok_wf (valid_ok X 2 _ e)
theorem next_wf (b : Bk) (p : Int) : (nextOf b p).2.wf := by
  unfold nextOf
  split
  · rename_i h
    obtain ⟨hok, hp⟩ := h
    split
    · exact bk0_wf
    · have h1 := hok.1
      have h2 := Cf.ok_nums hok.2
      refine ⟨by show _ ≤ b.epoch + 1 ∧ b.epoch + 1 ≤ _; omega, fun n hn => ?_⟩
      have g := fun m (hm : m ∈ b.conf.nums) => h2 m hm
      simp only [Cf.nums, List.mem_cons, List.not_mem_nil, or_false] at hn g
      rcases hn with rfl | rfl | rfl | rfl | rfl | rfl | rfl
      · have := g b.conf.slots (by simp); omega
      · have := g b.conf.size (by simp); omega
      · have := g b.conf.reserve (by simp); omega
      · have := g b.conf.work (by simp); omega
      · have := g b.conf.key (by simp); omega
      · have := g b.conf.value (by simp); omega
      · omega
  · exact bk0_wf
theorem Sep.setRowBlk {B : Nat} {w0 w : World} {os : List Ob} {g : Nat} {t : TypeId} {cs : Array Value} (h : Sep B w0 w (blkOb g t cs :: os)) (row : Array Value) : Sep B w0 (w.setRow g row) (blkOb g t row :: os) :=
  h.step (a' := blkOb g t row) (chg_setRow (F := (blkOb g t cs).F) (Chg.refl _ w) rfl row) (setRow_heap _ _ _ _ _ _ (show Blk w g t cs from h.get (.head _))) (fun _ hk => .inl hk)
section
variable {B : Nat} {w0 w w' : World} {os : List Ob} {v : Nat} {L : DLay} {X : DevD}
theorem read_lit (h : IsDev w v L X) (re : Int) (ri : Nat) (b : Bk) (hr : readX X = (re, ri, b)) :
    Calls Tryz.prog 8 #[.pointer (some ⟨v, 0, none⟩)] w fun e w' => e = .returned (.tuple #[.agg #[.int .i64 b.epoch, .int .i64 b.conf.slots, .int .i64 b.conf.size, .int .i64 b.conf.reserve, .int .i64 b.conf.work, .int .i64 b.conf.key, .int .i64 b.conf.value, .int .i64 b.conf.policy], .int .i64 (ri : Int), .int .i64 re]) ∧ Below w.heap.size w w' := by
  have := dread_any h
  rw [hr] at this
  exact this
set_option maxRecDepth 100000 in
set_option maxHeartbeats 8000000 in
theorem sep_dadv (h : Sep B w0 w (devOb v L X :: os)) (hC : AllCells os) (hops : X.ops < 4611686018427380000) (p : Int) :
    Calls Tryz.prog 10 #[.pointer (some ⟨v, 0, none⟩), .int .i64 p] w fun e w' => e = .returned (.tuple #[.agg (bkv (advX X p).2.1), .int .i64 (advX X p).1]) ∧ ∃ L', Sep B w0 w' (devOb v L' (advX X p).2.2 :: os) := by
  obtain ⟨b4, hb4⟩ : ∃ b4, b4 = w.heap.size := ⟨_, rfl⟩
  obtain ⟨W1, hW1⟩ : ∃ W1 : World, W1 = w.alloc (.cells #[.int .i64 0, .int .i64 0, .int .i64 0, .int .i64 0, .int .i64 0, .int .i64 0, .int .i64 0, .int .i64 0] 33) := ⟨_, rfl⟩
  have HS1 : Hid (Sep B w0 W1 (blkOb b4 33 (bkv bk0) :: devOb v L X :: os)) := by
    show Sep _ _ _ _
    rw [hW1]
    exact h.newBlk b4 _ _ hb4
  have HDC := fun al => dcheck_any (show IsDev W1 v L X from HS1.out.get (.tail _ (.head _))) al
  have HCC := Lib.hid hC
  clear h hC
  by_cases hp : ¬ (p = 1 ∨ p = 2)
  · have HX := Lib.hid (show advX X p = (2, bk0, X) from if_pos hp)
    have hb1 : (p == 1) = false := by simp; omega
    have hb2 : (p == 2) = false := by simp; omega
    have HCK : Hid (Calls Tryz.prog 39 #[.pointer (some ⟨v, 0, none⟩), .bool false] W1 fun e w' => e = .returned (.int .i64 2) ∧ W1 = w') := by
      have := HDC false
      unfold chkD at this
      rw [if_neg (by simp)] at this
      exact this
    clear HDC
    clear hp
    go_enter Tryz.func10, Tryz.ntmps10
    go_wp2_with fail
    rw [← hb4, ← hW1]
    clear hW1 hb4
    refine HCK.out.mono ?_
    rintro e w1 ⟨rfl, rfl⟩
    go_wp2_with (refine wpList_store_row rfl 33 _ _ rfl b4 (bkv bk0) rfl rfl 33 (bkv bk0) (show Blk _ b4 33 (bkv bk0) from HS1.out.get (.head _)) bk_size rfl (bkv_one _) ?_)
    have hz := HS1.out.setRowBlk (bkv bk0)
    refine bodyPost_ret (results_blk_tmp rfl _ _ b4 33 (bkv bk0) _ rfl (show Blk _ b4 33 (bkv bk0) from hz.get (.head _)) Tryz.underlying33 rfl bk_size) rfl ?_
    rw [HX.out]
    exact ⟨rfl, L, hz.sub (.cons _ (List.Sublist.refl _))⟩
  · have hp : p = 1 ∨ p = 2 := by omega
    cases hd : X.down with
    | true =>
      have HX := Lib.hid (show advX X p = (13, bk0, X) by
        unfold advX
        rw [if_neg (by omega), if_pos hd])
      have HCK : Hid (Calls Tryz.prog 39 #[.pointer (some ⟨v, 0, none⟩), .bool true] W1 fun e w' => e = .returned (.int .i64 13) ∧ W1 = w') := by
        have := HDC true
        unfold chkD at this
        rw [if_pos rfl, hd, if_pos rfl] at this
        exact this
      clear HDC
      clear hd
      rcases hp with rfl | rfl
      all_goals
        go_enter Tryz.func10, Tryz.ntmps10
        go_wp2_with fail
        rw [← hb4, ← hW1]
        clear hW1 hb4
        refine HCK.out.mono ?_
        rintro e w1 ⟨rfl, rfl⟩
        go_wp2_with (refine wpList_store_row rfl 33 _ _ rfl b4 (bkv bk0) rfl rfl 33 (bkv bk0) (show Blk _ b4 33 (bkv bk0) from HS1.out.get (.head _)) bk_size rfl (bkv_one _) ?_)
        have hz := HS1.out.setRowBlk (bkv bk0)
        refine bodyPost_ret (results_blk_tmp rfl _ _ b4 33 (bkv bk0) _ rfl (show Blk _ b4 33 (bkv bk0) from hz.get (.head _)) Tryz.underlying33 rfl bk_size) rfl ?_
        rw [HX.out]
        exact ⟨rfl, L, hz.sub (.cons _ (List.Sublist.refl _))⟩
    | false =>
      obtain ⟨re, ri, rb, hrd⟩ : ∃ re ri rb, readX X = (re, ri, rb) := ⟨_, _, _, rfl⟩
      have HX := Lib.hid (show advX X p = if re ≠ 0 then (re, bk0, X) else if (nextOf rb p).1 ≠ 0 then ((nextOf rb p).1, bk0, X) else if (writeX X (nextOf rb p).2).1 ≠ 0 then ((writeX X (nextOf rb p).2).1, bk0, (writeX X (nextOf rb p).2).2) else (0, (nextOf rb p).2, (writeX X (nextOf rb p).2).2) by
        unfold advX
        rw [if_neg (by omega), hd, if_neg (by simp), hrd])
      have hrw : rb.wf := by have := read_wf X; rw [hrd] at this; exact this
      have HRW := Lib.hid hrw
      have HRD := Lib.hid (read_lit (show IsDev W1 v L X from HS1.out.get (.tail _ (.head _))) re ri rb hrd)
      have HCK : Hid (Calls Tryz.prog 39 #[.pointer (some ⟨v, 0, none⟩), .bool true] W1 fun e w' => e = .returned (.int .i64 0) ∧ W1 = w') := by
        have := HDC true
        unfold chkD at this
        rw [if_pos rfl, hd, if_neg (by simp)] at this
        exact this
      clear HDC
      clear hd hrd hrw
      rcases hp with rfl | rfl
      · go_enter Tryz.func10, Tryz.ntmps10
        go_wp2_with fail
        rw [← hb4, ← hW1]
        clear hW1 hb4
        refine HCK.out.mono ?_
        rintro e w1 ⟨rfl, rfl⟩
        go_wp2_with fail
        refine HRD.out.mono ?_
        rintro e w2 ⟨rfl, hb⟩
        obtain ⟨b7, hb7⟩ : ∃ b7, b7 = w2.heap.size := ⟨_, rfl⟩
        obtain ⟨W3, hW3⟩ : ∃ W3 : World, W3 = w2.alloc (.cells #[.int .i64 rb.epoch, .int .i64 rb.conf.slots, .int .i64 rb.conf.size, .int .i64 rb.conf.reserve, .int .i64 rb.conf.work, .int .i64 rb.conf.key, .int .i64 rb.conf.value, .int .i64 rb.conf.policy] 33) := ⟨_, rfl⟩
        have HS3 : Hid (Sep B w0 W3 (blkOb b4 33 (bkv bk0) :: devOb v L X :: os)) := by
          show Sep _ _ _ _
          rw [hW3]
          exact (HS1.out.below hb).alloc _
        have HB7 : Hid (Blk W3 b7 33 #[.int .i64 rb.epoch, .int .i64 rb.conf.slots, .int .i64 rb.conf.size, .int .i64 rb.conf.reserve, .int .i64 rb.conf.work, .int .i64 rb.conf.key, .int .i64 rb.conf.value, .int .i64 rb.conf.policy]) := by show Blk _ _ _ _; rw [hW3, hb7]; exact Blk.new _ _ _
        clear hb HRD
        by_cases hre : re = 0
        · subst hre
          have HX := Lib.hid (HX.out.trans (if_neg (by simp)))
          have NX := Lib.hid (next_lit rb.epoch rb.conf.slots rb.conf.size rb.conf.reserve rb.conf.work rb.conf.key rb.conf.value rb.conf.policy 1 HRW.out W3)
          have hnw := next_wf rb 1
          obtain ⟨ne, nb, hne⟩ : ∃ ne nb, nextOf rb 1 = (ne, nb) := ⟨_, _, rfl⟩
          have NX : Hid (Calls Tryz.prog 42 #[.agg #[.int .i64 rb.epoch, .int .i64 rb.conf.slots, .int .i64 rb.conf.size, .int .i64 rb.conf.reserve, .int .i64 rb.conf.work, .int .i64 rb.conf.key, .int .i64 rb.conf.value, .int .i64 rb.conf.policy], .int .i64 1] W3 fun ed w' => ed = .returned (.tuple #[.agg #[.int .i64 nb.epoch, .int .i64 nb.conf.slots, .int .i64 nb.conf.size, .int .i64 nb.conf.reserve, .int .i64 nb.conf.work, .int .i64 nb.conf.key, .int .i64 nb.conf.value, .int .i64 nb.conf.policy], .int .i64 ne]) ∧ Below W3.heap.size W3 w') := by
            have := NX.out
            rw [show nextOf ⟨rb.epoch, ⟨rb.conf.slots, rb.conf.size, rb.conf.reserve, rb.conf.work, rb.conf.key, rb.conf.value, rb.conf.policy⟩⟩ 1 = (ne, nb) from hne] at this
            exact this
          rw [hne] at HX hnw
          have HNW := Lib.hid hnw
          have q0 : W3.cell? ⟨b7, 0, none⟩ = some (.int .i64 rb.epoch) := HB7.out.cell 0
          have q1 : W3.cell? ⟨b7, 1, none⟩ = some (.int .i64 rb.conf.slots) := HB7.out.cell 1
          have q2 : W3.cell? ⟨b7, 2, none⟩ = some (.int .i64 rb.conf.size) := HB7.out.cell 2
          have q3 : W3.cell? ⟨b7, 3, none⟩ = some (.int .i64 rb.conf.reserve) := HB7.out.cell 3
          have q4 : W3.cell? ⟨b7, 4, none⟩ = some (.int .i64 rb.conf.work) := HB7.out.cell 4
          have q5 : W3.cell? ⟨b7, 5, none⟩ = some (.int .i64 rb.conf.key) := HB7.out.cell 5
          have q6 : W3.cell? ⟨b7, 6, none⟩ = some (.int .i64 rb.conf.value) := HB7.out.cell 6
          have q7 : W3.cell? ⟨b7, 7, none⟩ = some (.int .i64 rb.conf.policy) := HB7.out.cell 7
          clear hnw hne
          go_upto_region 7 with fail
          rw [← hb7, ← hW3]
          clear hb7 hW3
          go_wp2_with fail
          refine NX.out.mono ?_
          rintro e w4 ⟨rfl, hb⟩
          obtain ⟨b10, hb10⟩ : ∃ b10, b10 = w4.heap.size := ⟨_, rfl⟩
          obtain ⟨W5, hW5⟩ : ∃ W5 : World, W5 = w4.alloc (.cells #[.int .i64 nb.epoch, .int .i64 nb.conf.slots, .int .i64 nb.conf.size, .int .i64 nb.conf.reserve, .int .i64 nb.conf.work, .int .i64 nb.conf.key, .int .i64 nb.conf.value, .int .i64 nb.conf.policy] 33) := ⟨_, rfl⟩
          have HS5 : Hid (Sep B w0 W5 (blkOb b10 33 #[.int .i64 nb.epoch, .int .i64 nb.conf.slots, .int .i64 nb.conf.size, .int .i64 nb.conf.reserve, .int .i64 nb.conf.work, .int .i64 nb.conf.key, .int .i64 nb.conf.value, .int .i64 nb.conf.policy] :: blkOb b4 33 (bkv bk0) :: devOb v L X :: os)) := by
            show Sep _ _ _ _
            rw [hW5]
            exact (HS3.out.below hb).newBlk b10 _ _ hb10
          have HS5b : Hid (Sep B w0 W5 (blkOb b4 33 (bkv bk0) :: devOb v L X :: os)) := HS5.out.sub (.cons _ (List.Sublist.refl _))
          clear hb q0 q1 q2 q3 q4 q5 q6 q7 NX
          by_cases hne : ne = 0
          · subst hne
            have HX := Lib.hid (HX.out.trans (if_neg (by simp)))
            have HS6 : Hid (Sep B w0 W5 (devOb v L X :: blkOb b10 33 #[.int .i64 nb.epoch, .int .i64 nb.conf.slots, .int .i64 nb.conf.size, .int .i64 nb.conf.reserve, .int .i64 nb.conf.work, .int .i64 nb.conf.key, .int .i64 nb.conf.value, .int .i64 nb.conf.policy] :: blkOb b4 33 (bkv bk0) :: os)) := HS5.out.perm (List.perm_middle (l₁ := [_, _]))
            have HWR := Lib.hid (sep_dwrite HS6.out (AllCells.cons (cellOb_blk _ _ _) (AllCells.cons (cellOb_blk _ _ _) HCC.out)) (by omega) nb HNW.out)
            have hk := HS5.out.get (.head _)
            have hk : Blk W5 b10 33 #[.int .i64 nb.epoch, .int .i64 nb.conf.slots, .int .i64 nb.conf.size, .int .i64 nb.conf.reserve, .int .i64 nb.conf.work, .int .i64 nb.conf.key, .int .i64 nb.conf.value, .int .i64 nb.conf.policy] := hk
            have q0 : W5.cell? ⟨b10, 0, none⟩ = some (.int .i64 nb.epoch) := hk.cell 0
            have q1 : W5.cell? ⟨b10, 1, none⟩ = some (.int .i64 nb.conf.slots) := hk.cell 1
            have q2 : W5.cell? ⟨b10, 2, none⟩ = some (.int .i64 nb.conf.size) := hk.cell 2
            have q3 : W5.cell? ⟨b10, 3, none⟩ = some (.int .i64 nb.conf.reserve) := hk.cell 3
            have q4 : W5.cell? ⟨b10, 4, none⟩ = some (.int .i64 nb.conf.work) := hk.cell 4
            have q5 : W5.cell? ⟨b10, 5, none⟩ = some (.int .i64 nb.conf.key) := hk.cell 5
            have q6 : W5.cell? ⟨b10, 6, none⟩ = some (.int .i64 nb.conf.value) := hk.cell 6
            have q7 : W5.cell? ⟨b10, 7, none⟩ = some (.int .i64 nb.conf.policy) := hk.cell 7
            generalize hee : (writeX X nb).1 = er at HWR HX
            generalize hxx : (writeX X nb).2 = Z at HWR HX
            clear hk hee hxx
            go_upto_region 10 with fail
            rw [← hb10, ← hW5]
            clear hb10 hW5
            go_wp2_with fail
            refine HWR.out.mono ?_
            rintro e w6 ⟨rfl, L2, hs⟩
            have HS7 : Hid (Sep B w0 w6 (blkOb b4 33 (bkv bk0) :: devOb v L2 Z :: blkOb b10 33 #[.int .i64 nb.epoch, .int .i64 nb.conf.slots, .int .i64 nb.conf.size, .int .i64 nb.conf.reserve, .int .i64 nb.conf.work, .int .i64 nb.conf.key, .int .i64 nb.conf.value, .int .i64 nb.conf.policy] :: os)) := hs.perm (List.perm_middle (l₁ := [_, _]))
            have hk : Blk w6 b10 33 #[.int .i64 nb.epoch, .int .i64 nb.conf.slots, .int .i64 nb.conf.size, .int .i64 nb.conf.reserve, .int .i64 nb.conf.work, .int .i64 nb.conf.key, .int .i64 nb.conf.value, .int .i64 nb.conf.policy] := hs.get (.tail _ (.head _))
            have HK := Lib.hid hk
            clear hs q0 q1 q2 q3 q4 q5 q6 q7 hk HWR
            by_cases her : er = 0
            · subst her
              have HX := Lib.hid (HX.out.trans (if_neg (by simp)))
              go_wp2_with (first
                | (refine wpList_load_row rfl 33 _ rfl b10 rfl 33 (bkv nb) (0, 0) _ HK.out Tryz.underlying33 rfl bk_size ?_)
                | (refine wpList_store_row rfl 33 _ _ rfl b4 (bkv nb) rfl rfl 33 (bkv bk0) (show Blk _ b4 33 (bkv bk0) from HS7.out.get (.head _)) bk_size rfl (bkv_one _) ?_))
              have hz := HS7.out.setRowBlk (bkv nb)
              refine bodyPost_ret (results_blk_tmp rfl _ _ b4 33 (bkv nb) _ rfl (show Blk _ b4 33 (bkv nb) from hz.get (.head _)) Tryz.underlying33 rfl bk_size) rfl ?_
              rw [HX.out]
              exact ⟨rfl, L2, hz.sub (.cons _ (.cons_cons _ (.cons _ (List.Sublist.refl _))))⟩
            · have HX := Lib.hid (HX.out.trans (if_pos her))
              have hb0 : (er == 0) = false := by rw [beq_eq_false_iff_ne]; exact her
              clear her
              go_wp2_with (refine wpList_store_row rfl 33 _ _ rfl b4 (bkv bk0) rfl rfl 33 (bkv bk0) (show Blk _ b4 33 (bkv bk0) from HS7.out.get (.head _)) bk_size rfl (bkv_one _) ?_)
              have hz := HS7.out.setRowBlk (bkv bk0)
              refine bodyPost_ret (results_blk_tmp rfl _ _ b4 33 (bkv bk0) _ rfl (show Blk _ b4 33 (bkv bk0) from hz.get (.head _)) Tryz.underlying33 rfl bk_size) rfl ?_
              rw [HX.out]
              exact ⟨rfl, L2, hz.sub (.cons _ (.cons_cons _ (.cons _ (List.Sublist.refl _))))⟩
          · have HX := Lib.hid (HX.out.trans (if_pos hne))
            have hb0 : (ne == 0) = false := by rw [beq_eq_false_iff_ne]; exact hne
            clear hne
            go_upto_region 9 with fail
            rw [← hb10, ← hW5]
            clear hb10 hW5
            go_wp2_with (refine wpList_store_row rfl 33 _ _ rfl b4 (bkv bk0) rfl rfl 33 (bkv bk0) (show Blk _ b4 33 (bkv bk0) from HS5b.out.get (.head _)) bk_size rfl (bkv_one _) ?_)
            have hz := HS5b.out.setRowBlk (bkv bk0)
            refine bodyPost_ret (results_blk_tmp rfl _ _ b4 33 (bkv bk0) _ rfl (show Blk _ b4 33 (bkv bk0) from hz.get (.head _)) Tryz.underlying33 rfl bk_size) rfl ?_
            rw [HX.out]
            exact ⟨rfl, L, hz.sub (.cons _ (List.Sublist.refl _))⟩
        · have HX := Lib.hid (HX.out.trans (if_pos hre))
          have hb0 : (re == 0) = false := by rw [beq_eq_false_iff_ne]; exact hre
          clear hre
          go_upto_region 6 with fail
          rw [← hb7, ← hW3]
          clear hb7 hW3
          go_wp2_with (refine wpList_store_row rfl 33 _ _ rfl b4 (bkv bk0) rfl rfl 33 (bkv bk0) (show Blk _ b4 33 (bkv bk0) from HS3.out.get (.head _)) bk_size rfl (bkv_one _) ?_)
          have hz := HS3.out.setRowBlk (bkv bk0)
          refine bodyPost_ret (results_blk_tmp rfl _ _ b4 33 (bkv bk0) _ rfl (show Blk _ b4 33 (bkv bk0) from hz.get (.head _)) Tryz.underlying33 rfl bk_size) rfl ?_
          rw [HX.out]
          exact ⟨rfl, L, hz.sub (.cons _ (List.Sublist.refl _))⟩
      · go_enter Tryz.func10, Tryz.ntmps10
        go_wp2_with fail
        rw [← hb4, ← hW1]
        clear hW1 hb4
        refine HCK.out.mono ?_
        rintro e w1 ⟨rfl, rfl⟩
        go_wp2_with fail
        refine HRD.out.mono ?_
        rintro e w2 ⟨rfl, hb⟩
        obtain ⟨b7, hb7⟩ : ∃ b7, b7 = w2.heap.size := ⟨_, rfl⟩
        obtain ⟨W3, hW3⟩ : ∃ W3 : World, W3 = w2.alloc (.cells #[.int .i64 rb.epoch, .int .i64 rb.conf.slots, .int .i64 rb.conf.size, .int .i64 rb.conf.reserve, .int .i64 rb.conf.work, .int .i64 rb.conf.key, .int .i64 rb.conf.value, .int .i64 rb.conf.policy] 33) := ⟨_, rfl⟩
        have HS3 : Hid (Sep B w0 W3 (blkOb b4 33 (bkv bk0) :: devOb v L X :: os)) := by
          show Sep _ _ _ _
          rw [hW3]
          exact (HS1.out.below hb).alloc _
        have HB7 : Hid (Blk W3 b7 33 #[.int .i64 rb.epoch, .int .i64 rb.conf.slots, .int .i64 rb.conf.size, .int .i64 rb.conf.reserve, .int .i64 rb.conf.work, .int .i64 rb.conf.key, .int .i64 rb.conf.value, .int .i64 rb.conf.policy]) := by show Blk _ _ _ _; rw [hW3, hb7]; exact Blk.new _ _ _
        clear hb HRD
        by_cases hre : re = 0
        · subst hre
          have HX := Lib.hid (HX.out.trans (if_neg (by simp)))
          have NX := Lib.hid (next_lit rb.epoch rb.conf.slots rb.conf.size rb.conf.reserve rb.conf.work rb.conf.key rb.conf.value rb.conf.policy 2 HRW.out W3)
          have hnw := next_wf rb 2
          obtain ⟨ne, nb, hne⟩ : ∃ ne nb, nextOf rb 2 = (ne, nb) := ⟨_, _, rfl⟩
          have NX : Hid (Calls Tryz.prog 42 #[.agg #[.int .i64 rb.epoch, .int .i64 rb.conf.slots, .int .i64 rb.conf.size, .int .i64 rb.conf.reserve, .int .i64 rb.conf.work, .int .i64 rb.conf.key, .int .i64 rb.conf.value, .int .i64 rb.conf.policy], .int .i64 2] W3 fun ed w' => ed = .returned (.tuple #[.agg #[.int .i64 nb.epoch, .int .i64 nb.conf.slots, .int .i64 nb.conf.size, .int .i64 nb.conf.reserve, .int .i64 nb.conf.work, .int .i64 nb.conf.key, .int .i64 nb.conf.value, .int .i64 nb.conf.policy], .int .i64 ne]) ∧ Below W3.heap.size W3 w') := by
            have := NX.out
            rw [show nextOf ⟨rb.epoch, ⟨rb.conf.slots, rb.conf.size, rb.conf.reserve, rb.conf.work, rb.conf.key, rb.conf.value, rb.conf.policy⟩⟩ 2 = (ne, nb) from hne] at this
            exact this
          rw [hne] at HX hnw
          have HNW := Lib.hid hnw
          have q0 : W3.cell? ⟨b7, 0, none⟩ = some (.int .i64 rb.epoch) := HB7.out.cell 0
          have q1 : W3.cell? ⟨b7, 1, none⟩ = some (.int .i64 rb.conf.slots) := HB7.out.cell 1
          have q2 : W3.cell? ⟨b7, 2, none⟩ = some (.int .i64 rb.conf.size) := HB7.out.cell 2
          have q3 : W3.cell? ⟨b7, 3, none⟩ = some (.int .i64 rb.conf.reserve) := HB7.out.cell 3
          have q4 : W3.cell? ⟨b7, 4, none⟩ = some (.int .i64 rb.conf.work) := HB7.out.cell 4
          have q5 : W3.cell? ⟨b7, 5, none⟩ = some (.int .i64 rb.conf.key) := HB7.out.cell 5
          have q6 : W3.cell? ⟨b7, 6, none⟩ = some (.int .i64 rb.conf.value) := HB7.out.cell 6
          have q7 : W3.cell? ⟨b7, 7, none⟩ = some (.int .i64 rb.conf.policy) := HB7.out.cell 7
          clear hnw hne
          go_upto_region 7 with fail
          rw [← hb7, ← hW3]
          clear hb7 hW3
          go_wp2_with fail
          refine NX.out.mono ?_
          rintro e w4 ⟨rfl, hb⟩
          obtain ⟨b10, hb10⟩ : ∃ b10, b10 = w4.heap.size := ⟨_, rfl⟩
          obtain ⟨W5, hW5⟩ : ∃ W5 : World, W5 = w4.alloc (.cells #[.int .i64 nb.epoch, .int .i64 nb.conf.slots, .int .i64 nb.conf.size, .int .i64 nb.conf.reserve, .int .i64 nb.conf.work, .int .i64 nb.conf.key, .int .i64 nb.conf.value, .int .i64 nb.conf.policy] 33) := ⟨_, rfl⟩
          have HS5 : Hid (Sep B w0 W5 (blkOb b10 33 #[.int .i64 nb.epoch, .int .i64 nb.conf.slots, .int .i64 nb.conf.size, .int .i64 nb.conf.reserve, .int .i64 nb.conf.work, .int .i64 nb.conf.key, .int .i64 nb.conf.value, .int .i64 nb.conf.policy] :: blkOb b4 33 (bkv bk0) :: devOb v L X :: os)) := by
            show Sep _ _ _ _
            rw [hW5]
            exact (HS3.out.below hb).newBlk b10 _ _ hb10
          have HS5b : Hid (Sep B w0 W5 (blkOb b4 33 (bkv bk0) :: devOb v L X :: os)) := HS5.out.sub (.cons _ (List.Sublist.refl _))
          clear hb q0 q1 q2 q3 q4 q5 q6 q7 NX
          by_cases hne : ne = 0
          · subst hne
            have HX := Lib.hid (HX.out.trans (if_neg (by simp)))
            have HS6 : Hid (Sep B w0 W5 (devOb v L X :: blkOb b10 33 #[.int .i64 nb.epoch, .int .i64 nb.conf.slots, .int .i64 nb.conf.size, .int .i64 nb.conf.reserve, .int .i64 nb.conf.work, .int .i64 nb.conf.key, .int .i64 nb.conf.value, .int .i64 nb.conf.policy] :: blkOb b4 33 (bkv bk0) :: os)) := HS5.out.perm (List.perm_middle (l₁ := [_, _]))
            have HWR := Lib.hid (sep_dwrite HS6.out (AllCells.cons (cellOb_blk _ _ _) (AllCells.cons (cellOb_blk _ _ _) HCC.out)) (by omega) nb HNW.out)
            have hk := HS5.out.get (.head _)
            have hk : Blk W5 b10 33 #[.int .i64 nb.epoch, .int .i64 nb.conf.slots, .int .i64 nb.conf.size, .int .i64 nb.conf.reserve, .int .i64 nb.conf.work, .int .i64 nb.conf.key, .int .i64 nb.conf.value, .int .i64 nb.conf.policy] := hk
            have q0 : W5.cell? ⟨b10, 0, none⟩ = some (.int .i64 nb.epoch) := hk.cell 0
            have q1 : W5.cell? ⟨b10, 1, none⟩ = some (.int .i64 nb.conf.slots) := hk.cell 1
            have q2 : W5.cell? ⟨b10, 2, none⟩ = some (.int .i64 nb.conf.size) := hk.cell 2
            have q3 : W5.cell? ⟨b10, 3, none⟩ = some (.int .i64 nb.conf.reserve) := hk.cell 3
            have q4 : W5.cell? ⟨b10, 4, none⟩ = some (.int .i64 nb.conf.work) := hk.cell 4
            have q5 : W5.cell? ⟨b10, 5, none⟩ = some (.int .i64 nb.conf.key) := hk.cell 5
            have q6 : W5.cell? ⟨b10, 6, none⟩ = some (.int .i64 nb.conf.value) := hk.cell 6
            have q7 : W5.cell? ⟨b10, 7, none⟩ = some (.int .i64 nb.conf.policy) := hk.cell 7
            generalize hee : (writeX X nb).1 = er at HWR HX
            generalize hxx : (writeX X nb).2 = Z at HWR HX
            clear hk hee hxx
            go_upto_region 10 with fail
            rw [← hb10, ← hW5]
            clear hb10 hW5
            go_wp2_with fail
            refine HWR.out.mono ?_
            rintro e w6 ⟨rfl, L2, hs⟩
            have HS7 : Hid (Sep B w0 w6 (blkOb b4 33 (bkv bk0) :: devOb v L2 Z :: blkOb b10 33 #[.int .i64 nb.epoch, .int .i64 nb.conf.slots, .int .i64 nb.conf.size, .int .i64 nb.conf.reserve, .int .i64 nb.conf.work, .int .i64 nb.conf.key, .int .i64 nb.conf.value, .int .i64 nb.conf.policy] :: os)) := hs.perm (List.perm_middle (l₁ := [_, _]))
            have hk : Blk w6 b10 33 #[.int .i64 nb.epoch, .int .i64 nb.conf.slots, .int .i64 nb.conf.size, .int .i64 nb.conf.reserve, .int .i64 nb.conf.work, .int .i64 nb.conf.key, .int .i64 nb.conf.value, .int .i64 nb.conf.policy] := hs.get (.tail _ (.head _))
            have HK := Lib.hid hk
            clear hs q0 q1 q2 q3 q4 q5 q6 q7 hk HWR
            by_cases her : er = 0
            · subst her
              have HX := Lib.hid (HX.out.trans (if_neg (by simp)))
              go_wp2_with (first
                | (refine wpList_load_row rfl 33 _ rfl b10 rfl 33 (bkv nb) (0, 0) _ HK.out Tryz.underlying33 rfl bk_size ?_)
                | (refine wpList_store_row rfl 33 _ _ rfl b4 (bkv nb) rfl rfl 33 (bkv bk0) (show Blk _ b4 33 (bkv bk0) from HS7.out.get (.head _)) bk_size rfl (bkv_one _) ?_))
              have hz := HS7.out.setRowBlk (bkv nb)
              refine bodyPost_ret (results_blk_tmp rfl _ _ b4 33 (bkv nb) _ rfl (show Blk _ b4 33 (bkv nb) from hz.get (.head _)) Tryz.underlying33 rfl bk_size) rfl ?_
              rw [HX.out]
              exact ⟨rfl, L2, hz.sub (.cons _ (.cons_cons _ (.cons _ (List.Sublist.refl _))))⟩
            · have HX := Lib.hid (HX.out.trans (if_pos her))
              have hb0 : (er == 0) = false := by rw [beq_eq_false_iff_ne]; exact her
              clear her
              go_wp2_with (refine wpList_store_row rfl 33 _ _ rfl b4 (bkv bk0) rfl rfl 33 (bkv bk0) (show Blk _ b4 33 (bkv bk0) from HS7.out.get (.head _)) bk_size rfl (bkv_one _) ?_)
              have hz := HS7.out.setRowBlk (bkv bk0)
              refine bodyPost_ret (results_blk_tmp rfl _ _ b4 33 (bkv bk0) _ rfl (show Blk _ b4 33 (bkv bk0) from hz.get (.head _)) Tryz.underlying33 rfl bk_size) rfl ?_
              rw [HX.out]
              exact ⟨rfl, L2, hz.sub (.cons _ (.cons_cons _ (.cons _ (List.Sublist.refl _))))⟩
          · have HX := Lib.hid (HX.out.trans (if_pos hne))
            have hb0 : (ne == 0) = false := by rw [beq_eq_false_iff_ne]; exact hne
            clear hne
            go_upto_region 9 with fail
            rw [← hb10, ← hW5]
            clear hb10 hW5
            go_wp2_with (refine wpList_store_row rfl 33 _ _ rfl b4 (bkv bk0) rfl rfl 33 (bkv bk0) (show Blk _ b4 33 (bkv bk0) from HS5b.out.get (.head _)) bk_size rfl (bkv_one _) ?_)
            have hz := HS5b.out.setRowBlk (bkv bk0)
            refine bodyPost_ret (results_blk_tmp rfl _ _ b4 33 (bkv bk0) _ rfl (show Blk _ b4 33 (bkv bk0) from hz.get (.head _)) Tryz.underlying33 rfl bk_size) rfl ?_
            rw [HX.out]
            exact ⟨rfl, L, hz.sub (.cons _ (List.Sublist.refl _))⟩
        · have HX := Lib.hid (HX.out.trans (if_pos hre))
          have hb0 : (re == 0) = false := by rw [beq_eq_false_iff_ne]; exact hre
          clear hre
          go_upto_region 6 with fail
          rw [← hb7, ← hW3]
          clear hb7 hW3
          go_wp2_with (refine wpList_store_row rfl 33 _ _ rfl b4 (bkv bk0) rfl rfl 33 (bkv bk0) (show Blk _ b4 33 (bkv bk0) from HS3.out.get (.head _)) bk_size rfl (bkv_one _) ?_)
          have hz := HS3.out.setRowBlk (bkv bk0)
          refine bodyPost_ret (results_blk_tmp rfl _ _ b4 33 (bkv bk0) _ rfl (show Blk _ b4 33 (bkv bk0) from hz.get (.head _)) Tryz.underlying33 rfl bk_size) rfl ?_
          rw [HX.out]
          exact ⟨rfl, L, hz.sub (.cons _ (List.Sublist.refl _))⟩
end
end Go.Proofs.YtnopljanpjmbgaaGreat
namespace Go.Proofs.YtnopljanpjmbgaaGreat
open Go.RowKit Drum
set_option linter.unusedVariables false
/-- A device that is up, of n slots and two more of 64 bytes. -/
structure Ready (X : DevD) (n : Nat) : Prop where
  hn : X.n = n
  up : X.down = false
  s0 : (X.D n).size = 64
  s1 : (X.D (n + 1)).size = 64
theorem Ready.size {X : DevD} {n : Nat} (h : Ready X n) (s : Nat) (hs : s = n ∨ s = n + 1) : (X.D s).size = 64 := by
  rcases hs with rfl | rfl
  · exact h.s0
  · exact h.s1
theorem Ready.chk {X : DevD} {n : Nat} (h : Ready X n) (s : Nat) (hs : s < n + 2) : chkE X (s : Int) = 0 := by
  unfold chkE
  rw [h.up, if_neg (by simp)]
  exact if_pos (show inRange (X.n + 2) (s : Int) from ⟨by omega, by rw [h.hn]; omega⟩)
theorem Ready.wslot {X : DevD} {n : Nat} (h : Ready X n) (b : Bk) (hb : b.ok) : (b.epoch % 2 = 0 ∧ wslot X b = n) ∨ (b.epoch % 2 = 1 ∧ wslot X b = n + 1) := by
  unfold Proofs.YtnopljanpjmbgaaGreat.wslot
  rw [h.hn]
  have := hb.1.1
  omega
/-- An operation without a crash. -/
theorem op_no {X : DevD} (f : (Nat → SlotD) → (Nat → SlotD)) (g : Bool → Bool) (ht : tickB X.T = false) (hu : X.down = false) : opX X f g = ⟨X.n, f X.D, tickP X.T, X.ops + 1, false⟩ := by
  rw [opX_no ht]
  unfold midX
  rw [hu]
theorem opE_no {X : DevD} (ht : tickB X.T = false) : opE X = 0 := by unfold opE; rw [ht]; rfl
theorem write_ok {X : DevD} {n : Nat} (h : Ready X n) (b : Bk) (hb : b.ok) (t0 : tickB X.T = false) (t1 : tickB (tickP X.T) = false) (t2 : tickB (tickP (tickP X.T)) = false) :
    ∃ X', writeX X b = (0, X') ∧ Ready X' n ∧ X'.T = tickP (tickP (tickP X.T)) ∧ X'.ops = X.ops + 3 ∧ X'.D (wslot X b) = ⟨64, encOf b, 64⟩ ∧ ∀ j, j ≠ wslot X b → X'.D j = X.D j := by
  obtain ⟨s, hs⟩ : ∃ s, wslot X b = s := ⟨_, rfl⟩
  have hs2 : s = n ∨ s = n + 1 := by have := h.wslot b hb; omega
  have hsl : s < n + 2 := by omega
  have hsz := h.size s hs2
  have hel : (encOf b).length = 64 := encOf_length b
  have e1 : EraseVX X (s : Int) = ⟨X.n, eraseD X.D s, tickP X.T, X.ops + 1, false⟩ := by
    unfold EraseVX
    rw [if_pos (h.chk s hsl), op_no _ _ t0 h.up, Int.toNat_natCast]
  have r1 : Ready ⟨X.n, eraseD X.D s, tickP X.T, X.ops + 1, false⟩ n := by
    refine ⟨h.hn, rfl, ?_, ?_⟩
    · show (updF X.D s _ n).size = 64
      unfold updF; split
      · exact hsz
      · exact h.s0
    · show (updF X.D s _ (n + 1)).size = 64
      unfold updF; split
      · exact hsz
      · exact h.s1
  have d1 : eraseD X.D s s = ⟨64, [], 0⟩ := by unfold eraseD updF; rw [if_pos rfl, hsz]
  have e2 : appVX ⟨X.n, eraseD X.D s, tickP X.T, X.ops + 1, false⟩ (s : Int) (encOf b) = ⟨X.n, updF (eraseD X.D s) s ⟨64, encOf b, 0⟩, tickP (tickP X.T), X.ops + 1 + 1, false⟩ := by
    unfold appVX
    rw [if_pos (r1.chk s hsl)]
    dsimp only
    rw [Int.toNat_natCast, if_pos (by rw [d1]; show 0 + (encOf b).length ≤ 64; omega), op_no _ _ t1 rfl]
    dsimp only
    unfold appD
    rw [if_pos (by rw [d1]; show 0 + (encOf b).length ≤ 64; omega), d1]
    rfl
  have a2 : appVE ⟨X.n, eraseD X.D s, tickP X.T, X.ops + 1, false⟩ (s : Int) (encOf b) = 0 := by
    unfold appVE
    rw [if_pos (r1.chk s hsl)]
    dsimp only
    rw [Int.toNat_natCast, if_pos (by rw [d1]; show 0 + (encOf b).length ≤ 64; omega)]
    exact opE_no t1
  have r2 : Ready ⟨X.n, updF (eraseD X.D s) s ⟨64, encOf b, 0⟩, tickP (tickP X.T), X.ops + 1 + 1, false⟩ n := by
    refine ⟨h.hn, rfl, ?_, ?_⟩
    · show (updF (eraseD X.D s) s _ n).size = 64
      unfold updF; split
      · rfl
      · exact r1.s0
    · show (updF (eraseD X.D s) s _ (n + 1)).size = 64
      unfold updF; split
      · rfl
      · exact r1.s1
  have d2 : updF (eraseD X.D s) s ⟨64, encOf b, 0⟩ s = ⟨64, encOf b, 0⟩ := by unfold updF; rw [if_pos rfl]
  have e3 : SyncVX ⟨X.n, updF (eraseD X.D s) s ⟨64, encOf b, 0⟩, tickP (tickP X.T), X.ops + 1 + 1, false⟩ (s : Int) = ⟨X.n, updF (updF (eraseD X.D s) s ⟨64, encOf b, 0⟩) s ⟨64, encOf b, 64⟩, tickP (tickP (tickP X.T)), X.ops + 1 + 1 + 1, false⟩ := by
    unfold SyncVX
    rw [if_pos (r2.chk s hsl), op_no _ _ t2 rfl, Int.toNat_natCast]
    dsimp only
    unfold syncD
    rw [d2]
    dsimp only
    rw [hel]
  have a3 : oneVE ⟨X.n, updF (eraseD X.D s) s ⟨64, encOf b, 0⟩, tickP (tickP X.T), X.ops + 1 + 1, false⟩ (s : Int) = 0 := by
    unfold oneVE
    rw [if_pos (r2.chk s hsl)]
    exact opE_no t2
  have a1 : oneVE X (s : Int) = 0 := by
    unfold oneVE
    rw [if_pos (h.chk s hsl)]
    exact opE_no t0
  have w0 : wE X b 0 = 0 := by unfold wE; rw [hs]; exact a1
  have w1 : wE X b 1 = 0 := by unfold wE; rw [hs, e1]; exact a2
  have w2 : wE X b 2 = 0 := by unfold wE; rw [hs, e1, e2]; exact a3
  have w3 : wX X b 3 = ⟨X.n, updF (updF (eraseD X.D s) s ⟨64, encOf b, 0⟩) s ⟨64, encOf b, 64⟩, tickP (tickP (tickP X.T)), X.ops + 1 + 1 + 1, false⟩ := by show SyncVX (appVX (EraseVX X (wslot X b : Int)) (wslot X b : Int) (encOf b)) (wslot X b : Int) = _; rw [hs, e1, e2, e3]
  refine ⟨⟨X.n, updF (updF (eraseD X.D s) s ⟨64, encOf b, 0⟩) s ⟨64, encOf b, 64⟩, tickP (tickP (tickP X.T)), X.ops + 1 + 1 + 1, false⟩, ?_, ?_, rfl, rfl, ?_, ?_⟩
  · unfold writeX
    rw [if_neg (by simpa using hb), h.up, if_neg (by simp), w0, if_neg (by simp), w1, if_neg (by simp), w2, w3]
  · refine ⟨h.hn, rfl, ?_, ?_⟩
    · show (updF (updF (eraseD X.D s) s ⟨64, encOf b, 0⟩) s ⟨64, encOf b, 64⟩ n).size = 64
      by_cases e : n = s
      · unfold updF; rw [if_pos e]
      · have := r2.s0
        unfold updF at this ⊢; rw [if_neg e]; exact this
    · show (updF (updF (eraseD X.D s) s ⟨64, encOf b, 0⟩) s ⟨64, encOf b, 64⟩ (n + 1)).size = 64
      by_cases e : n + 1 = s
      · unfold updF; rw [if_pos e]
      · have := r2.s1
        unfold updF at this ⊢; rw [if_neg e]; exact this
  · show updF _ s _ (Proofs.YtnopljanpjmbgaaGreat.wslot X b) = _
    rw [hs]
    unfold updF
    rw [if_pos rfl]
  · intro j hj
    rw [hs] at hj
    show updF _ s _ j = X.D j
    unfold updF
    rw [if_neg hj, if_neg hj]
    unfold eraseD updF
    rw [if_neg hj]
/-- A copy that has a valid superblock's encoding. -/
theorem cp_valid {X : DevD} {n : Nat} (h : Ready X n) {i : Nat} {b : Bk} (hb : b.ok) (he : (X.D (n + i)).bytes = encOf b) : cpD X i = (0, b) := by
  unfold cpD cpL
  rw [h.hn, he]
  have := decOf_enc b hb []
  rwa [List.append_nil] at this
theorem cp_short {X : DevD} {n : Nat} (h : Ready X n) {i : Nat} (he : (X.D (n + i)).bytes.length < 64) : cpD X i = (14, bk0) := by
  unfold cpD cpL
  rw [h.hn]
  exact decOf_short _ he
/-- What Read answers, off the two copies. -/
theorem read_two {X : DevD} {n : Nat} (h : Ready X n) {a b : Bk} (ha : cpD X 0 = (0, a)) (hb : cpD X 1 = (0, b)) (hoa : a.ok) : readX X = if a.epoch < b.epoch then (0, 1, b) else (0, 0, a) := by
  have hv : validTo X 2 = [(0, a), (1, b)] := by
    unfold validTo
    rw [hb, if_pos rfl]
    unfold validTo
    rw [ha, if_pos rfl]
    unfold validTo
    rfl
  have h1 := hoa.1.1
  have hn : newestOf (validTo X 2) = if a.epoch < b.epoch then (1, b) else (0, a) := by
    rw [hv]
    show (if (if bk0.epoch < a.epoch then ((0 : Nat), a) else (0, bk0)).2.epoch < b.epoch then (1, b) else (if bk0.epoch < a.epoch then ((0 : Nat), a) else (0, bk0))) = _
    rw [if_pos (show bk0.epoch < a.epoch by show (0 : Int) < _; omega)]
  unfold readX
  rw [h.up, if_neg (by simp), hn]
  by_cases hlt : a.epoch < b.epoch
  · rw [if_pos hlt, if_pos hlt]
    rw [if_neg (by show ¬ b.epoch = 0; omega)]
  · rw [if_neg hlt, if_neg hlt]
    rw [if_neg (by show ¬ a.epoch = 0; omega)]
theorem read_first {X : DevD} {n : Nat} (h : Ready X n) {a : Bk} (ha : cpD X 0 = (0, a)) (hb : (cpD X 1).1 ≠ 0) (hoa : a.ok) : readX X = (0, 0, a) := by
  have hv : validTo X 2 = [(0, a)] := by
    unfold validTo
    rw [if_neg hb]
    unfold validTo
    rw [ha, if_pos rfl]
    unfold validTo
    rfl
  have h1 := hoa.1.1
  unfold readX
  rw [h.up, if_neg (by simp), hv]
  have hn : newestOf [((0 : Nat), a)] = (0, a) := if_pos (show bk0.epoch < a.epoch by show (0 : Int) < _; omega)
  rw [hn, if_neg (by show ¬ a.epoch = 0; omega)]
theorem read_second {X : DevD} {n : Nat} (h : Ready X n) {b : Bk} (ha : (cpD X 0).1 ≠ 0) (hb : cpD X 1 = (0, b)) (hob : b.ok) : readX X = (0, 1, b) := by
  have hv : validTo X 2 = [(1, b)] := by
    unfold validTo
    rw [hb, if_pos rfl]
    unfold validTo
    rw [if_neg ha]
    unfold validTo
    rfl
  have h1 := hob.1.1
  unfold readX
  rw [h.up, if_neg (by simp), hv]
  have hn : newestOf [((1 : Nat), b)] = (1, b) := if_pos (show bk0.epoch < b.epoch by show (0 : Int) < _; omega)
  rw [hn, if_neg (by show ¬ b.epoch = 0; omega)]
theorem read_none {X : DevD} {n : Nat} (h : Ready X n) (ha : (cpD X 0).1 ≠ 0) (hb : (cpD X 1).1 ≠ 0) : readX X = (5, 0, bk0) := by
  have hv : validTo X 2 = [] := by
    unfold validTo
    rw [if_neg hb]
    unfold validTo
    rw [if_neg ha]
    unfold validTo
    rfl
  unfold readX
  rw [h.up, if_neg (by simp), hv]
  rfl
end Go.Proofs.YtnopljanpjmbgaaGreat
namespace Go.Proofs.YtnopljanpjmbgaaGreat
open Go.RowKit Drum
set_option linter.unusedVariables false
/-- All bytes of the copies are durable. -/
def Dur2 (X : DevD) (n : Nat) : Prop := (X.D n).dur = (X.D n).bytes.length ∧ (X.D (n + 1)).dur = (X.D (n + 1)).bytes.length
theorem crash_dur {k : Int} {x : SlotD} (h : x.dur = x.bytes.length) : crashS k x = x := by
  obtain ⟨a, b, c⟩ := x
  have h' : c = b.length := h
  subst h'
  unfold crashS crashN
  simp
theorem op_yes {X : DevD} (f : (Nat → SlotD) → (Nat → SlotD)) (g : Bool → Bool) (ht : tickB X.T = true) : opX X f g = ⟨X.n, crashD (keepOf X.T) (if g (dnOf X.T) = true then f X.D else X.D), tickP X.T, X.ops + 1, true⟩ := by
  rw [opX_yes ht]
  rfl
theorem opE_yes {X : DevD} (ht : tickB X.T = true) : opE X = 13 := by unfold opE; rw [ht]; rfl
theorem tick_last {P : PlanD} (h : P.at_ = 1) : tickB (some P) = true ∧ tickP (some P) = none := by
  unfold tickB tickP
  rw [Option.bind_some, h]
  simp
  omega
theorem tick_more {P : PlanD} (h : 1 < P.at_) : tickB (some P) = false ∧ tickP (some P) = some ⟨P.at_ - 1, P.dn, P.keep⟩ := by
  unfold tickB tickP
  have h' : 0 < P.at_ - 1 := by omega
  rw [Option.bind_some, if_pos h']
  simp
  omega
theorem Ready.erase {X : DevD} {n : Nat} (h : Ready X n) (s : Nat) (hsl : s < n + 2) (t0 : tickB X.T = false) : EraseVX X (s : Int) = ⟨X.n, eraseD X.D s, tickP X.T, X.ops + 1, false⟩ ∧ oneVE X (s : Int) = 0 := by
  constructor
  · unfold EraseVX
    rw [if_pos (h.chk s hsl), op_no _ _ t0 h.up, Int.toNat_natCast]
  · unfold oneVE
    rw [if_pos (h.chk s hsl)]
    exact opE_no t0
/-- The device behind the erasing, and behind the appending. -/
theorem Ready.upd {X : DevD} {n : Nat} (h : Ready X n) (s : Nat) (x : SlotD) (hx : x.size = 64) (T : Option PlanD) (o : Nat) (D : Nat → SlotD) (hD : ∀ j, D j = if j = s then x else X.D j) : Ready ⟨X.n, D, T, o, false⟩ n := by
  refine ⟨h.hn, rfl, ?_, ?_⟩
  · show (D n).size = 64
    rw [hD]
    split
    · exact hx
    · exact h.s0
  · show (D (n + 1)).size = 64
    rw [hD]
    split
    · exact hx
    · exact h.s1
/-- What a crash in a writing leaves. -/
structure Crashed (X X' : DevD) (n s : Nat) (b : Bk) (zs : List Int) : Prop where
  hn : X'.n = n
  down : X'.down = true
  tm : X'.T = none
  ops : X'.ops ≤ X.ops + 3
  size : (X'.D n).size = 64 ∧ (X'.D (n + 1)).size = 64
  dur : Dur2 X' n
  other : ∀ j, j ≠ s → j = n ∨ j = n + 1 → (X'.D j).bytes = (X.D j).bytes
  own : (X'.D s).bytes = (X.D s).bytes ∨ (X'.D s).bytes.length < 64 ∨ ((X'.D s).bytes = encOf b ∧ 64 ≤ (keepAt zs s).toNat)
theorem crashed_of {X : DevD} {n : Nat} (h : Ready X n) (hd : Dur2 X n) (s : Nat) (hs : s = n ∨ s = n + 1) (b : Bk) (zs : List Int) (o : Nat) (ho : o ≤ X.ops + 3) (D : Nat → SlotD) (x : SlotD) (hD : ∀ j, D j = if j = s then x else X.D j)
    (hx : x = X.D s ∨ x = ⟨64, [], 0⟩ ∨ x = ⟨64, encOf b, 0⟩) : Crashed X ⟨X.n, crashD zs D, none, o, true⟩ n s b zs := by
  have hel : (encOf b).length = 64 := encOf_length b
  have hoth : ∀ j, j ≠ s → j = n ∨ j = n + 1 → crashD zs D j = X.D j := fun j hj hjn => by
    have e : D j = X.D j := by rw [hD, if_neg hj]
    unfold crashD
    rw [e]
    refine crash_dur ?_
    rcases hjn with rfl | rfl
    · exact hd.1
    · exact hd.2
  have hds : (X.D s).dur = (X.D s).bytes.length := by rcases hs with rfl | rfl; exact hd.1; exact hd.2
  have hown : ((crashD zs D s).bytes = (X.D s).bytes ∨ (crashD zs D s).bytes.length < 64 ∨ ((crashD zs D s).bytes = encOf b ∧ 64 ≤ (keepAt zs s).toNat)) ∧ (crashD zs D s).size = 64 ∧ (crashD zs D s).dur = (crashD zs D s).bytes.length := by
    have e : crashD zs D s = crashS (keepAt zs s) x := by unfold crashD; rw [hD, if_pos rfl]
    rw [e]
    rcases hx with rfl | rfl | rfl
    · rw [crash_dur hds]
      exact ⟨.inl rfl, h.size s hs, hds⟩
    · rw [crash_dur rfl]
      exact ⟨.inr (.inl (by show 0 < 64; omega)), rfl, rfl⟩
    · unfold crashS crashN
      dsimp only
      rw [hel, Nat.zero_add, Nat.sub_zero]
      obtain ⟨q, hq⟩ : ∃ q, min (keepAt zs s).toNat 64 = q := ⟨_, rfl⟩
      rw [hq]
      have hq64 : q ≤ 64 := by omega
      refine ⟨?_, rfl, by rw [List.length_take, hel]; omega⟩
      by_cases e : q = 64
      · right; right
        exact ⟨by rw [e, ← hel, List.take_length], by omega⟩
      · right; left
        rw [List.length_take, hel]
        omega
  have all : ∀ j, j = n ∨ j = n + 1 → (crashD zs D j).size = 64 ∧ (crashD zs D j).dur = (crashD zs D j).bytes.length := fun j hj => by
    by_cases e : j = s
    · subst e; exact hown.2
    · rw [hoth j e hj]
      refine ⟨h.size j hj, ?_⟩
      rcases hj with rfl | rfl
      · exact hd.1
      · exact hd.2
  exact ⟨h.hn, rfl, rfl, ho, ⟨(all n (.inl rfl)).1, (all (n + 1) (.inr rfl)).1⟩, ⟨(all n (.inl rfl)).2, (all (n + 1) (.inr rfl)).2⟩, fun j hj hjn => by show (crashD zs D j).bytes = _; rw [hoth j hj hjn], hown.1⟩
theorem write_crash {X : DevD} {n : Nat} (h : Ready X n) (hd : Dur2 X n) (b : Bk) (hb : b.ok) (P : PlanD) (hT : X.T = some P) (ha1 : 1 ≤ P.at_) (ha3 : P.at_ ≤ 3) :
    ∃ X', writeX X b = (13, X') ∧ Crashed X X' n (wslot X b) b P.keep := by
  obtain ⟨s, hs⟩ : ∃ s, wslot X b = s := ⟨_, rfl⟩
  have hs2 : s = n ∨ s = n + 1 := by have := h.wslot b hb; omega
  have hsl : s < n + 2 := by omega
  have hsz := h.size s hs2
  have hel : (encOf b).length = 64 := encOf_length b
  have hW : writeX X b = if wE X b 0 ≠ 0 then (wE X b 0, wX X b 1) else if wE X b 1 ≠ 0 then (wE X b 1, wX X b 2) else (wE X b 2, wX X b 3) := by
    unfold writeX
    rw [if_neg (by simpa using hb), h.up, if_neg (by simp)]
  have w0 : wE X b 0 = oneVE X (s : Int) := by rw [← hs]; rfl
  have x1 : wX X b 1 = EraseVX X (s : Int) := by rw [← hs]; rfl
  have w1 : wE X b 1 = appVE (EraseVX X (s : Int)) (s : Int) (encOf b) := by rw [← hs]; rfl
  have x2 : wX X b 2 = appVX (EraseVX X (s : Int)) (s : Int) (encOf b) := by rw [← hs]; rfl
  have w2 : wE X b 2 = oneVE (appVX (EraseVX X (s : Int)) (s : Int) (encOf b)) (s : Int) := by rw [← hs]; rfl
  have x3 : wX X b 3 = SyncVX (appVX (EraseVX X (s : Int)) (s : Int) (encOf b)) (s : Int) := by rw [← hs]; rfl
  rw [hs, hW]
  have hE : ∀ j, eraseD X.D s j = if j = s then ⟨64, [], 0⟩ else X.D j := fun j => by
    unfold eraseD updF
    rw [hsz]
  by_cases c1 : P.at_ = 1
  · obtain ⟨tb, tp⟩ := tick_last c1
    rw [← hT] at tb tp
    have e0 : oneVE X (s : Int) = 13 := by
      unfold oneVE
      rw [if_pos (h.chk s hsl)]
      exact opE_yes tb
    have e1 : EraseVX X (s : Int) = ⟨X.n, crashD P.keep (if id (dnOf X.T) = true then eraseD X.D s else X.D), none, X.ops + 1, true⟩ := by
      unfold EraseVX
      rw [if_pos (h.chk s hsl), op_yes _ _ tb, Int.toNat_natCast, tp, hT]
      rfl
    rw [w0, e0, if_pos (by simp), x1, e1]
    refine ⟨_, rfl, ?_⟩
    cases hdn : id (dnOf X.T) with
    | true =>
      rw [if_pos rfl]
      exact crashed_of h hd s hs2 b _ _ (by omega) _ ⟨64, [], 0⟩ hE (.inr (.inl rfl))
    | false =>
      rw [if_neg (by simp)]
      exact crashed_of h hd s hs2 b _ _ (by omega) _ (X.D s) (fun j => by split; rename_i e; rw [e]; rfl) (.inl rfl)
  · obtain ⟨tb, tp⟩ := tick_more (P := P) (by omega)
    rw [← hT] at tb tp
    obtain ⟨e1, e0⟩ := h.erase s hsl tb
    rw [tp] at e1
    have r1 := h.upd s ⟨64, [], 0⟩ rfl (some ⟨P.at_ - 1, P.dn, P.keep⟩) (X.ops + 1) (eraseD X.D s) hE
    have d1 : eraseD X.D s s = ⟨64, [], 0⟩ := by rw [hE, if_pos rfl]
    have hA : ∀ j, appD (eraseD X.D s) s (encOf b) j = if j = s then ⟨64, encOf b, 0⟩ else X.D j := fun j => by
      unfold appD
      rw [if_pos (by rw [d1]; show 0 + (encOf b).length ≤ 64; omega), d1]
      unfold updF
      by_cases e : j = s
      · rw [if_pos e, if_pos e]; rfl
      · rw [if_neg e, if_neg e, hE, if_neg e]
    have aV : ∀ T, appVX ⟨X.n, eraseD X.D s, T, X.ops + 1, false⟩ (s : Int) (encOf b) = opX ⟨X.n, eraseD X.D s, T, X.ops + 1, false⟩ (fun D => appD D s (encOf b)) (fun _ => true) := fun T => by
      have r := h.upd s ⟨64, [], 0⟩ rfl T (X.ops + 1) (eraseD X.D s) hE
      unfold appVX
      rw [if_pos (r.chk s hsl)]
      dsimp only
      rw [Int.toNat_natCast, if_pos (by rw [d1]; show 0 + (encOf b).length ≤ 64; omega)]
    have aE : ∀ T, appVE ⟨X.n, eraseD X.D s, T, X.ops + 1, false⟩ (s : Int) (encOf b) = opE ⟨X.n, eraseD X.D s, T, X.ops + 1, false⟩ := fun T => by
      have r := h.upd s ⟨64, [], 0⟩ rfl T (X.ops + 1) (eraseD X.D s) hE
      unfold appVE
      rw [if_pos (r.chk s hsl)]
      dsimp only
      rw [Int.toNat_natCast, if_pos (by rw [d1]; show 0 + (encOf b).length ≤ 64; omega)]
    rw [w0, e0, if_neg (by simp), w1, e1, aE]
    by_cases c2 : P.at_ = 2
    · obtain ⟨tb2, tp2⟩ := tick_last (P := ⟨P.at_ - 1, P.dn, P.keep⟩) (by show P.at_ - 1 = 1; omega)
      rw [opE_yes tb2, if_pos (by simp), x2, e1, aV, op_yes _ _ tb2]
      dsimp only
      rw [tp2, if_pos rfl]
      exact ⟨_, rfl, crashed_of h hd s hs2 b _ _ (by omega) _ ⟨64, encOf b, 0⟩ hA (.inr (.inr rfl))⟩
    · obtain ⟨tb2, tp2⟩ := tick_more (P := ⟨P.at_ - 1, P.dn, P.keep⟩) (by show 1 < P.at_ - 1; omega)
      obtain ⟨tb3, tp3⟩ := tick_last (P := ⟨P.at_ - 1 - 1, P.dn, P.keep⟩) (by show P.at_ - 1 - 1 = 1; omega)
      rw [opE_no tb2, if_neg (by simp), w2, x3, e1, aV, op_no _ _ tb2 rfl]
      dsimp only
      rw [tp2]
      have r2 := h.upd s ⟨64, encOf b, 0⟩ rfl (some ⟨P.at_ - 1 - 1, P.dn, P.keep⟩) (X.ops + 1 + 1) (appD (eraseD X.D s) s (encOf b)) hA
      have o3 : oneVE ⟨X.n, appD (eraseD X.D s) s (encOf b), some ⟨P.at_ - 1 - 1, P.dn, P.keep⟩, X.ops + 1 + 1, false⟩ (s : Int) = 13 := by
        unfold oneVE
        rw [if_pos (r2.chk s hsl)]
        exact opE_yes tb3
      have y3 : SyncVX ⟨X.n, appD (eraseD X.D s) s (encOf b), some ⟨P.at_ - 1 - 1, P.dn, P.keep⟩, X.ops + 1 + 1, false⟩ (s : Int) = ⟨X.n, crashD (keepOf (some ⟨P.at_ - 1 - 1, P.dn, P.keep⟩)) (appD (eraseD X.D s) s (encOf b)), none, X.ops + 1 + 1 + 1, true⟩ := by
        unfold SyncVX
        rw [if_pos (r2.chk s hsl), op_yes _ _ tb3]
        dsimp only
        rw [tp3, if_neg (by simp)]
      rw [o3, y3]
      exact ⟨_, rfl, crashed_of h hd s hs2 b _ _ (by omega) _ ⟨64, encOf b, 0⟩ hA (.inr (.inr rfl))⟩
end Go.Proofs.YtnopljanpjmbgaaGreat
namespace Go.Proofs.YtnopljanpjmbgaaGreat
open Go.RowKit Drum
set_option linter.unusedVariables false
/-- Which copy a superblock lies in. -/
def par (b : Bk) : Nat := (b.epoch % 2).toNat
theorem par_lt (b : Bk) : par b < 2 := by unfold par; omega
/-- This superblock is the newest one. -/
structure Cur (X : DevD) (n : Nat) (b : Bk) : Prop where
  ok : b.ok
  here : (X.D (n + par b)).bytes = encOf b
  there : (cpD X (1 - par b)).1 ≠ 0 ∨ (cpD X (1 - par b)).2.epoch < b.epoch
theorem cur_read {X : DevD} {n : Nat} (h : Ready X n) {b : Bk} (c : Cur X n b) : readX X = (0, par b, b) := by
  have h0 := cp_valid h c.ok c.here
  have h1 := c.there
  have hp := par_lt b
  have hp' : par b = 0 ∨ par b = 1 := by omega
  rcases hp' with e | e
  · rw [e] at h0 h1 ⊢
    obtain ⟨er, a, ha⟩ : ∃ er a, cpD X 1 = (er, a) := ⟨_, _, rfl⟩
    by_cases he : er = 0
    · subst he
      have h1 : (cpD X 1).1 ≠ 0 ∨ (cpD X 1).2.epoch < b.epoch := h1
      rw [ha] at h1
      have h2 : a.epoch < b.epoch := h1.resolve_left (fun e => e rfl)
      rw [read_two h h0 ha c.ok, if_neg (by omega)]
    · exact read_first h h0 (by rw [ha]; exact he) c.ok
  · rw [e] at h0 h1 ⊢
    obtain ⟨er, a, ha⟩ : ∃ er a, cpD X 0 = (er, a) := ⟨_, _, rfl⟩
    by_cases he : er = 0
    · subst he
      have h1 : (cpD X 0).1 ≠ 0 ∨ (cpD X 0).2.epoch < b.epoch := h1
      rw [ha] at h1
      have h2 : a.epoch < b.epoch := h1.resolve_left (fun e => e rfl)
      have hoa : a.ok := by have := cpD_ok (X := X) (i := 0) (by rw [ha]); rwa [ha] at this
      rw [read_two h ha h0 hoa, if_pos h2]
    · exact read_second h (by rw [ha]; exact he) h0 c.ok
theorem wslot_par {X : DevD} {n : Nat} (h : Ready X n) (b : Bk) : wslot X b = n + par b := by unfold wslot par; rw [h.hn]
theorem cpD_congr {X X' : DevD} {n i : Nat} (hn : X.n = n) (hn' : X'.n = n) (h : (X'.D (n + i)).bytes = (X.D (n + i)).bytes) : cpD X' i = cpD X i := by
  unfold cpD cpL
  rw [hn, hn', h]
/-- A superblock of the next epoch, written without a crash. -/
theorem cur_write {X : DevD} {n : Nat} (h : Ready X n) (hd : Dur2 X n) {a b : Bk} (c : Cur X n a) (hb : b.ok) (hab : b.epoch = a.epoch + 1) (t0 : tickB X.T = false) (t1 : tickB (tickP X.T) = false) (t2 : tickB (tickP (tickP X.T)) = false) :
    ∃ X', writeX X b = (0, X') ∧ Ready X' n ∧ Dur2 X' n ∧ X'.T = tickP (tickP (tickP X.T)) ∧ X'.ops = X.ops + 3 ∧ Cur X' n b ∧ X'.D (n + par b) = ⟨64, encOf b, 64⟩ ∧ (∀ j, j ≠ n + par b → X'.D j = X.D j) := by
  obtain ⟨X', h1, h2, h3, h4, h5, h6⟩ := write_ok h b hb t0 t1 t2
  rw [wslot_par h] at h5 h6
  have hp : par b = 1 - par a := by unfold par; omega
  have hpa := par_lt a
  refine ⟨X', h1, h2, ?_, h3, h4, ⟨hb, by rw [h5], ?_⟩, h5, h6⟩
  · have hel : (encOf b).length = 64 := encOf_length b
    have key : ∀ j, j = n ∨ j = n + 1 → (X'.D j).dur = (X'.D j).bytes.length := fun j hj => by
      by_cases e : j = n + par b
      · rw [e, h5]; exact hel.symm
      · rw [h6 j e]
        rcases hj with rfl | rfl
        · exact hd.1
        · exact hd.2
    exact ⟨key n (.inl rfl), key (n + 1) (.inr rfl)⟩
  · right
    have e1 : 1 - par b = par a := by omega
    rw [e1, cpD_congr (X := X) h.hn h2.hn (by rw [h6 _ (by omega)]), cp_valid h c.ok c.here]
    show a.epoch < b.epoch
    omega
/-- A superblock of the next epoch, and a crash in its writing. -/
theorem cur_crash {X : DevD} {n : Nat} (h : Ready X n) (hd : Dur2 X n) {a b : Bk} (c : Cur X n a) (hb : b.ok) (hab : b.epoch = a.epoch + 1) (P : PlanD) (hT : X.T = some P) (ha1 : 1 ≤ P.at_) (ha3 : P.at_ ≤ 3) :
    ∃ X', writeX X b = (13, X') ∧ X'.down = true ∧ X'.n = n ∧ X'.T = none ∧ X'.ops ≤ X.ops + 3 ∧ Ready (restartX X') n ∧ Dur2 (restartX X') n ∧ (Cur (restartX X') n a ∨ (Cur (restartX X') n b ∧ 64 ≤ (keepAt P.keep (n + par b)).toNat)) := by
  obtain ⟨X', h1, k⟩ := write_crash h hd b hb P hT ha1 ha3
  rw [wslot_par h] at k
  have hp : par b = 1 - par a := by unfold par; omega
  have hpa := par_lt a
  have hr : Ready (restartX X') n := ⟨k.hn, rfl, k.size.1, k.size.2⟩
  have hoth : ((restartX X').D (n + par a)).bytes = (X.D (n + par a)).bytes := k.other _ (by omega) (by omega)
  refine ⟨X', h1, k.down, k.hn, k.tm, k.ops, hr, k.dur, ?_⟩
  have e1 : 1 - par a = par b := by omega
  have e2 : 1 - par b = par a := by omega
  rcases k.own with e | e | ⟨e, ek⟩
  · left
    refine ⟨c.ok, hoth.trans c.here, ?_⟩
    have := c.there
    rw [e1] at this ⊢
    rw [cpD_congr (X := X) h.hn hr.hn e]
    exact this
  · left
    refine ⟨c.ok, hoth.trans c.here, .inl ?_⟩
    rw [e1, cp_short hr e]
    simp
  · right
    refine ⟨⟨hb, e, .inr ?_⟩, ek⟩
    rw [e2, cp_valid hr c.ok (hoth.trans c.here)]
    show a.epoch < b.epoch
    omega
/-- The next superblock, with a policy. -/
def nextB (b : Bk) (p : Int) : Bk := ⟨b.epoch + 1, ⟨b.conf.slots, b.conf.size, b.conf.reserve, b.conf.work, b.conf.key, b.conf.value, p⟩⟩
theorem nextB_ok {b : Bk} (h : b.ok) {p : Int} (hp : p = 1 ∨ p = 2) (he : b.epoch < 1099511627776) : (nextB b p).ok := by
  obtain ⟨⟨h1, h2⟩, h3⟩ := h
  unfold Cf.ok at h3
  refine ⟨⟨by show 1 ≤ b.epoch + 1; omega, by show b.epoch + 1 ≤ _; omega⟩, ?_⟩
  unfold nextB Cf.ok
  dsimp only
  omega
theorem adv_to {X : DevD} {n : Nat} (h : Ready X n) {b : Bk} (c : Cur X n b) {p : Int} (hp : p = 1 ∨ p = 2) (he : b.epoch < 1099511627776) :
    advX X p = if (writeX X (nextB b p)).1 ≠ 0 then ((writeX X (nextB b p)).1, bk0, (writeX X (nextB b p)).2) else (0, nextB b p, (writeX X (nextB b p)).2) := by
  have hr := cur_read h c
  have hn : nextOf b p = (0, nextB b p) := nextOf_ok c.ok hp (by omega)
  unfold advX
  rw [if_neg (by omega), h.up, if_neg (by simp), hr, if_neg (by simp), hn, if_neg (by simp)]
/-- Advance, without a crash, and with one. -/
theorem adv_ok {X : DevD} {n : Nat} (h : Ready X n) (hd : Dur2 X n) {b : Bk} (c : Cur X n b) {p : Int} (hp : p = 1 ∨ p = 2) (he : b.epoch < 1099511627776) (t0 : tickB X.T = false) (t1 : tickB (tickP X.T) = false) (t2 : tickB (tickP (tickP X.T)) = false) :
    ∃ X', advX X p = (0, nextB b p, X') ∧ Ready X' n ∧ Dur2 X' n ∧ X'.T = tickP (tickP (tickP X.T)) ∧ X'.ops = X.ops + 3 ∧ Cur X' n (nextB b p) ∧ X'.D (n + par (nextB b p)) = ⟨64, encOf (nextB b p), 64⟩ ∧ (∀ j, j ≠ n + par (nextB b p) → X'.D j = X.D j) := by
  obtain ⟨X', h1, h2, h3, h4, h5, h6, h7, h8⟩ := cur_write h hd c (nextB_ok c.ok hp he) rfl t0 t1 t2
  refine ⟨X', ?_, h2, h3, h4, h5, h6, h7, h8⟩
  rw [adv_to h c hp he, h1, if_neg (by simp)]
theorem adv_crash {X : DevD} {n : Nat} (h : Ready X n) (hd : Dur2 X n) {b : Bk} (c : Cur X n b) {p : Int} (hp : p = 1 ∨ p = 2) (he : b.epoch < 1099511627776) (P : PlanD) (hT : X.T = some P) (ha1 : 1 ≤ P.at_) (ha3 : P.at_ ≤ 3) :
    ∃ X', advX X p = (13, bk0, X') ∧ X'.down = true ∧ X'.n = n ∧ X'.T = none ∧ X'.ops ≤ X.ops + 3 ∧ Ready (restartX X') n ∧ Dur2 (restartX X') n ∧ (Cur (restartX X') n b ∨ (Cur (restartX X') n (nextB b p) ∧ 64 ≤ (keepAt P.keep (n + par (nextB b p))).toNat)) := by
  obtain ⟨X', h1, h2⟩ := cur_crash h hd c (nextB_ok c.ok hp he) rfl P hT ha1 ha3
  refine ⟨X', ?_, h2⟩
  rw [adv_to h c hp he, h1, if_pos (by simp)]
theorem tick_none : tickB none = false ∧ tickP none = none := ⟨rfl, rfl⟩
/-- Begin, on an empty device. -/
theorem begin_ok {X : DevD} {n : Nat} (h : Ready X n) (hT : X.T = none) (c : Cf) (hc : c.ok) (hs : c.slots = (n : Int)) (h0 : (X.D n).bytes = []) (h1 : (X.D (n + 1)).bytes = []) :
    ∃ X', beginX X c = (0, X') ∧ Ready X' n ∧ Dur2 X' n ∧ X'.T = none ∧ X'.ops = X.ops + 6 ∧ Cur X' n ⟨2, c⟩ ∧ X'.D n = ⟨64, encOf ⟨2, c⟩, 64⟩ ∧ X'.D (n + 1) = ⟨64, encOf ⟨1, c⟩, 64⟩ ∧ (∀ j, j < n → X'.D j = X.D j) := by
  have ok1 : Bk.ok ⟨1, c⟩ := ⟨⟨by show (1 : Int) ≤ 1; omega, by show (1 : Int) ≤ 1099511627776; omega⟩, hc⟩
  have ok2 : Bk.ok ⟨2, c⟩ := ⟨⟨by show (1 : Int) ≤ 2; omega, by show (2 : Int) ≤ 1099511627776; omega⟩, hc⟩
  obtain ⟨X1, a1, a2, a3, a4, a5, a6⟩ := write_ok h ⟨1, c⟩ ok1 (by rw [hT]; rfl) (by rw [hT]; rfl) (by rw [hT]; rfl)
  rw [wslot_par h] at a5 a6
  have a3' : X1.T = none := by rw [a3, hT]; rfl
  obtain ⟨X2, b1, b2, b3, b4, b5, b6⟩ := write_ok a2 ⟨2, c⟩ ok2 (by rw [a3']; rfl) (by rw [a3']; rfl) (by rw [a3']; rfl)
  rw [wslot_par a2] at b5 b6
  have p1 : par ⟨1, c⟩ = 1 := rfl
  have p2 : par ⟨2, c⟩ = 0 := rfl
  rw [p1] at a5 a6
  rw [p2] at b5 b6
  have d1 : X2.D (n + 1) = ⟨64, encOf ⟨1, c⟩, 64⟩ := by rw [b6 _ (by omega), a5]
  have d0 : X2.D n = ⟨64, encOf ⟨2, c⟩, 64⟩ := b5
  have he1 : (encOf ⟨1, c⟩).length = 64 := encOf_length _
  have he2 : (encOf ⟨2, c⟩).length = 64 := encOf_length _
  refine ⟨X2, ?_, b2, ⟨by rw [d0]; exact he2.symm, by rw [d1]; exact he1.symm⟩, by rw [b3, a3']; rfl, by omega, ⟨ok2, ?_, ?_⟩, d0, d1, fun j hj => by rw [b6 _ (by omega), a6 _ (by omega)]⟩
  · unfold beginX
    rw [if_neg (fun e => e ⟨hc, by rw [hs, h.hn]⟩), h.up, if_neg (by simp), if_neg, a1, if_neg (by simp), b1]
    unfold cpL
    rw [h.hn, Nat.add_zero, h0, h1]
    simp
  · rw [p2, Nat.add_zero, d0]
  · right
    rw [p2]
    have : cpD X2 1 = (0, ⟨1, c⟩) := cp_valid b2 ok1 (by rw [d1])
    show (cpD X2 1).2.epoch < 2
    rw [this]
    show (1 : Int) < 2
    omega
/-- Begin, where there are bytes. -/
theorem begin_have {X : DevD} {n : Nat} (h : Ready X n) (c : Cf) (hc : c.ok) (hs : c.slots = (n : Int)) (h0 : (X.D n).bytes ≠ []) : beginX X c = (6, X) := by
  unfold beginX
  rw [if_neg (fun e => e ⟨hc, by rw [hs, h.hn]⟩), h.up, if_neg (by simp), if_pos]
  left
  unfold cpL
  rw [h.hn, Nat.add_zero]
  exact List.length_pos_iff.2 h0
theorem ready_new (n size : Nat) : Ready (newVD n size) n ∧ Dur2 (newVD n size) n ∧ (newVD n size).T = none ∧ (newVD n size).ops = 0 ∧ ((newVD n size).D n).bytes = [] ∧ ((newVD n size).D (n + 1)).bytes = [] := by
  refine ⟨⟨rfl, rfl, ?_, ?_⟩, ⟨rfl, rfl⟩, rfl, rfl, rfl, rfl⟩
  · show (if n < n then size else 64) = 64
    rw [if_neg (by omega)]
  · show (if n + 1 < n then size else 64) = 64
    rw [if_neg (by omega)]
end Go.Proofs.YtnopljanpjmbgaaGreat
namespace Go.Proofs.YtnopljanpjmbgaaGreat
open Go.RowKit Drum
set_option linter.unusedVariables false
/-- The configuration of the examples. -/
def cF (p : Int) : Cf := ⟨4, 128, 2, 200, 8, 16, p⟩
theorem cF_ok (p : Int) (hp : p = 1 ∨ p = 2) : (cF p).ok := by unfold cF Cf.ok; dsimp only; omega
theorem cF_wf (p : Int) (hp : p = 1 ∨ p = 2) : (cF p).wf := fun n hn => by
  have := Cf.ok_nums (cF_ok p hp) n hn
  omega
/-- The devices of the examples. -/
structure Wks (X1 X2 X4 X6 : DevD) : Prop where
  r0 : readX (newVD 4 128) = (5, 0, bk0)
  b0 : beginX (newVD 4 128) (cF 1) = (0, X1)
  r1 : readX X1 = (0, 0, ⟨2, cF 1⟩)
  b1 : beginX X1 (cF 1) = (6, X1)
  a1 : advX X1 2 = (0, ⟨3, cF 2⟩, X2)
  r2 : readX X2 = (0, 1, ⟨3, cF 2⟩)
  a3 : advX (armX X2 2 false [10]) 1 = (13, bk0, X4)
  r4 : readX X4 = (13, 0, bk0)
  r5 : readX (restartX X4) = (0, 1, ⟨3, cF 2⟩)
  a5 : advX (restartX X4) 1 = (0, ⟨4, cF 1⟩, X6)
  r6 : readX X6 = (0, 0, ⟨4, cF 1⟩)
  ops : X1.ops ≤ 100 ∧ X2.ops ≤ 100 ∧ X4.ops ≤ 100 ∧ X6.ops ≤ 100
theorem wks : ∃ X1 X2 X4 X6, Wks X1 X2 X4 X6 := by
  obtain ⟨h0, d0, t0, o0, e0, e1⟩ := ready_new 4 128
  have hc := cF_ok 1 (.inl rfl)
  obtain ⟨X1, b1, h1, d1, t1, o1, c1, s1, _, _⟩ := begin_ok h0 t0 (cF 1) hc rfl e0 e1
  obtain ⟨X2, a1, h2, d2, t2, o2, c2, s2, _⟩ := adv_ok h1 d1 c1 (p := 2) (.inr rfl) (by show (2 : Int) < _; omega) (by rw [t1]; rfl) (by rw [t1]; rfl) (by rw [t1]; rfl)
  have t2' : X2.T = none := by rw [t2, t1]; rfl
  have hx : armX X2 2 false [10] = { X2 with T := some ⟨2, false, [10]⟩ } := by
    unfold armX
    rw [if_pos (show okPlan 2 [10] by unfold okPlan; decide), if_neg (by simp)]
    rfl
  have h3 : Ready (armX X2 2 false [10]) 4 := by rw [hx]; exact ⟨h2.hn, h2.up, h2.s0, h2.s1⟩
  have d3 : Dur2 (armX X2 2 false [10]) 4 := by rw [hx]; exact d2
  have c3 : Cur (armX X2 2 false [10]) 4 (nextB ⟨2, cF 1⟩ 2) := by rw [hx]; exact ⟨c2.ok, c2.here, c2.there⟩
  obtain ⟨X4, a3, q1, q2, q3, q4, q5, q6, q7⟩ := adv_crash h3 d3 c3 (p := 1) (.inl rfl) (by show (2 : Int) + 1 < _; omega) ⟨2, false, [10]⟩ (by rw [hx]) (by show (1 : Int) ≤ 2; omega) (by show (2 : Int) ≤ 3; omega)
  have c5 : Cur (restartX X4) 4 (nextB ⟨2, cF 1⟩ 2) := by
    rcases q7 with h | ⟨_, h⟩
    · exact h
    · exfalso
      have e : keepAt [10] (4 + par (nextB (nextB ⟨2, cF 1⟩ 2) 1)) = 10 := by unfold keepAt; rw [show ([10] : List Int).length = 1 from rfl, Nat.mod_one]; rfl
      rw [e] at h
      simp at h
  have t5 : (restartX X4).T = none := q3
  obtain ⟨X6, a5, h6, d6, t6, o6, c6, s6, _⟩ := adv_ok q5 q6 c5 (p := 1) (.inl rfl) (by show (2 : Int) + 1 < _; omega) (by rw [t5]; rfl) (by rw [t5]; rfl) (by rw [t5]; rfl)
  have hem : ((newVD 4 128).D 4).bytes = [] := e0
  have e64 : ∀ b, (encOf b).length = 64 := encOf_length
  have hops3 : (armX X2 2 false [10]).ops = X2.ops := by rw [hx]
  have hops5 : (restartX X4).ops = X4.ops := rfl
  refine ⟨X1, X2, X4, X6, ?_, b1, cur_read h1 c1, ?_, a1, cur_read h2 c2, a3, ?_, cur_read q5 c5, a5, cur_read h6 c6, ?_⟩
  · exact read_none h0 (by rw [cp_short h0 (by rw [Nat.add_zero, e0]; show 0 < 64; omega)]; simp) (by rw [cp_short h0 (by rw [e1]; show 0 < 64; omega)]; simp)
  · exact begin_have h1 (cF 1) hc rfl (by rw [s1]; intro e; have := e64 ⟨2, cF 1⟩; rw [show encOf ⟨2, cF 1⟩ = [] from e] at this; cases this)
  · unfold readX; rw [q1, if_pos rfl]
  · omega
end Go.Proofs.YtnopljanpjmbgaaGreat
