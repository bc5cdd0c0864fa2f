/-
  The walks of the document's disk (drumlinref10.Disk): Read, Copy, Used, Same. Conditions: the disk is as New makes it.
-/
import Derived.Test.YtelobbigpgfobaaRdisk3
import Derived.Test.YtelobbigpgfobaaDisk8
namespace Go.Proofs.Ytelobbigpgfobaa
open Go.RowKit
set_option linter.unusedVariables false
section
variable {w w' w1 : World} {S S' : Nat → Prop} {d n : Nat} {D : Nat → SlotD}
set_option maxHeartbeats 1000000 in
theorem rread (h : IsR w S d n D) (hn : 0 < n) (i : Nat) (hi : i < n) (off m : Nat) (hin : off + m ≤ (D i).bytes.length) :
    Calls Try.prog 60 #[.pointer (some ⟨d, 0, none⟩), .int .i64 (i : Int), .int .i64 (off : Int), .int .i64 (m : Int)] w fun e w' => ∃ v, e = .returned (.tuple #[v, .int .i64 0]) ∧ w'.ownsRow w.heap.size 5 1 v m (u8s (((D i).bytes.drop off).take m)) ∧ Below w.heap.size w w' := by
  obtain ⟨A, c, q0, _, hnc, hm, hc⟩ := h.cells
  obtain ⟨ad, B, cb, rfl, a0, a1, a2, hb⟩ := hc i hi
  have HV := Lib.hid (rcheck h hn i hi)
  have HRB := Lib.hid (hb.reads h.lt)
  have hb2 := hb.2.1
  have hb1 := hb.1
  obtain ⟨u1, u2, u3, u4⟩ := h.nums i hi
  unfold maxLen at hm hb2
  clear h hc hb
  have d1 : decide ((off : Int) < 0) = false := by simp
  have d2 : decide ((m : Int) < 0) = false := by simp
  have d3 : decide (((D i).bytes.length : Int) < (off : Int)) = false := by simp; omega
  have d4 : decide (((D i).bytes.length : Int) - (off : Int) < (m : Int)) = false := by simp; omega
  obtain ⟨i0, hi0, hz0, hz1, hz2⟩ := info_parts u8_info
  have HO := Lib.hid (made0b w)
  rcases Nat.eq_zero_or_pos m with hn0 | hpos
  · subst hn0
    have HR : Hid (∀ A2, Reads (w.alloc (.cells #[] 5)) w.heap.size 1 A2 0 (u8s [])) := fun A2 => ⟨rfl, fun h => absurd h (by omega)⟩
    rw [List.take_zero]
    clear HRB
    cases B with
    | none =>
      go_enter Try.func60, Try.ntmps60
      go_wp2_with fail
      refine HV.out.mono ?_
      rintro e w' ⟨rfl, rfl⟩
      go_wp2_with (at_builtin
                   refine wpList_append_any _ rfl (.tmp 46) (.tmp 52) _ rfl w.heap.size 5 i0 _ 1 1 Try.underlying36 hi0 hz0 hz1 hz2 rfl (by omega) (.slice (some ⟨w.heap.size, 0, none⟩) 0 0) 0 [] rfl
                     HO.out w.heap.size _ 0 _ (u8s []) rfl (HR.out _) (u8s_one _) (by simp only [maxLen]; omega) (by omega) (by simp) ?_
                   intro v1 w4 hown1 hg1 hat1
                   rw [Nat.zero_add, List.nil_append] at hown1
                   have HO1 := Lib.hid hown1
                   have HB4 := Lib.hid (((Below.refl w.heap.size w).alloc (Nat.le_refl _) (.cells #[] 5)).grown hg1 (by simp) (by intro q hq; simp [Value.ownBlock] at hq; omega))
                   clear hown1 hg1 hat1)
      all_goals
        go_ret2
        exact ⟨_, rfl, HO1.out, HB4.out⟩
    | some a =>
      go_enter Try.func60, Try.ntmps60
      go_wp2_with fail
      refine HV.out.mono ?_
      rintro e w' ⟨rfl, rfl⟩
      go_wp2_with (at_builtin
                   refine wpList_append_any _ rfl (.tmp 46) (.tmp 52) _ rfl w.heap.size 5 i0 _ 1 1 Try.underlying36 hi0 hz0 hz1 hz2 rfl (by omega) (.slice (some ⟨w.heap.size, 0, none⟩) 0 0) 0 [] rfl
                     HO.out w.heap.size _ 0 _ (u8s []) rfl (HR.out _) (u8s_one _) (by simp only [maxLen]; omega) (by omega) (by simp) ?_
                   intro v1 w4 hown1 hg1 hat1
                   rw [Nat.zero_add, List.nil_append] at hown1
                   have HO1 := Lib.hid hown1
                   have HB4 := Lib.hid (((Below.refl w.heap.size w).alloc (Nat.le_refl _) (.cells #[] 5)).grown hg1 (by simp) (by intro q hq; simp [Value.ownBlock] at hq; omega))
                   clear hown1 hg1 hat1)
      all_goals
        go_ret2
        exact ⟨_, rfl, HO1.out, HB4.out⟩
  · have hn0 : ¬ m = 0 := by omega
    have hc0 : ¬ cb = off := by omega
    have hr : Reads w w.heap.size 1 (Option.map (fun x => x.add off) B) m (u8s (((D i).bytes.drop off).take m)) := by
      have h1 := HRB.out.cut (k := off) (by omega) hb1
      rw [if_neg (by omega), Nat.mul_one, ← u8s_drop] at h1
      exact h1.take (by omega)
    cases B with
    | none => obtain ⟨ad, e, _⟩ := hr.2 hpos; cases e
    | some a =>
      obtain ⟨ll, hll⟩ : ∃ ll, ll = ((D i).bytes.drop off).take m := ⟨_, rfl⟩
      rw [← hll] at hr ⊢
      have HR : Hid (Reads (w.alloc (.cells #[] 5)) w.heap.size 1 (some (a.add off)) m (u8s ll)) := hr.alloc (Nat.le_refl _) _
      clear hll hr HRB
      go_enter Try.func60, Try.ntmps60
      go_wp2_with fail
      refine HV.out.mono ?_
      rintro e w' ⟨rfl, rfl⟩
      go_wp2_with (at_builtin
                   refine wpList_append_any _ rfl (.tmp 46) (.tmp 52) _ rfl w.heap.size 5 i0 _ 1 1 Try.underlying36 hi0 hz0 hz1 hz2 rfl (by omega) (.slice (some ⟨w.heap.size, 0, none⟩) 0 0) 0 [] rfl
                     HO.out w.heap.size (some (a.add off)) m (cb - off) (u8s ll) (show Value.slice (some (a.add off)) (off + m - off) (cb - off) = _ by rw [Nat.add_sub_cancel_left]) HR.out (u8s_one _) (by simp only [maxLen]; omega) (by omega) (by simp) ?_
                   intro v1 w4 hown1 hg1 hat1
                   rw [Nat.zero_add, List.nil_append] at hown1
                   have HO1 := Lib.hid hown1
                   have HB4 := Lib.hid (((Below.refl w.heap.size w).alloc (Nat.le_refl _) (.cells #[] 5)).grown hg1 (by simp) (by intro q hq; simp [Value.ownBlock] at hq; omega))
                   clear hown1 hg1 hat1)
      all_goals
        go_ret2
        exact ⟨_, rfl, HO1.out, HB4.out⟩
set_option maxHeartbeats 1000000 in
theorem rread_bad (h : IsR w S d n D) (hn : 0 < n) (i : Nat) (hi : i < n) (off m : Int) (hbad : badRead (D i).bytes.length off m) :
    Calls Try.prog 60 #[.pointer (some ⟨d, 0, none⟩), .int .i64 (i : Int), .int .i64 off, .int .i64 m] w fun e w' => e = .returned (.tuple #[.slice none 0 0, .int .i64 3]) ∧ w = w' := by
  obtain ⟨A, c, q0, _, hnc, hm, hc⟩ := h.cells
  obtain ⟨ad, B, cb, rfl, a0, a1, a2, hb⟩ := hc i hi
  have HV := Lib.hid (rcheck h hn i hi)
  have hb2 := hb.2.1
  have hb1 := hb.1
  obtain ⟨u1, u2, u3, u4⟩ := h.nums i hi
  unfold maxLen at hm hb2
  clear h hc hb
  have hcs : off < 0 ∨ (0 ≤ off ∧ m < 0) ∨ (0 ≤ off ∧ 0 ≤ m ∧ ((D i).bytes.length : Int) < off) ∨ (0 ≤ off ∧ 0 ≤ m ∧ off ≤ ((D i).bytes.length : Int) ∧ ((D i).bytes.length : Int) - off < m) := by unfold badRead at hbad; omega
  clear hbad
  rcases hcs with h | ⟨h, h'⟩ | ⟨h, h', h''⟩ | ⟨h, h', h'', h3⟩
  · have d1 : decide (off < 0) = true := by simpa using h
    go_enter Try.func60, Try.ntmps60
    go_wp2_with fail
    refine HV.out.mono ?_
    rintro e w' ⟨rfl, rfl⟩
    go_wp2_with fail
    go_ret2
    exact ⟨rfl, rfl⟩
  · have d1 : decide (off < 0) = false := by simp; omega
    have d2 : decide (m < 0) = true := by simpa using h'
    go_enter Try.func60, Try.ntmps60
    go_wp2_with fail
    refine HV.out.mono ?_
    rintro e w' ⟨rfl, rfl⟩
    go_wp2_with fail
    go_ret2
    exact ⟨rfl, rfl⟩
  · have d1 : decide (off < 0) = false := by simp; omega
    have d2 : decide (m < 0) = false := by simp; omega
    have d3 : decide (((D i).bytes.length : Int) < off) = true := by simpa using h''
    go_enter Try.func60, Try.ntmps60
    go_wp2_with fail
    refine HV.out.mono ?_
    rintro e w' ⟨rfl, rfl⟩
    go_wp2_with fail
    go_ret2
    exact ⟨rfl, rfl⟩
  · have d1 : decide (off < 0) = false := by simp; omega
    have d2 : decide (m < 0) = false := by simp; omega
    have d3 : decide (((D i).bytes.length : Int) < off) = false := by simp; omega
    have d4 : decide (((D i).bytes.length : Int) - off < m) = true := by simpa using h3
    go_enter Try.func60, Try.ntmps60
    go_wp2_with fail
    refine HV.out.mono ?_
    rintro e w' ⟨rfl, rfl⟩
    go_wp2_with fail
    go_ret2
    exact ⟨rfl, rfl⟩
set_option maxHeartbeats 1000000 in
theorem rcopy (h : IsR w S d n D) (hn : 0 < n) (hm34 : n ≤ 65536) :
    Calls Try.prog 30 #[.pointer (some ⟨d, 0, none⟩)] w fun e w' => ∃ d' S', e = .returned (.pointer (some ⟨d', 0, none⟩)) ∧ IsR w' S' d' n D ∧ w.heap.size ≤ d' ∧ (∀ k, S k → S' k) ∧ (∀ k, S' k → S k ∨ w.heap.size ≤ k) ∧ Below w.heap.size w w' := by
  obtain ⟨i0, hi0, hz0, hz1, hz2⟩ := info_parts slot_info
  obtain ⟨⟨A, c, bs, h1, h2, h3, h4⟩, h5, h6, h7⟩ := h
  have HV := Lib.hid (rvalid ⟨⟨A, c, bs, h1, h2, h3, h4⟩, h5, h6, h7⟩ hn)
  obtain ⟨A', c', e, k1, k2, kr⟩ := own_slice h2
  injection e with e1 e2 e3
  subst e1 e3
  clear e2
  obtain ⟨ad, rfl, _⟩ := kr.2 hn
  have q0 : w.cell? ⟨d, 0, none⟩ = some (.slice (some ad) n c) := h1.cell 0
  have hdl := h1.lt
  have HO := Lib.hid (made0s w)
  have HB1 : Hid (Below w.heap.size w (w.alloc (.cells #[] 87))) := (Below.refl _ _).alloc (Nat.le_refl _) _
  have HRA : Hid (Reads (w.alloc (.cells #[] 87)) w.heap.size 3 (some ad) n (rrow D bs n)) := kr.below HB1.out
  have H4 := Lib.hid h4
  have H6 := Lib.hid h6
  have H7 := Lib.hid h7
  unfold maxLen at k2
  clear h1 h2 h3 h4 h5 h6 h7 kr
  go_enter Try.func30, Try.ntmps30
  go_wp2_with fail
  refine HV.out.mono ?_
  rintro e w' ⟨rfl, rfl⟩
  go_wp2_with (at_builtin
               refine wpList_append_any _ rfl (.tmp 6) (.tmp 10) _ rfl w.heap.size 87 i0 _ 3 40 Try.underlying83 hi0 hz0 hz1 hz2 rfl (by omega) (.slice (some ⟨w.heap.size, 0, none⟩) 0 0) 0 [] rfl
                 HO.out w.heap.size _ n _ (rrow D bs n) rfl HRA.out (rrow_one _ _ _) (by simp only [maxLen]; omega) (by omega) (by simp) ?_
               intro v1 w4 hown1 hg1 hat1
               rw [Nat.zero_add, List.nil_append] at hown1
               have HB4 := Lib.hid (HB1.out.grown hg1 (by simp) (by intro q hq; simp [Value.ownBlock] at hq; omega))
               obtain ⟨A1, c1, rfl, hA1, hc1, _⟩ := own_slice hown1
               have HO1 := Lib.hid hown1
               clear hown1 hg1 hat1)
  go_ret
  have hb5 : Below w.heap.size w (w4.alloc (.cells #[.slice A1 n c1] 85)) := HB4.out.alloc HB4.out.size _
  have ho5 : (w4.alloc (.cells #[.slice A1 n c1] 85)).ownsRow w.heap.size 87 3 (.slice A1 n c1) n (rrow D bs n) := HO1.out.alloc _
  have hlt := HO1.out.lt
  have hsz := HB4.out.size
  refine ⟨w4.heap.size, fun k => S k ∨ (Value.slice A1 n c1).ownBlock = some k, rfl, ⟨⟨A1, c1, bs, Blk.new w4 _ _, own_base ho5 (fun _ _ => Nat.zero_le _), fun k hk => .inr hk, fun j hj => ((H4.out j hj).chg H6.out.lt (Chg.of_below (F := fun _ => False) hb5) (fun _ _ h => h)).more (fun k hk => .inl hk)⟩, ?_, ?_, H7.out⟩, hsz, fun k hk => .inl hk, fun k hk => hk.imp id (fun e => (hlt k e).1), hb5⟩
  · rintro (e | e)
    · have := H6.out.lt _ e; omega
    · have := (hlt _ e).2; omega
  · exact (H6.out.below hb5).or (own_cells ho5)
theorem int_info : (Try.prog.info? 3).map (fun i => (i.zero, i.size, i.bytes)) = some (some (.int .i64 0), 1, 8) := by kernel_rfl
theorem ints_append (l m : List Int) : ints l ++ ints m = ints (l ++ m) := by simp [ints]
def nats (l : List Nat) : List Int := l.map (fun (i : Nat) => (i : Int))
theorem ints_one' (l : List Int) : ∀ u ∈ ints l, u.oneCell' = true := by
  intro u hu
  simp only [ints, List.mem_map] at hu
  obtain ⟨z, _, rfl⟩ := hu
  rfl
set_option maxHeartbeats 1000000 in
theorem rused (h : IsR w S d n D) (hn : 0 < n) (hm34 : n ≤ 65536) :
    Calls Try.prog 63 #[.pointer (some ⟨d, 0, none⟩)] w fun e w' => ∃ v, e = .returned v ∧ w'.ownsRow w.heap.size 3 1 v (usedTo D n).length (ints (nats (usedTo D n))) ∧ Below w.heap.size w w' := by
  obtain ⟨i0, hi0, hz0, hz1, hz2⟩ := info_parts int_info
  have H := Lib.hid h
  clear h
  go_enter Try.func63, Try.ntmps63
  go_wp2_with fail
  go_loopg [3, 4] n (fun q v3 v4 wr => ∃ (j : Nat) , j + q = n ∧ v4 = .int .i64 j ∧ wr.ownsRow w.heap.size 3 1 v3 (usedTo D j).length (ints (nats (usedTo D j))) ∧ Below w.heap.size w wr)
  case atStart => exact ⟨0, by omega, rfl, World.ownsRow_nil _ _ _ _, Below.refl _ _⟩
  case round =>
    obtain ⟨j, hj, rfl, ho, hb⟩ := hrel
    have hr := H.out.below hb
    have HV := Lib.hid (rvalid hr hn)
    obtain ⟨A, c, q0, _, hnc, hm, hc⟩ := hr.cells
    unfold maxLen at hm
    have HJ := Lib.hid hj
    have HB := Lib.hid hb
    have HO := Lib.hid ho
    have hj' : j ≤ n := by omega
    by_cases hlt : j < n
    · obtain ⟨ad, B, cb, rfl, a0, a1, a2, hbt⟩ := hc j hlt
      have hb2 := hbt.2.1
      have hb1 := hbt.1
      unfold maxLen at hb2
      have hsz := hb.size
      have hul := usedTo_length D j
      obtain ⟨A3, c3, rfl, hA3, hc3, _⟩ := own_slice ho
      have HN : Hid (Reads (wr.alloc (.cells #[.int .i64 (j : Int)] 3)) (wr.heap.size + 1) 1 (some ⟨wr.heap.size, 0, none⟩) 1 [.int .i64 (j : Int)]) := reads_news wr 3 #[.int .i64 (j : Int)] (0, 0) 1 rfl
      by_cases hpos : 0 < (D j).bytes.length
      · have HE := Lib.hid (usedTo_succ_pos hpos)
        clear hj hb ho hr hc hbt
        go_wp2_with fail
        refine HV.out.mono ?_
        rintro e w' ⟨rfl, rfl⟩
        go_wp2_with (at_builtin
                     refine wpList_append_any _ rfl (.tmp 28) (.tmp 30) _ rfl w.heap.size 3 i0 _ 1 8 Try.underlying32 hi0 hz0 hz1 hz2 rfl (by omega) (.slice A3 (usedTo D j).length c3) (usedTo D j).length _ rfl
                       (HO.out.alloc _) _ _ 1 1 _ rfl HN.out (by intro u hu; rcases List.mem_singleton.1 hu with rfl; rfl) (by simp only [maxLen]; omega) (by omega) (by simp; omega) ?_
                     intro v1 w4 hown1 hg1 hat1
                     have HO1 := Lib.hid hown1
                     have HB4 := Lib.hid ((HB.out.alloc hsz (.cells #[.int .i64 (j : Int)] 3)).grown hg1 (by simp; omega) (fun q hq => (HO.out.lt q hq).1))
                     clear hown1 hg1 hat1)
        go_roundg (gk - 1)
        case measure => have := HJ.out; omega
        case rel =>
          refine ⟨j + 1, by have := HJ.out; omega, by go_num, ?_, HB4.out⟩
          rw [HE.out, List.length_append]
          have := HO1.out
          rw [show [Value.int .i64 (j : Int)] = ints (nats [j]) from rfl, ints_append] at this
          rw [show nats (usedTo D j ++ [j]) = nats (usedTo D j) ++ nats [j] from by simp [nats]]
          exact this
      · have HE := Lib.hid (usedTo_succ_zero hpos)
        clear hj hb ho hr hc hbt
        go_wp2_with fail
        refine HV.out.mono ?_
        rintro e w' ⟨rfl, rfl⟩
        go_wp2_with fail
        go_roundg (gk - 1)
        case measure => have := HJ.out; omega
        case rel => exact ⟨j + 1, by have := HJ.out; omega, by go_num, by rw [HE.out]; exact HO.out, HB.out⟩
    · have e8 : j = n := by omega
      subst e8
      obtain ⟨A3, c3, rfl, hA3, hc3, _⟩ := own_slice ho
      clear hj hb ho hr hc
      go_wp2_with fail
      refine HV.out.mono ?_
      rintro e w' ⟨rfl, rfl⟩
      go_wp2_with fail
      go_ret
      exact ⟨_, rfl, HO.out, HB.out⟩
set_option maxHeartbeats 1000000 in
theorem rsame (A1 A2 : Option Addr) (m c1 c2 : Nat) (l : List (BitVec 8)) (w : World) (hm : m ≤ 1000000) (h1 : Reads w w.heap.size 1 A1 m (u8s l)) (h2 : Reads w w.heap.size 1 A2 m (u8s l)) :
    Calls Try.prog 61 #[.slice A1 m c1, .slice A2 m c2] w fun e w' => e = .returned (.bool true) ∧ ∃ q, w' = w.drewN q := by
  have H1 := Lib.hid h1
  have H2 := Lib.hid h2
  have hl : l.length = m := by have := h1.1; rw [u8s_length] at this; omega
  clear h1 h2
  have HL := Lib.hid hl
  clear hl
  go_enter Try.func61, Try.ntmps61
  go_wp2_with fail
  go_loopg [5] m (fun q v5 wr => ∃ (j : Nat), j + q = m ∧ v5 = .int .i64 j ∧ ∃ q, wr = w.drewN q)
  case atStart => exact ⟨0, by omega, rfl, 0, rfl⟩
  case round =>
    obtain ⟨j, hj, rfl, q, rfl⟩ := hrel
    have HJ := Lib.hid hj
    have hj' : j ≤ m := by omega
    by_cases hlt : j < m
    · obtain ⟨ad1, u, rfl, _, hu, k1⟩ := H1.out.at_ hlt
      obtain ⟨hk, rfl⟩ := u8s_at hu
      replace k1 : w.cell? (ad1.add j) = some (.int .u8 (n8 l[j])) := k1
      obtain ⟨ad2, u, rfl, _, hu2, k2⟩ := H2.out.at_ hlt
      rw [hu] at hu2
      injection hu2 with hu2
      subst hu2
      have k1' : (w.drewN q).cell? (ad1.add j) = some (.int .u8 (n8 l[j])) := k1
      have k2' : (w.drewN q).cell? (ad2.add j) = some (.int .u8 (n8 l[j])) := k2
      obtain ⟨z, hz⟩ : ∃ z, n8 l[j] = z := ⟨_, rfl⟩
      rw [hz] at k1' k2' k1 k2
      clear hj hu hz k1' k2'
      go_wp2_with fail
      go_quiet (fail)
      go_wp2_with fail
      go_roundg (gk - 1)
      case measure => have := HJ.out; omega
      case rel => exact ⟨j + 1, by have := HJ.out; omega, by go_num, _, rfl⟩
    · have e8 : j = m := by omega
      subst e8
      clear hj
      go_wp2_with fail
      go_ret
      exact ⟨rfl, _, rfl⟩
end
end Go.Proofs.Ytelobbigpgfobaa
