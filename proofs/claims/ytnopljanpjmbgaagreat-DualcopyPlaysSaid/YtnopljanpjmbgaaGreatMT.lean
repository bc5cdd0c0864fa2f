/-
  The document's device: Arm, Copy; The document's device: New; The document's device: its methods on a device that is nil; A device and the document's side by side, or both nil: each method on the one and on the other, with results that are the same plain functions; A device and the document's side by side: Arm, Copy, Read, Disk.
-/
import Derived.Test.YtnopljanpjmbgaaGreatMR
import Derived.Test.YtnopljanpjmbgaaGreatMI
namespace Go.Proofs.YtnopljanpjmbgaaGreat
open Go.RowKit Go.Shelf
set_option linter.unusedVariables false
section
variable {B : Nat} {w w' w0 : World} {os : List Ob} {r : Nat} {R : RLay} {X : DevD}
set_option maxRecDepth 100000 in
set_option maxHeartbeats 2000000 in
theorem rd_arm (h : Sep B w0 w (rv3 r R X os)) (hX : X.Ok) (at_ : Int) (dn : Bool) (A : Option Addr) (m c : Nat) (keep : List Int) (hr : ∀ W, Kept B w0 os W → Reads W W.heap.size 1 A m (ints keep)) (hmc : m ≤ c) (hcm : c ≤ maxLen) (hat : -9223372036854775808 ≤ at_ ∧ at_ ≤ 9223372036854775807) :
    Calls Tryz.prog 25 #[.pointer (some ⟨r, 0, none⟩), planV at_ dn A m c] w fun e w' => e = .returned (.int .i64 (armE at_ keep)) ∧ ∃ R', Sep B w0 w' (rv3 r R' (armX X at_ dn keep) os) := by
  obtain ⟨W1, hW1⟩ : ∃ W1, W1 = w.alloc (.cells #[.int .i64 at_, .bool dn, .slice A m c] 64) := ⟨_, rfl⟩
  obtain ⟨pb, hpb⟩ : ∃ pb, pb = w.heap.size := ⟨_, rfl⟩
  have hs1 : Sep B w0 W1 (blkOb pb 64 #[.int .i64 at_, .bool dn, .slice A m c] :: rv3 r R X os) := by rw [hW1]; exact h.newBlk _ _ _ hpb
  have hs2 : Sep B w0 W1 (rv3 r R X (blkOb pb 64 #[.int .i64 at_, .bool dn, .slice A m c] :: os)) := hs1.perm ((List.perm_append_comm (l₁ := [_]) (l₂ := [_, _, _])).append_right os)
  have hb1 := hs1.blk0
  have c0 : W1.cell? ⟨pb, 0, none⟩ = some (.int .i64 at_) := hb1.cell 0
  have c1 : W1.cell? ⟨pb, 1, none⟩ = some (.bool dn) := hb1.cell 1
  have c2 : W1.cell? ⟨pb, 2, none⟩ = some (.slice A m c) := hb1.cell 2
  have hrd := hs2.rd hX
  have q1 : W1.cell? ⟨r, 2, none⟩ = some (.pointer (some ⟨R.t, 0, none⟩)) := hrd.c2
  have HS2 := Lib.hid hs2
  have HV := Lib.hid (rd_valid hrd)
  have hrd1 := hr W1 ⟨hs1.bel, fun o ho => hs1.get (.tail _ (.tail _ (.tail _ (.tail _ ho))))⟩
  obtain ⟨W2, hW2⟩ : ∃ W2, W2 = W1.drew := ⟨_, rfl⟩
  have HS3 : Hid (Sep B w0 W2 (rv3 r R X (blkOb pb 64 #[.int .i64 at_, .bool dn, .slice A m c] :: os))) := by rw [hW2]; exact hs2.drew
  have HT := Lib.hid (rt_arm (show IsRT W2 R.t R.kb X.T from HS3.out.get (.tail _ (.tail _ (.head _)))) at_ dn A m c keep (hr W2 ⟨HS3.out.bel, fun o ho => HS3.out.get (.tail _ (.tail _ (.tail _ (.tail _ ho))))⟩) hmc hcm hat)
  have HX := Lib.hid hX
  have hlen : keep.length = m := by have := hrd1.1; rw [ints_length] at this; omega
  have HLEN := Lib.hid hlen
  have HR := Lib.hid hr
  have HW1 := Lib.hid hW1
  have HPB := Lib.hid hpb
  obtain ⟨E, hE⟩ : ∃ E, armE at_ keep = E := ⟨_, rfl⟩
  obtain ⟨Z, hZ⟩ : ∃ Z, armX X at_ dn keep = Z := ⟨_, rfl⟩
  have HE := Lib.hid hE
  have HZ := Lib.hid hZ
  rw [hE, hZ]
  rw [hW1] at HV
  unfold planV at HT ⊢
  clear h hX hs1 hs2 hb1 hr hrd hrd1 hlen hE hZ
  go_enter Tryz.func25, Tryz.ntmps25
  go_wp2_with fail
  rw [← hW1, ← hpb]
  rw [← hW1] at HV
  clear hW1 hpb
  refine HV.out.mono ?_
  rintro e w' ⟨rfl, rfl⟩
  go_wp2_with fail
  go_still_tail 5, (by kernel_rfl)
  change wpList _ _ _ _ _ W1.drew
  rw [← hW2]
  clear hW2 c0 c1 c2 q1 HV
  go_wp2_with fail
  refine HT.out.mono ?_
  rintro e w3 (⟨hno, rfl, hb⟩ | ⟨hok, rfl, kb', ht, hch, hfo⟩)
  · have HS4 := Lib.hid (HS3.out.below hb)
    have HNO := Lib.hid hno
    clear hb hno
    go_wp2_with fail
    go_ret
    have hE : E = 2 := by rw [← HE.out]; unfold armE; rw [if_neg HNO.out]
    refine ⟨by rw [hE]; rfl, R, ?_⟩
    rw [← HZ.out, show armX X at_ dn keep = X from by unfold armX; rw [if_neg HNO.out]]
    exact HS4.out.sub (.cons_cons _ (.cons_cons _ (.cons_cons _ (.cons _ (List.Sublist.refl _)))))
  · have hs4 : Sep B w0 w3 (rv3 r { R with kb := kb' } { X with T := armP at_ dn keep } (blkOb pb 64 #[.int .i64 at_, .bool dn, .slice A m c] :: os)) :=
      HS3.out.step2 (a := rtOb R.t R.kb X.T) (a' := rtOb R.t kb' (armP at_ dn keep)) (hch.mono (fun k _ hk => .inl hk)) ht (fun k hk => (hfo k hk).imp (fun e => .inl e) id)
    have HS4 := Lib.hid hs4
    have HOK := Lib.hid hok
    have HE0 : Hid (E = 0) := by show _ = _; rw [← HE.out]; unfold armE; rw [if_pos hok]
    have kp : Blk w3 pb 64 #[.int .i64 at_, .bool dn, .slice A m c] := hs4.get (.tail _ (.tail _ (.tail _ (.head _))))
    have kv : Blk w3 r 105 (rdCells R X) := hs4.get (.head _)
    have d0 : w3.cell? ⟨pb, 0, none⟩ = some (.int .i64 at_) := kp.cell 0
    have d1 : w3.cell? ⟨pb, 1, none⟩ = some (.bool dn) := kp.cell 1
    have d2 : w3.cell? ⟨pb, 2, none⟩ = some (.slice A m c) := kp.cell 2
    have d4 : w3.cell? ⟨r, 4, none⟩ = some (.bool X.down) := kv.cell 4
    have HCR := Lib.hid (rd_crash hs4 HX.out.n32 at_ dn A m c keep (fun W hW => HR.out W ⟨hW.1, fun o ho => hW.2 o (.tail _ ho)⟩) (by have := hok.2.1.1; have := HLEN.out; omega) (by have := hok.2.1.2; have := HLEN.out; omega) hok.2.2)
    unfold planV at HCR
    obtain ⟨xd, hxd⟩ : ∃ xd, X.down = xd := ⟨_, rfl⟩
    have HXD := Lib.hid hxd
    rw [hxd] at d4
    clear hs4 kp kv ht hch hfo hok hxd
    by_cases ha : at_ = 0
    · subst ha
      cases xd with
      | true =>
        go_wp2_with fail
        go_ret
        refine ⟨by rw [HE0.out]; rfl, { R with kb := kb' }, ?_⟩
        rw [← HZ.out, show armX X 0 dn keep = { X with T := armP 0 dn keep } from by unfold armX; rw [if_pos HOK.out, if_neg (fun h => by rw [HXD.out] at h; cases h.2)]]
        exact HS4.out.sub (.cons_cons _ (.cons_cons _ (.cons_cons _ (.cons _ (List.Sublist.refl _)))))
      | false =>
        go_wp2_with fail
        refine HCR.out.mono ?_
        rintro e w5 ⟨rfl, R', hs⟩
        have HS5 := Lib.hid hs
        clear hs d0 d1 d2 d4 HCR
        go_wp2_with fail
        go_ret
        refine ⟨by rw [HE0.out]; rfl, R', ?_⟩
        rw [← HZ.out, show armX X 0 dn keep = { X with D := crashD keep X.D, T := armP 0 dn keep, down := true } from by unfold armX; rw [if_pos HOK.out, if_pos ⟨rfl, HXD.out⟩]]
        exact HS5.out.sub (.cons_cons _ (.cons_cons _ (.cons_cons _ (.cons _ (List.Sublist.refl _)))))
    · have ha2 : (at_ == 0) = false := by rw [beq_eq_false_iff_ne]; exact ha
      go_wp2_with fail
      go_ret
      refine ⟨by rw [HE0.out]; rfl, { R with kb := kb' }, ?_⟩
      rw [← HZ.out, show armX X at_ dn keep = { X with T := armP at_ dn keep } from by unfold armX; rw [if_pos HOK.out, if_neg (fun h => ha h.1)]]
      exact HS4.out.sub (.cons_cons _ (.cons_cons _ (.cons_cons _ (.cons _ (List.Sublist.refl _)))))
end
end Go.Proofs.YtnopljanpjmbgaaGreat
namespace Go.Proofs.YtnopljanpjmbgaaGreat
open Go.RowKit Go.Shelf
set_option linter.unusedVariables false
section
variable {B : Nat} {w w' w0 : World} {os : List Ob}
set_option maxRecDepth 100000 in
set_option maxHeartbeats 4000000 in
theorem rd_new (h : Sep B w0 w os) (a b : Int) :
    Calls Tryz.prog 17 #[.int .i64 a, .int .i64 b] w fun e w' => (okNew a b ∧ ∃ r R, e = .returned (.tuple #[.pointer (some ⟨r, 0, none⟩), .int .i64 0]) ∧ Sep B w0 w' (rv3 r R (newVD a.toNat b.toNat) os)) ∨ (¬ okNew a b ∧ e = .returned (.tuple #[.pointer none, .int .i64 2]) ∧ Below w.heap.size w w') := by
  by_cases h1 : a < 2
  · go_enter Tryz.func17, Tryz.ntmps17
    go_wp2_with fail
    go_ret2
    exact .inr ⟨fun h => by have := h.1.1; omega, rfl, Below.refl _ _⟩
  by_cases h2 : 32 < a
  · go_enter Tryz.func17, Tryz.ntmps17
    go_wp2_with fail
    go_ret2
    exact .inr ⟨fun h => by have := h.1.2; omega, rfl, Below.refl _ _⟩
  by_cases h3 : b < 1
  · go_enter Tryz.func17, Tryz.ntmps17
    go_wp2_with fail
    go_ret2
    exact .inr ⟨fun h => by have := h.2.1; omega, rfl, Below.refl _ _⟩
  by_cases h4 : 8192 < b
  · go_enter Tryz.func17, Tryz.ntmps17
    go_wp2_with fail
    go_ret2
    exact .inr ⟨fun h => by have := h.2.2; omega, rfl, Below.refl _ _⟩
  obtain ⟨n, rfl⟩ : ∃ n : Nat, a = (n : Int) := ⟨a.toNat, by omega⟩
  obtain ⟨sz, rfl⟩ : ∃ sz : Nat, b = (sz : Int) := ⟨b.toNat, by omega⟩
  have hn2 : 2 ≤ n := by omega
  have hn32 : n ≤ 32 := by omega
  have d1 : decide ((n : Int) < 2) = false := by simp; omega
  have d2 : decide ((32 : Int) < (n : Int)) = false := by simp; omega
  have d3 : decide ((sz : Int) < 1) = false := by simp; omega
  have d4 : decide ((8192 : Int) < (sz : Int)) = false := by simp; omega
  have hsz1 : 1 ≤ sz := by omega
  have hsz2 : sz ≤ 8192 := by omega
  have HOKN : Hid (okNew (n : Int) (sz : Int)) := ⟨⟨by omega, by omega⟩, by omega, by omega⟩
  obtain ⟨i0, hi0, hz0, hz1, hz2⟩ := info_parts clone_int_info
  have H := Lib.hid h
  clear h h1 h2 h3 h4
  go_enter Tryz.func17, Tryz.ntmps17
  go_wp2_with fail
  go_loopg [6, 7] n (fun q v6 v7 wr => ∃ (j : Nat) (A6 : Option Addr) (c6 : Nat), j + q = n ∧ v6 = .slice A6 j c6 ∧ v7 = .int .i64 j ∧ wr.ownsRow w.heap.size 3 1 (.slice A6 j c6) j (ints (List.replicate j (sz : Int))) ∧ Below w.heap.size w wr)
  case atStart => exact ⟨0, none, 0, by omega, rfl, rfl, World.ownsRow_nil _ _ _ _, Below.refl _ _⟩
  case round =>
    obtain ⟨j, A6, c6, hj, rfl, rfl, ho, hb⟩ := hrel
    have HJ := Lib.hid hj
    have HO := Lib.hid ho
    have HB := Lib.hid hb
    have hj' : j ≤ n := by omega
    clear hj ho hb
    by_cases hlt : j < n
    · have HO2 : Hid ((wr.alloc (.cells #[.int .i64 (sz : Int)] 3)).ownsRow w.heap.size 3 1 (.slice A6 j c6) j (ints (List.replicate j (sz : Int)))) := own_below' HO.out ((Below.refl _ _).alloc (Nat.le_refl _) _)
      have HR1 : Hid (Reads (wr.alloc (.cells #[.int .i64 (sz : Int)] 3)) (wr.heap.size + 1) 1 (some ⟨wr.heap.size, 0, none⟩) 1 (ints [(sz : Int)])) := nums_new wr (0, 0) [(sz : Int)] 1 _ rfl rfl
      have HB2 : Hid (Below w.heap.size w (wr.alloc (.cells #[.int .i64 (sz : Int)] 3))) := HB.out.alloc HB.out.size _
      have hnm : j + 1 ≤ maxLen := by unfold maxLen; omega
      go_wp2_with (at_builtin
                   refine wpList_append_g _ rfl (.tmp 29) (.tmp 31) _ rfl w.heap.size 3 i0 _ 1 8 Tryz.underlying62 hi0 hz0 hz1 hz2 rfl (by omega) (.slice A6 j c6) j (ints (List.replicate j (sz : Int))) rfl
                     HO2.out (wr.heap.size + 1) (some ⟨wr.heap.size, 0, none⟩) 1 1 (ints [(sz : Int)]) rfl HR1.out (ints_one' _) hnm (by omega) (by have := HB2.out.size; exact this) ?_
                   intro v4 w4 hown4 hg4 hat4
                   have HO4 := Lib.hid hown4
                   have HB4 : Hid (Below w.heap.size w w4) := HB2.out.grown hg4 HB2.out.size (by intro q hq; exact (HO2.out.lt q hq).1)
                   clear hown4 hg4 hat4)
      obtain ⟨A4, c4, rfl, _, _, _⟩ := own_slice HO4.out
      go_roundg (gk - 1)
      case measure => have := HJ.out; omega
      case rel =>
        refine ⟨j + 1, A4, c4, by have := HJ.out; omega, rfl, by go_num, ?_, HB4.out⟩
        have := HO4.out
        rw [ints_append, show List.replicate j (sz : Int) ++ [(sz : Int)] = List.replicate (j + 1) (sz : Int) from by rw [List.replicate_succ']] at this
        exact this
    · have e8 : j = n := by omega
      subst e8
      have HO3 : Hid ((wr.alloc (.cells #[.int .i64 64, .int .i64 64] 3)).ownsRow w.heap.size 3 1 (.slice A6 j c6) j (ints (List.replicate j (sz : Int)))) := own_below' HO.out ((Below.refl _ _).alloc (Nat.le_refl _) _)
      have HR64 : Hid (Reads (wr.alloc (.cells #[.int .i64 64, .int .i64 64] 3)) (wr.heap.size + 1) 1 (some ⟨wr.heap.size, 0, none⟩) 2 (ints [64, 64])) := nums_new wr (0, 0) [64, 64] 2 _ rfl rfl
      have HB3 : Hid (Below w.heap.size w (wr.alloc (.cells #[.int .i64 64, .int .i64 64] 3))) := HB.out.alloc HB.out.size _
      have hn34 : j + 2 ≤ maxLen := by unfold maxLen; omega
      go_wp2_with (at_builtin
                   refine wpList_append_g _ rfl (.tmp 33) (.tmp 34) _ rfl w.heap.size 3 i0 _ 1 8 Tryz.underlying62 hi0 hz0 hz1 hz2 rfl (by omega) (.slice A6 j c6) j (ints (List.replicate j (sz : Int))) rfl
                     HO3.out (wr.heap.size + 1) (some ⟨wr.heap.size, 0, none⟩) 2 2 (ints [64, 64]) rfl HR64.out (ints_one' _) hn34 (by omega) (by have := HB3.out.size; exact this) ?_
                   intro v4 w4 hown4 hg4 hat4
                   have HO4 := Lib.hid hown4
                   have HB4 : Hid (Below w.heap.size w w4) := HB3.out.grown hg4 HB3.out.size (by intro q hq; exact (HO3.out.lt q hq).1)
                   clear hown4 hg4 hat4)
      obtain ⟨A4, c4, rfl, hc4, hm4, hr4⟩ := own_slice HO4.out
      rw [ints_append] at hr4
      have HNEW := Lib.hid (rsep_new (H.out.below HB4.out) A4 (j + 2) c4 (newZ j (sz : Int)) hr4 (by omega) (by omega) ((newZ_ok j (sz : Int) (by omega)).2 ⟨by omega, by omega⟩))
      clear hr4 hm4 hc4
      refine HNEW.out.mono ?_
      rintro e w5 ⟨d, S, rfl, hs5⟩
      have HS5 : Hid (Sep B w0 w5 (refsOb S (j + 2) [(d, (newVD j sz).D)] :: os)) := by
        have h6 : (∀ p, p ∈ [(d, newD (newZ j (sz : Int)))] → IsR w5 S p.1 (j + 2) p.2) ∧ _ ∧ CellsIn w5 S := hs5.get (.head _)
        refine hs5.step (a' := refsOb S (j + 2) [(d, (newVD j sz).D)]) (Chg.refl _ _) ⟨fun p hp => ?_, List.pairwise_singleton _ _, h6.2.2⟩ (fun k hk => ?_)
        · rcases List.mem_singleton.1 hp with rfl
          exact (h6.1 _ (.head _)).congr (newZ_D j sz)
        · rcases hk with hk | ⟨p, hp, rfl⟩
          · exact .inl (.inl hk)
          · rcases List.mem_singleton.1 hp with rfl
            exact .inl (.inr ⟨_, .head _, rfl⟩)
      clear hs5 HNEW
      go_wp2_with fail
      refine (rt_new w5).mono ?_
      rintro e w6 ⟨rfl, ht, hb6⟩
      have HS6 : Hid (Sep B w0 w6 (rtOb w5.heap.size none none :: refsOb S (j + 2) [(d, (newVD j sz).D)] :: os)) := HS5.out.add (a := rtOb w5.heap.size none none) hb6 ht (fun k hk => by
        rcases hk with e | e
        · exact Nat.le_of_eq (show w5.heap.size = k from (show k = w5.heap.size from e).symm)
        · cases e)
      clear ht hb6
      go_wp2_with fail
      go_ret2
      exact .inl ⟨HOKN.out, w6.heap.size, ⟨d, w5.heap.size, none, S, []⟩, rfl, (HS6.out.newBlk w6.heap.size 105 (rdCells ⟨d, w5.heap.size, none, S, []⟩ (newVD j sz)) rfl).perm (.cons _ (.swap _ _ _))⟩
end
end Go.Proofs.YtnopljanpjmbgaaGreat
namespace Go.Proofs.YtnopljanpjmbgaaGreat
open Go.RowKit Go.Shelf
set_option linter.unusedVariables false
set_option maxRecDepth 100000 in
set_option maxHeartbeats 1000000 in
theorem rno_valid (w : World) :
    Calls Tryz.prog 74 #[.pointer none] w fun e w' => e = .returned (.bool false) ∧ w = w' := by
  go_enter Tryz.func74, Tryz.ntmps74
  go_wp2_with fail
  go_ret
  exact ⟨rfl, rfl⟩
set_option maxRecDepth 100000 in
set_option maxHeartbeats 1000000 in
theorem rno_check (w : World) (i : Int) :
    Calls Tryz.prog 68 #[.pointer none, .int .i64 i] w fun e w' => e = .returned (.int .i64 1) ∧ w = w' := by
  have HC := Lib.hid (rno_valid w)
  go_enter Tryz.func68, Tryz.ntmps68
  go_wp2_with fail
  refine HC.out.mono ?_
  rintro e w1 ⟨rfl, rfl⟩
  go_wp2_with fail
  go_ret
  exact ⟨rfl, rfl⟩
set_option maxRecDepth 100000 in
set_option maxHeartbeats 1000000 in
theorem rno_len (w : World) (i : Int) :
    Calls Tryz.prog 61 #[.pointer none, .int .i64 i] w fun e w' => e = .returned (.tuple #[.int .i64 0, .int .i64 1]) ∧ Below w.heap.size w w' := by
  have HC := Lib.hid (rno_check w i)
  go_enter Tryz.func61, Tryz.ntmps61
  go_wp2_with fail
  refine HC.out.mono ?_
  rintro e w1 ⟨rfl, rfl⟩
  go_wp2_with fail
  go_ret2
  exact ⟨rfl, Below.refl _ _⟩
set_option maxRecDepth 100000 in
set_option maxHeartbeats 1000000 in
theorem rno_read (w : World) (i off m : Int) :
    Calls Tryz.prog 82 #[.pointer none, .int .i64 i, .int .i64 off, .int .i64 m] w fun e w' => e = .returned (.tuple #[.slice none 0 0, .int .i64 1]) ∧ Below w.heap.size w w' := by
  have HC := Lib.hid (rno_check w i)
  go_enter Tryz.func82, Tryz.ntmps82
  go_wp2_with fail
  refine HC.out.mono ?_
  rintro e w1 ⟨rfl, rfl⟩
  go_wp2_with fail
  go_ret2
  exact ⟨rfl, Below.refl _ _⟩
set_option maxRecDepth 100000 in
set_option maxHeartbeats 1000000 in
theorem rno_down (w : World) :
    Calls Tryz.prog 60 #[.pointer none] w fun e w' => e = .returned (.bool false) ∧ Below w.heap.size w w' := by
  have HC := Lib.hid (rno_valid w)
  go_enter Tryz.func60, Tryz.ntmps60
  go_wp2_with fail
  refine HC.out.mono ?_
  rintro e w1 ⟨rfl, rfl⟩
  go_wp2_with fail
  go_ret
  exact ⟨rfl, Below.refl _ _⟩
set_option maxRecDepth 100000 in
set_option maxHeartbeats 1000000 in
theorem rno_ops (w : World) :
    Calls Tryz.prog 80 #[.pointer none] w fun e w' => e = .returned (.int .i64 0) ∧ Below w.heap.size w w' := by
  have HC := Lib.hid (rno_valid w)
  go_enter Tryz.func80, Tryz.ntmps80
  go_wp2_with fail
  refine HC.out.mono ?_
  rintro e w1 ⟨rfl, rfl⟩
  go_wp2_with fail
  go_ret
  exact ⟨rfl, Below.refl _ _⟩
set_option maxRecDepth 100000 in
set_option maxHeartbeats 1000000 in
theorem rno_slots (w : World) :
    Calls Tryz.prog 58 #[.pointer none] w fun e w' => e = .returned (.int .i64 0) ∧ Below w.heap.size w w' := by
  have HC := Lib.hid (rno_valid w)
  go_enter Tryz.func58, Tryz.ntmps58
  go_wp2_with fail
  refine HC.out.mono ?_
  rintro e w1 ⟨rfl, rfl⟩
  go_wp2_with fail
  go_ret
  exact ⟨rfl, Below.refl _ _⟩
set_option maxRecDepth 100000 in
set_option maxHeartbeats 1000000 in
theorem rno_restart (w : World) :
    Calls Tryz.prog 27 #[.pointer none] w fun e w' => e = .returned (.int .i64 1) ∧ Below w.heap.size w w' := by
  have HC := Lib.hid (rno_valid w)
  go_enter Tryz.func27, Tryz.ntmps27
  go_wp2_with fail
  refine HC.out.mono ?_
  rintro e w1 ⟨rfl, rfl⟩
  go_wp2_with fail
  go_ret
  exact ⟨rfl, Below.refl _ _⟩
set_option maxRecDepth 100000 in
set_option maxHeartbeats 1000000 in
theorem rno_sync (w : World) (i : Int) :
    Calls Tryz.prog 67 #[.pointer none, .int .i64 i] w fun e w' => e = .returned (.int .i64 1) ∧ Below w.heap.size w w' := by
  have HC := Lib.hid (rno_check w i)
  go_enter Tryz.func67, Tryz.ntmps67
  go_wp2_with fail
  refine HC.out.mono ?_
  rintro e w1 ⟨rfl, rfl⟩
  go_wp2_with fail
  go_ret
  exact ⟨rfl, Below.refl _ _⟩
set_option maxRecDepth 100000 in
set_option maxHeartbeats 1000000 in
theorem rno_erase (w : World) (i : Int) :
    Calls Tryz.prog 29 #[.pointer none, .int .i64 i] w fun e w' => e = .returned (.int .i64 1) ∧ Below w.heap.size w w' := by
  have HC := Lib.hid (rno_check w i)
  go_enter Tryz.func29, Tryz.ntmps29
  go_wp2_with fail
  refine HC.out.mono ?_
  rintro e w1 ⟨rfl, rfl⟩
  go_wp2_with fail
  go_ret
  exact ⟨rfl, Below.refl _ _⟩
set_option maxRecDepth 100000 in
set_option maxHeartbeats 1000000 in
theorem rno_append (w : World) (i : Int) (A : Option Addr) (m c : Nat) :
    Calls Tryz.prog 23 #[.pointer none, .int .i64 i, .slice A m c] w fun e w' => e = .returned (.int .i64 1) ∧ Below w.heap.size w w' := by
  have HC := Lib.hid (rno_check w i)
  go_enter Tryz.func23, Tryz.ntmps23
  go_wp2_with fail
  refine HC.out.mono ?_
  rintro e w1 ⟨rfl, rfl⟩
  go_wp2_with fail
  go_ret
  exact ⟨rfl, Below.refl _ _⟩
set_option maxRecDepth 100000 in
set_option maxHeartbeats 1000000 in
theorem rno_arm (w : World) (at_ : Int) (dn : Bool) (A : Option Addr) (m c : Nat) :
    Calls Tryz.prog 25 #[.pointer none, .agg #[.int .i64 at_, .bool dn, .slice A m c]] w fun e w' => e = .returned (.int .i64 1) ∧ Below w.heap.size w w' := by
  have HB : Hid (Below w.heap.size w (w.alloc (.cells #[.int .i64 at_, .bool dn, .slice A m c] 64))) := (Below.refl _ _).alloc (Nat.le_refl _) _
  have HC := Lib.hid (rno_valid (w.alloc (.cells #[.int .i64 at_, .bool dn, .slice A m c] 64)))
  go_enter Tryz.func25, Tryz.ntmps25
  go_wp2_with fail
  refine HC.out.mono ?_
  rintro e w1 ⟨rfl, rfl⟩
  go_wp2_with fail
  go_ret
  exact ⟨rfl, HB.out⟩
end Go.Proofs.YtnopljanpjmbgaaGreat
namespace Go.Proofs.YtnopljanpjmbgaaGreat
open Go.RowKit Go.Shelf
set_option linter.unusedVariables false
def PS (w0 W : World) (p q : Option Addr) (Y Z : Option DevD) (os : List Ob) : Prop :=
  (p = none ∧ q = none ∧ Y = none ∧ Z = none ∧ Sep w0.heap.size w0 W os) ∨ (∃ v r L R X X', p = some ⟨v, 0, none⟩ ∧ q = some ⟨r, 0, none⟩ ∧ Y = some X ∧ Z = some X' ∧ X'.Ok ∧ Sep w0.heap.size w0 W (devOb v L X :: rv3 r R X' os))
def opsO : Option DevD → Nat
  | none => 0
  | some X => X.ops
def eO (Y : Option DevD) (k : Int) (g : DevD → Int) : Int := match Y with
  | none => k
  | some X => g X
def bO (Y : Option DevD) : Bool := match Y with
  | none => false
  | some X => X.down
theorem appVX_ok {X : DevD} (h : X.Ok) (i : Int) (b : List (BitVec 8)) : (appVX X i b).Ok := by
  unfold appVX
  split
  · split
    · exact opX_ok h _ _
    · exact h
  · exact h
theorem syncVX_ok {X : DevD} (h : X.Ok) (i : Int) : (SyncVX X i).Ok := by
  unfold SyncVX
  split
  · exact opX_ok h _ _
  · exact h
theorem eraseVX_ok {X : DevD} (h : X.Ok) (i : Int) : (EraseVX X i).Ok := by
  unfold EraseVX
  split
  · exact opX_ok h _ _
  · exact h
theorem appVX_ops (X : DevD) (i : Int) (b : List (BitVec 8)) : (appVX X i b).ops ≤ X.ops + 1 := by
  unfold appVX
  split
  · split
    · exact Nat.le_refl _
    · exact Nat.le_succ _
  · exact Nat.le_succ _
theorem syncVX_ops (X : DevD) (i : Int) : (SyncVX X i).ops ≤ X.ops + 1 := by
  unfold SyncVX
  split
  · exact Nat.le_refl _
  · exact Nat.le_succ _
theorem eraseVX_ops (X : DevD) (i : Int) : (EraseVX X i).ops ≤ X.ops + 1 := by
  unfold EraseVX
  split
  · exact Nat.le_refl _
  · exact Nat.le_succ _
theorem armX_ops (X : DevD) (at_ : Int) (dn : Bool) (keep : List Int) : (armX X at_ dn keep).ops = X.ops := by
  unfold armX
  split
  · split <;> rfl
  · rfl
theorem opsO_map {Y : Option DevD} {g : DevD → DevD} {n : Nat} (h : opsO Y ≤ n) (hg : ∀ X, (g X).ops ≤ X.ops + 1) : opsO (Y.map g) ≤ n + 1 := by
  cases Y with
  | none => exact Nat.zero_le _
  | some X => exact Nat.le_trans (hg X) (Nat.succ_le_succ h)
section
variable {w0 w w' : World} {os : List Ob} {p q : Option Addr} {Y Z : Option DevD} {o : Ob}
theorem PS.below (h : PS w0 w p q Y Z os) (hb : Below w.heap.size w w') : PS w0 w' p q Y Z os := by
  rcases h with ⟨h1, h2, h3, h4, hs⟩ | ⟨v, r, L, R, X, X', h1, h2, h3, h4, hX, hs⟩
  · exact .inl ⟨h1, h2, h3, h4, hs.below hb⟩
  · exact .inr ⟨v, r, L, R, X, X', h1, h2, h3, h4, hX, hs.below hb⟩
theorem PS.bel (h : PS w0 w p q Y Z os) : Below w0.heap.size w0 w := by
  rcases h with ⟨h1, h2, h3, h4, hs⟩ | ⟨v, r, L, R, X, X', h1, h2, h3, h4, hX, hs⟩ <;> exact hs.bel
theorem PS.get (h : PS w0 w p q Y Z os) (ho : o ∈ os) : o.P w := by
  rcases h with ⟨h1, h2, h3, h4, hs⟩ | ⟨v, r, L, R, X, X', h1, h2, h3, h4, hX, hs⟩
  · exact hs.get ho
  · exact hs.get (.tail _ (.tail _ (.tail _ (.tail _ ho))))
theorem PS.drop (h : PS w0 w p q Y Z (o :: os)) : PS w0 w p q Y Z os := by
  rcases h with ⟨h1, h2, h3, h4, hs⟩ | ⟨v, r, L, R, X, X', h1, h2, h3, h4, hX, hs⟩
  · exact .inl ⟨h1, h2, h3, h4, hs.sub (.cons _ (List.Sublist.refl _))⟩
  · exact .inr ⟨v, r, L, R, X, X', h1, h2, h3, h4, hX, hs.sub (.cons_cons _ (.cons_cons _ (.cons_cons _ (.cons_cons _ (.cons _ (List.Sublist.refl _))))))⟩
theorem PS.newBlk (h : PS w0 w p q Y Z os) (g : Nat) (t : TypeId) (cs : Array Value) (hg : g = w.heap.size) : PS w0 (w.alloc (.cells cs t)) p q Y Z (blkOb g t cs :: os) := by
  rcases h with ⟨h1, h2, h3, h4, hs⟩ | ⟨v, r, L, R, X, X', h1, h2, h3, h4, hX, hs⟩
  · exact .inl ⟨h1, h2, h3, h4, hs.newBlk g t cs hg⟩
  · exact .inr ⟨v, r, L, R, X, X', h1, h2, h3, h4, hX, (hs.newBlk g t cs hg).perm (List.perm_middle (l₁ := [_, _, _, _])).symm⟩
theorem ps_rot {v r : Nat} {L : DLay} {R : RLay} {X X' : DevD} (h : Sep w0.heap.size w0 w (devOb v L X :: rv3 r R X' os)) : Sep w0.heap.size w0 w (rv3 r R X' (devOb v L X :: os)) := h.perm (List.perm_middle (l₁ := [_, _, _])).symm
theorem ps_tor {v r : Nat} {L : DLay} {R : RLay} {X X' : DevD} (h : Sep w0.heap.size w0 w (rv3 r R X' (devOb v L X :: os))) : Sep w0.heap.size w0 w (devOb v L X :: rv3 r R X' os) := h.perm (List.perm_middle (l₁ := [_, _, _]))
theorem ps_append1 (h : PS w0 w p q Y Z os) (hC : AllCells os) (hops : opsO Y < 4611686018427387904) (i : Int) {A : Option Addr} {m c : Nat} {b : List (BitVec 8)} (hv : Holds w0 (.slice A m c) b) (hb64 : b.length ≤ 1000000) :
    Calls Tryz.prog 7 #[.pointer p, .int .i64 i, .slice A m c] w fun e w' => e = .returned (.int .i64 (eO Y 1 (fun X => appVE X i b))) ∧ PS w0 w' p q (Y.map (fun X => appVX X i b)) Z os := by
  rcases h with ⟨rfl, rfl, rfl, rfl, hs⟩ | ⟨v, r, L, R, X, X', rfl, rfl, rfl, rfl, hX, hs⟩
  · exact (append_nodev (.inl rfl) i A m c).mono fun e w' ⟨h1, h2⟩ => ⟨h1, .inl ⟨rfl, rfl, rfl, rfl, hs.below h2⟩⟩
  · refine (sep_vappend hs (rv3_cells hC) hops i (fun W hW => hv.below hW.1)).mono ?_
    rintro e w' ⟨h1, L', h2⟩
    exact ⟨h1, .inr ⟨v, r, L', R, _, X', rfl, rfl, rfl, rfl, hX, h2⟩⟩
theorem ps_append2 (h : PS w0 w p q Y Z os) (hops : opsO Z < 4611686018427387904) (i : Int) {A : Option Addr} {m c : Nat} {b : List (BitVec 8)} (hv : Holds w0 (.slice A m c) b) (hb64 : b.length ≤ 1000000) :
    Calls Tryz.prog 23 #[.pointer q, .int .i64 i, .slice A m c] w fun e w' => e = .returned (.int .i64 (eO Z 1 (fun X => appVE X i b))) ∧ PS w0 w' p q Y (Z.map (fun X => appVX X i b)) os := by
  rcases h with ⟨rfl, rfl, rfl, rfl, hs⟩ | ⟨v, r, L, R, X, X', rfl, rfl, rfl, rfl, hX, hs⟩
  · exact (rno_append w i A m c).mono fun e w' ⟨h1, h2⟩ => ⟨h1, .inl ⟨rfl, rfl, rfl, rfl, hs.below h2⟩⟩
  · refine (rd_append (ps_rot hs) hX hops i (hv.below hs.bel) hb64).mono ?_
    rintro e w' ⟨h1, R', h2⟩
    exact ⟨h1, .inr ⟨v, r, L, R', X, _, rfl, rfl, rfl, rfl, appVX_ok hX _ _, ps_tor h2⟩⟩
theorem ps_sync1 (h : PS w0 w p q Y Z os) (hC : AllCells os) (hops : opsO Y < 4611686018427387904) (i : Int) :
    Calls Tryz.prog 65 #[.pointer p, .int .i64 i] w fun e w' => e = .returned (.int .i64 (eO Y 1 (fun X => oneVE X i))) ∧ PS w0 w' p q (Y.map (fun X => SyncVX X i)) Z os := by
  rcases h with ⟨rfl, rfl, rfl, rfl, hs⟩ | ⟨v, r, L, R, X, X', rfl, rfl, rfl, rfl, hX, hs⟩
  · exact (sync_nodev (.inl rfl) i).mono fun e w' ⟨h1, h2⟩ => ⟨h1, .inl ⟨rfl, rfl, rfl, rfl, hs.below h2⟩⟩
  · refine (sep_vsync hs (rv3_cells hC) hops i).mono ?_
    rintro e w' ⟨h1, L', h2⟩
    exact ⟨h1, .inr ⟨v, r, L', R, _, X', rfl, rfl, rfl, rfl, hX, h2⟩⟩
theorem ps_sync2 (h : PS w0 w p q Y Z os) (hops : opsO Z < 4611686018427387904) (i : Int) :
    Calls Tryz.prog 67 #[.pointer q, .int .i64 i] w fun e w' => e = .returned (.int .i64 (eO Z 1 (fun X => oneVE X i))) ∧ PS w0 w' p q Y (Z.map (fun X => SyncVX X i)) os := by
  rcases h with ⟨rfl, rfl, rfl, rfl, hs⟩ | ⟨v, r, L, R, X, X', rfl, rfl, rfl, rfl, hX, hs⟩
  · exact (rno_sync w i).mono fun e w' ⟨h1, h2⟩ => ⟨h1, .inl ⟨rfl, rfl, rfl, rfl, hs.below h2⟩⟩
  · refine (rd_sync (ps_rot hs) hX hops i).mono ?_
    rintro e w' ⟨h1, R', h2⟩
    exact ⟨h1, .inr ⟨v, r, L, R', X, _, rfl, rfl, rfl, rfl, syncVX_ok hX _, ps_tor h2⟩⟩
theorem ps_erase1 (h : PS w0 w p q Y Z os) (hC : AllCells os) (hops : opsO Y < 4611686018427387904) (i : Int) :
    Calls Tryz.prog 28 #[.pointer p, .int .i64 i] w fun e w' => e = .returned (.int .i64 (eO Y 1 (fun X => oneVE X i))) ∧ PS w0 w' p q (Y.map (fun X => EraseVX X i)) Z os := by
  rcases h with ⟨rfl, rfl, rfl, rfl, hs⟩ | ⟨v, r, L, R, X, X', rfl, rfl, rfl, rfl, hX, hs⟩
  · exact (erase_nodev (.inl rfl) i).mono fun e w' ⟨h1, h2⟩ => ⟨h1, .inl ⟨rfl, rfl, rfl, rfl, hs.below h2⟩⟩
  · refine (sep_verase hs (rv3_cells hC) hops i).mono ?_
    rintro e w' ⟨h1, L', h2⟩
    exact ⟨h1, .inr ⟨v, r, L', R, _, X', rfl, rfl, rfl, rfl, hX, h2⟩⟩
theorem ps_erase2 (h : PS w0 w p q Y Z os) (hops : opsO Z < 4611686018427387904) (i : Int) :
    Calls Tryz.prog 29 #[.pointer q, .int .i64 i] w fun e w' => e = .returned (.int .i64 (eO Z 1 (fun X => oneVE X i))) ∧ PS w0 w' p q Y (Z.map (fun X => EraseVX X i)) os := by
  rcases h with ⟨rfl, rfl, rfl, rfl, hs⟩ | ⟨v, r, L, R, X, X', rfl, rfl, rfl, rfl, hX, hs⟩
  · exact (rno_erase w i).mono fun e w' ⟨h1, h2⟩ => ⟨h1, .inl ⟨rfl, rfl, rfl, rfl, hs.below h2⟩⟩
  · refine (rd_erase (ps_rot hs) hX hops i).mono ?_
    rintro e w' ⟨h1, R', h2⟩
    exact ⟨h1, .inr ⟨v, r, L, R', X, _, rfl, rfl, rfl, rfl, eraseVX_ok hX _, ps_tor h2⟩⟩
theorem ps_restart1 (h : PS w0 w p q Y Z os) (hC : AllCells os) :
    Calls Tryz.prog 26 #[.pointer p] w fun e w' => e = .returned (.int .i64 (eO Y 1 (fun _ => 0))) ∧ PS w0 w' p q (Y.map (restartX)) Z os := by
  rcases h with ⟨rfl, rfl, rfl, rfl, hs⟩ | ⟨v, r, L, R, X, X', rfl, rfl, rfl, rfl, hX, hs⟩
  · exact (restart_nodev (.inl rfl)).mono fun e w' ⟨h1, h2⟩ => ⟨h1, .inl ⟨rfl, rfl, rfl, rfl, hs.below h2⟩⟩
  · refine (sep_vrestart hs).mono ?_
    rintro e w' ⟨h1, h2⟩
    exact ⟨h1, .inr ⟨v, r, L, R, _, X', rfl, rfl, rfl, rfl, hX, h2⟩⟩
theorem ps_restart2 (h : PS w0 w p q Y Z os) :
    Calls Tryz.prog 27 #[.pointer q] w fun e w' => e = .returned (.int .i64 (eO Z 1 (fun _ => 0))) ∧ PS w0 w' p q Y (Z.map (restartX)) os := by
  rcases h with ⟨rfl, rfl, rfl, rfl, hs⟩ | ⟨v, r, L, R, X, X', rfl, rfl, rfl, rfl, hX, hs⟩
  · exact (rno_restart w).mono fun e w' ⟨h1, h2⟩ => ⟨h1, .inl ⟨rfl, rfl, rfl, rfl, hs.below h2⟩⟩
  · refine (rd_restart (ps_rot hs) hX).mono ?_
    rintro e w' ⟨h1, h2⟩
    exact ⟨h1, .inr ⟨v, r, L, R, X, _, rfl, rfl, rfl, rfl, ⟨hX.n2, hX.n32, hX.tm⟩, ps_tor h2⟩⟩
theorem ps_down1 (h : PS w0 w p q Y Z os) :
    Calls Tryz.prog 81 #[.pointer p] w fun e w' => e = .returned (.bool (bO Y)) ∧ Below w.heap.size w w' := by
  rcases h with ⟨rfl, rfl, rfl, rfl, hs⟩ | ⟨v, r, L, R, X, X', rfl, rfl, rfl, rfl, hX, hs⟩
  · exact down_nodev (.inl rfl)
  · exact (dev_down hs.dev).mono fun e w' ⟨h1, h2⟩ => ⟨h1, by rw [← h2]; exact Below.refl _ _⟩
theorem ps_down2 (h : PS w0 w p q Y Z os) :
    Calls Tryz.prog 60 #[.pointer q] w fun e w' => e = .returned (.bool (bO Z)) ∧ Below w.heap.size w w' := by
  rcases h with ⟨rfl, rfl, rfl, rfl, hs⟩ | ⟨v, r, L, R, X, X', rfl, rfl, rfl, rfl, hX, hs⟩
  · exact rno_down w
  · exact (rd_down ((ps_rot hs).rd hX)).mono fun e w' ⟨h1, h2⟩ => ⟨h1, by rw [← h2]; exact Below.refl _ _⟩
theorem ps_ops1 (h : PS w0 w p q Y Z os) :
    Calls Tryz.prog 6 #[.pointer p] w fun e w' => e = .returned (.int .i64 (eO Y 0 (fun X => (X.ops : Int)))) ∧ Below w.heap.size w w' := by
  rcases h with ⟨rfl, rfl, rfl, rfl, hs⟩ | ⟨v, r, L, R, X, X', rfl, rfl, rfl, rfl, hX, hs⟩
  · exact ops_nodev (.inl rfl)
  · exact (dev_ops hs.dev).mono fun e w' ⟨h1, h2⟩ => ⟨h1, by rw [← h2]; exact Below.refl _ _⟩
theorem ps_ops2 (h : PS w0 w p q Y Z os) :
    Calls Tryz.prog 80 #[.pointer q] w fun e w' => e = .returned (.int .i64 (eO Z 0 (fun X => (X.ops : Int)))) ∧ Below w.heap.size w w' := by
  rcases h with ⟨rfl, rfl, rfl, rfl, hs⟩ | ⟨v, r, L, R, X, X', rfl, rfl, rfl, rfl, hX, hs⟩
  · exact rno_ops w
  · exact (rd_ops ((ps_rot hs).rd hX)).mono fun e w' ⟨h1, h2⟩ => ⟨h1, by rw [← h2]; exact Below.refl _ _⟩
theorem ps_slots1 (h : PS w0 w p q Y Z os) :
    Calls Tryz.prog 57 #[.pointer p] w fun e w' => e = .returned (.int .i64 (eO Y 0 (fun X => (X.n : Int)))) ∧ Below w.heap.size w w' := by
  rcases h with ⟨rfl, rfl, rfl, rfl, hs⟩ | ⟨v, r, L, R, X, X', rfl, rfl, rfl, rfl, hX, hs⟩
  · exact slots_nodev (.inl rfl)
  · exact (dev_slots hs.dev).mono fun e w' ⟨h1, h2⟩ => ⟨h1, by rw [← h2]; exact Below.refl _ _⟩
theorem ps_slots2 (h : PS w0 w p q Y Z os) :
    Calls Tryz.prog 58 #[.pointer q] w fun e w' => e = .returned (.int .i64 (eO Z 0 (fun X => (X.n : Int)))) ∧ Below w.heap.size w w' := by
  rcases h with ⟨rfl, rfl, rfl, rfl, hs⟩ | ⟨v, r, L, R, X, X', rfl, rfl, rfl, rfl, hX, hs⟩
  · exact rno_slots w
  · exact (rd_slots ((ps_rot hs).rd hX)).mono fun e w' ⟨h1, h2⟩ => ⟨h1, by rw [← h2]; exact Below.refl _ _⟩
theorem ps_len1 (h : PS w0 w p q Y Z os) (i : Int) :
    Calls Tryz.prog 43 #[.pointer p, .int .i64 i] w fun e w' => e = .returned (.tuple #[.int .i64 (eO Y 0 (fun X => lenV X i)), .int .i64 (eO Y 1 (fun X => chkE X i))]) ∧ Below w.heap.size w w' := by
  rcases h with ⟨rfl, rfl, rfl, rfl, hs⟩ | ⟨v, r, L, R, X, X', rfl, rfl, rfl, rfl, hX, hs⟩
  · exact len_nodev (.inl rfl) i
  · exact dev_len hs.dev i
theorem ps_len2 (h : PS w0 w p q Y Z os) (i : Int) :
    Calls Tryz.prog 61 #[.pointer q, .int .i64 i] w fun e w' => e = .returned (.tuple #[.int .i64 (eO Z 0 (fun X => lenV X i)), .int .i64 (eO Z 1 (fun X => chkE X i))]) ∧ Below w.heap.size w w' := by
  rcases h with ⟨rfl, rfl, rfl, rfl, hs⟩ | ⟨v, r, L, R, X, X', rfl, rfl, rfl, rfl, hX, hs⟩
  · exact rno_len w i
  · exact rd_len ((ps_rot hs).rd hX) i
theorem ps_uns1 (h : PS w0 w p q Y Z os) (i : Int) :
    Calls Tryz.prog 12 #[.pointer p, .int .i64 i] w fun e w' => e = .returned (.tuple #[.int .i64 (eO Y 0 (fun X => unsV X i)), .int .i64 (eO Y 1 (fun X => chkE X i))]) ∧ Below w.heap.size w w' := by
  rcases h with ⟨rfl, rfl, rfl, rfl, hs⟩ | ⟨v, r, L, R, X, X', rfl, rfl, rfl, rfl, hX, hs⟩
  · exact uns_nodev (.inl rfl) i
  · exact dev_unsynced hs.dev i
end
end Go.Proofs.YtnopljanpjmbgaaGreat
namespace Go.Proofs.YtnopljanpjmbgaaGreat
open Go.RowKit Go.Shelf
set_option linter.unusedVariables false
section
variable {w0 w w' : World} {os : List Ob} {p q : Option Addr} {Y Z : Option DevD} {o : Ob}
theorem HoldsI.reads {A : Option Addr} {m c : Nat} {keep : List Int} (h : HoldsI w (.slice A m c) keep) : m ≤ c ∧ c ≤ maxLen ∧ Reads w w.heap.size 1 A m (ints keep) := by
  obtain ⟨⟨A', n', c', e, h0, h1, h2, h3⟩, _⟩ := h
  injection e with e1 e2 e3
  subst e1 e2 e3
  exact ⟨h1, h2, h3⟩
theorem ps_arm1 (h : PS w0 w p q Y Z os) (hC : AllCells os) (at_ : Int) (dn : Bool) {A : Option Addr} {m c : Nat} {keep : List Int} (hk : HoldsI w0 (.slice A m c) keep) (hz : A = none → c = 0) (hat : -9223372036854775808 ≤ at_ ∧ at_ ≤ 9223372036854775807) :
    Calls Tryz.prog 24 #[.pointer p, .agg #[.int .i64 at_, .bool dn, .slice A m c]] w fun e w' => e = .returned (.int .i64 (eO Y 1 (fun _ => armE at_ keep))) ∧ PS w0 w' p q (Y.map (fun X => armX X at_ dn keep)) Z os := by
  obtain ⟨hmc, hcm, hr⟩ := hk.reads
  rcases h with ⟨rfl, rfl, rfl, rfl, hs⟩ | ⟨v, r, L, R, X, X', rfl, rfl, rfl, rfl, hX, hs⟩
  · exact (arm_nodev (.inl rfl) at_ dn A m c).mono fun e w' ⟨h1, h2⟩ => ⟨h1, .inl ⟨rfl, rfl, rfl, rfl, hs.below h2⟩⟩
  · refine (sep_varm hs (rv3_cells hC) at_ dn A m c keep (fun W hW => (hr.below hW.1).more hW.1.size) hmc hcm hz (fun ad e hm0 hf => ?_) hat).mono ?_
    · obtain ⟨ad', e', hlt, _⟩ := hr.2 hm0
      rw [e] at e'
      injection e' with e'
      subst e'
      have := (hs.all _ (.head _)).2 _ hf
      omega
    · rintro e w' ⟨h1, L', h2⟩
      exact ⟨h1, .inr ⟨v, r, L', R, _, X', rfl, rfl, rfl, rfl, hX, h2⟩⟩
theorem ps_arm2 (h : PS w0 w p q Y Z os) (at_ : Int) (dn : Bool) {A : Option Addr} {m c : Nat} {keep : List Int} (hk : HoldsI w0 (.slice A m c) keep) (hat : -9223372036854775808 ≤ at_ ∧ at_ ≤ 9223372036854775807) :
    Calls Tryz.prog 25 #[.pointer q, .agg #[.int .i64 at_, .bool dn, .slice A m c]] w fun e w' => e = .returned (.int .i64 (eO Z 1 (fun _ => armE at_ keep))) ∧ PS w0 w' p q Y (Z.map (fun X => armX X at_ dn keep)) os := by
  obtain ⟨hmc, hcm, hr⟩ := hk.reads
  rcases h with ⟨rfl, rfl, rfl, rfl, hs⟩ | ⟨v, r, L, R, X, X', rfl, rfl, rfl, rfl, hX, hs⟩
  · exact (rno_arm w at_ dn A m c).mono fun e w' ⟨h1, h2⟩ => ⟨h1, .inl ⟨rfl, rfl, rfl, rfl, hs.below h2⟩⟩
  · refine (rd_arm (ps_rot hs) hX at_ dn A m c keep (fun W hW => (hr.below hW.1).more hW.1.size) hmc hcm hat).mono ?_
    rintro e w' ⟨h1, R', h2⟩
    exact ⟨h1, .inr ⟨v, r, L, R', X, _, rfl, rfl, rfl, rfl, armX_ok hX _ _ _, ps_tor h2⟩⟩
/-- What a read gives: bytes and an error. -/
def RdR (Y : Option DevD) (i off m : Int) (l : List (BitVec 8)) (k : Int) : Prop :=
  (Y = none ∧ l = [] ∧ k = 1) ∨ ∃ X, Y = some X ∧ ((chkE X i ≠ 0 ∧ k = chkE X i ∧ l = []) ∨ (chkE X i = 0 ∧ ∃ s : Nat, i = (s : Int) ∧ ((badRead (X.D s).bytes.length off m ∧ k = 3 ∧ l = []) ∨ ∃ a b : Nat, off = a ∧ m = b ∧ a + b ≤ (X.D s).bytes.length ∧ k = 0 ∧ l = ((X.D s).bytes.drop a).take b)))
theorem RdR.same {i off m : Int} {l l' : List (BitVec 8)} {k k' : Int} (h : RdR Y i off m l k) (h' : RdR Y i off m l' k') : l = l' ∧ k = k' := by
  rcases h with ⟨rfl, rfl, rfl⟩ | ⟨X, rfl, h⟩
  · rcases h' with ⟨_, rfl, rfl⟩ | ⟨X, e, _⟩
    · exact ⟨rfl, rfl⟩
    · cases e
  · rcases h' with ⟨e, _⟩ | ⟨X', e, h'⟩
    · cases e
    · injection e with e
      subst e
      rcases h with ⟨h1, rfl, rfl⟩ | ⟨h1, s, rfl, h⟩ <;> rcases h' with ⟨g1, rfl, rfl⟩ | ⟨g1, s', e, h'⟩
      · exact ⟨rfl, rfl⟩
      · exact absurd g1 h1
      · exact absurd h1 g1
      · obtain rfl : s = s' := by omega
        rcases h with ⟨b1, rfl, rfl⟩ | ⟨a, b, rfl, rfl, b1, rfl, rfl⟩ <;> rcases h' with ⟨b2, rfl, rfl⟩ | ⟨a', b', e1, e2, b2, rfl, rfl⟩
        · exact ⟨rfl, rfl⟩
        · unfold badRead at b1; omega
        · unfold badRead at b2; omega
        · obtain rfl : a = a' := by omega
          obtain rfl : b = b' := by omega
          exact ⟨rfl, rfl⟩
def ReadQ2 (Y : Option DevD) (w : World) (i off m : Int) (e : Ending) (w' : World) : Prop :=
  ∃ A n c l k, e = .returned (.tuple #[.slice A n c, .int .i64 k]) ∧ RdR Y i off m l k ∧ n ≤ 8192 ∧ Reads w' w'.heap.size 1 A n (u8s l) ∧ Below w.heap.size w w'
theorem readQ2_of {X : DevD} {i off m : Int} {u : Value} {k : Int} (hn : ∀ s, s < X.n + 2 → (X.D s).bytes.length ≤ 8192) (h : VReadQ w X i off m u k w') (hb : Below w.heap.size w w') : ReadQ2 (some X) w i off m (.returned (.tuple #[u, .int .i64 k])) w' := by
  have hnil : Reads w' w'.heap.size 1 none 0 (u8s []) := ⟨by simp [u8s], fun h => absurd h (by omega)⟩
  rcases h with ⟨h1, rfl, rfl⟩ | ⟨h1, s, rfl, hs, ⟨h2, rfl, rfl⟩ | ⟨a, b, rfl, rfl, hab, rfl, ho⟩⟩
  · exact ⟨none, 0, 0, [], _, rfl, .inr ⟨X, rfl, .inl ⟨h1, rfl, rfl⟩⟩, by omega, hnil, hb⟩
  · exact ⟨none, 0, 0, [], _, rfl, .inr ⟨X, rfl, .inr ⟨h1, s, rfl, .inl ⟨h2, rfl, rfl⟩⟩⟩, by omega, hnil, hb⟩
  · obtain ⟨A, c, rfl, _, _, hr⟩ := own_slice ho
    exact ⟨A, b, c, _, _, rfl, .inr ⟨X, rfl, .inr ⟨h1, s, rfl, .inr ⟨a, b, rfl, rfl, hab, rfl, rfl⟩⟩⟩, by have := hn s hs; omega, hr, hb⟩
theorem readQ2_no {i off m : Int} (hb : Below w.heap.size w w') : ReadQ2 none w i off m (.returned (.tuple #[.slice none 0 0, .int .i64 1])) w' :=
  ⟨none, 0, 0, [], _, rfl, .inl ⟨rfl, rfl, rfl⟩, by omega, ⟨by simp [u8s], fun h => absurd h (by omega)⟩, hb⟩
theorem ps_read1 (h : PS w0 w p q Y Z os) (i off m : Int) :
    Calls Tryz.prog 9 #[.pointer p, .int .i64 i, .int .i64 off, .int .i64 m] w (ReadQ2 Y w i off m) := by
  rcases h with ⟨rfl, rfl, rfl, rfl, hs⟩ | ⟨v, r, L, R, X, X', rfl, rfl, rfl, rfl, hX, hs⟩
  · exact (read_nodev (.inl rfl) i off m).mono fun e w' ⟨h1, h2⟩ => by rw [h1]; exact readQ2_no h2
  · refine (dev_read hs.dev i off m).mono ?_
    rintro e w' ⟨u, k, rfl, hq, hb⟩
    exact readQ2_of (fun s hs' => by have := hs.dev.disk.nums hs'; omega) hq hb
theorem ps_read2 (h : PS w0 w p q Y Z os) (i off m : Int) :
    Calls Tryz.prog 82 #[.pointer q, .int .i64 i, .int .i64 off, .int .i64 m] w (ReadQ2 Z w i off m) := by
  rcases h with ⟨rfl, rfl, rfl, rfl, hs⟩ | ⟨v, r, L, R, X, X', rfl, rfl, rfl, rfl, hX, hs⟩
  · exact (rno_read w i off m).mono fun e w' ⟨h1, h2⟩ => by rw [h1]; exact readQ2_no h2
  · refine (rd_read ((ps_rot hs).rd hX) i off m).mono ?_
    rintro e w' ⟨u, k, rfl, hq, hb⟩
    exact readQ2_of (fun s hs' => by have := ((ps_rot hs).rd hX).disk.nums s hs'; omega) hq hb
/-- A disk and the document's, or nil. -/
def DK (w : World) (x : Option Addr) (Y : Option DevD) : Prop := (x = none ∧ Y = none) ∨ ∃ d rb lay X, x = some ⟨d, 0, none⟩ ∧ Y = some X ∧ X.Ok ∧ IsDisk w d rb (X.n + 2) lay X.D
def RK (w : World) (y : Option Addr) (Z : Option DevD) : Prop := (y = none ∧ Z = none) ∨ ∃ g S X, y = some ⟨g, 0, none⟩ ∧ Z = some X ∧ X.Ok ∧ IsR w S g (X.n + 2) X.D
theorem DK.below {x : Option Addr} (h : DK w x Y) (hb : Below w.heap.size w w') : DK w' x Y := by
  rcases h with h | ⟨d, rb, lay, X, h1, h2, h3, h4⟩
  · exact .inl h
  · exact .inr ⟨d, rb, lay, X, h1, h2, h3, h4.below hb⟩
theorem RK.below {x : Option Addr} (h : RK w x Y) (hb : Below w.heap.size w w') : RK w' x Y := by
  rcases h with h | ⟨d, S, X, h1, h2, h3, h4⟩
  · exact .inl h
  · exact .inr ⟨d, S, X, h1, h2, h3, h4.below hb⟩
end
end Go.Proofs.YtnopljanpjmbgaaGreat
