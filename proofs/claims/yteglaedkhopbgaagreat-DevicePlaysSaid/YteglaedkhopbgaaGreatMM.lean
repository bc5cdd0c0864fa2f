/-
  The document's device: Arm, Copy; The document's device: New; The document's device: its methods on a device that is nil.
-/
import Derived.Test.YteglaedkhopbgaaGreatML
import Derived.Test.YteglaedkhopbgaaGreatMJ
namespace Go.Proofs.YteglaedkhopbgaaGreat
open Go.RowKit Go.Shelf
set_option linter.unusedVariables false
section
variable {B : Nat} {w w' w0 : World} {os : List Ob} {r : Nat} {R : RLay} {X : DevD}
set_option maxRecDepth 100000 in
set_option maxHeartbeats 2000000 in
theorem rd_arm (h : Sep B w0 w (rv3 r R X os)) (hX : X.Ok) (at_ : Int) (dn : Bool) (A : Option Addr) (m c : Nat) (keep : List Int) (hr : ∀ W, Kept B w0 os W → Reads W W.heap.size 1 A m (ints keep)) (hmc : m ≤ c) (hcm : c ≤ maxLen) (hat : -9223372036854775808 ≤ at_ ∧ at_ ≤ 9223372036854775807) :
    Calls Tryz.prog 15 #[.pointer (some ⟨r, 0, none⟩), planV at_ dn A m c] w fun e w' => e = .returned (.int .i64 (armE at_ keep)) ∧ ∃ R', Sep B w0 w' (rv3 r R' (armX X at_ dn keep) os) := by
  obtain ⟨W1, hW1⟩ : ∃ W1, W1 = w.alloc (.cells #[.int .i64 at_, .bool dn, .slice A m c] 35) := ⟨_, rfl⟩
  obtain ⟨pb, hpb⟩ : ∃ pb, pb = w.heap.size := ⟨_, rfl⟩
  have hs1 : Sep B w0 W1 (blkOb pb 35 #[.int .i64 at_, .bool dn, .slice A m c] :: rv3 r R X os) := by rw [hW1]; exact h.newBlk _ _ _ hpb
  have hs2 : Sep B w0 W1 (rv3 r R X (blkOb pb 35 #[.int .i64 at_, .bool dn, .slice A m c] :: os)) := hs1.perm ((List.perm_append_comm (l₁ := [_]) (l₂ := [_, _, _])).append_right os)
  have hb1 := hs1.blk0
  have c0 : W1.cell? ⟨pb, 0, none⟩ = some (.int .i64 at_) := hb1.cell 0
  have c1 : W1.cell? ⟨pb, 1, none⟩ = some (.bool dn) := hb1.cell 1
  have c2 : W1.cell? ⟨pb, 2, none⟩ = some (.slice A m c) := hb1.cell 2
  have hrd := hs2.rd hX
  have q1 : W1.cell? ⟨r, 2, none⟩ = some (.pointer (some ⟨R.t, 0, none⟩)) := hrd.c2
  have HS2 := Lib.hid hs2
  have HV := Lib.hid (rd_valid hrd)
  have hrd1 := hr W1 ⟨hs1.bel, fun o ho => hs1.get (.tail _ (.tail _ (.tail _ (.tail _ ho))))⟩
  obtain ⟨W2, hW2⟩ : ∃ W2, W2 = W1.drew := ⟨_, rfl⟩
  have HS3 : Hid (Sep B w0 W2 (rv3 r R X (blkOb pb 35 #[.int .i64 at_, .bool dn, .slice A m c] :: os))) := by rw [hW2]; exact hs2.drew
  have HT := Lib.hid (rt_arm (show IsRT W2 R.t R.kb X.T from HS3.out.get (.tail _ (.tail _ (.head _)))) at_ dn A m c keep (hr W2 ⟨HS3.out.bel, fun o ho => HS3.out.get (.tail _ (.tail _ (.tail _ (.tail _ ho))))⟩) hmc hcm hat)
  have HX := Lib.hid hX
  have hlen : keep.length = m := by have := hrd1.1; rw [ints_length] at this; omega
  have HLEN := Lib.hid hlen
  have HR := Lib.hid hr
  have HW1 := Lib.hid hW1
  have HPB := Lib.hid hpb
  obtain ⟨E, hE⟩ : ∃ E, armE at_ keep = E := ⟨_, rfl⟩
  obtain ⟨Z, hZ⟩ : ∃ Z, armX X at_ dn keep = Z := ⟨_, rfl⟩
  have HE := Lib.hid hE
  have HZ := Lib.hid hZ
  rw [hE, hZ]
  rw [hW1] at HV
  unfold planV at HT ⊢
  clear h hX hs1 hs2 hb1 hr hrd hrd1 hlen hE hZ
  go_enter Tryz.func15, Tryz.ntmps15
  go_wp2_with fail
  rw [← hW1, ← hpb]
  rw [← hW1] at HV
  clear hW1 hpb
  refine HV.out.mono ?_
  rintro e w' ⟨rfl, rfl⟩
  go_wp2_with fail
  go_still_tail 5, (by kernel_rfl)
  change wpList _ _ _ _ _ W1.drew
  rw [← hW2]
  clear hW2 c0 c1 c2 q1 HV
  go_wp2_with fail
  refine HT.out.mono ?_
  rintro e w3 (⟨hno, rfl, hb⟩ | ⟨hok, rfl, kb', ht, hch, hfo⟩)
  · have HS4 := Lib.hid (HS3.out.below hb)
    have HNO := Lib.hid hno
    clear hb hno
    go_wp2_with fail
    go_ret
    have hE : E = 2 := by rw [← HE.out]; unfold armE; rw [if_neg HNO.out]
    refine ⟨by rw [hE]; rfl, R, ?_⟩
    rw [← HZ.out, show armX X at_ dn keep = X from by unfold armX; rw [if_neg HNO.out]]
    exact HS4.out.sub (.cons_cons _ (.cons_cons _ (.cons_cons _ (.cons _ (List.Sublist.refl _)))))
  · have hs4 : Sep B w0 w3 (rv3 r { R with kb := kb' } { X with T := armP at_ dn keep } (blkOb pb 35 #[.int .i64 at_, .bool dn, .slice A m c] :: os)) :=
      HS3.out.step2 (a := rtOb R.t R.kb X.T) (a' := rtOb R.t kb' (armP at_ dn keep)) (hch.mono (fun k _ hk => .inl hk)) ht (fun k hk => (hfo k hk).imp (fun e => .inl e) id)
    have HS4 := Lib.hid hs4
    have HOK := Lib.hid hok
    have HE0 : Hid (E = 0) := by show _ = _; rw [← HE.out]; unfold armE; rw [if_pos hok]
    have kp : Blk w3 pb 35 #[.int .i64 at_, .bool dn, .slice A m c] := hs4.get (.tail _ (.tail _ (.tail _ (.head _))))
    have kv : Blk w3 r 72 (rdCells R X) := hs4.get (.head _)
    have d0 : w3.cell? ⟨pb, 0, none⟩ = some (.int .i64 at_) := kp.cell 0
    have d1 : w3.cell? ⟨pb, 1, none⟩ = some (.bool dn) := kp.cell 1
    have d2 : w3.cell? ⟨pb, 2, none⟩ = some (.slice A m c) := kp.cell 2
    have d4 : w3.cell? ⟨r, 4, none⟩ = some (.bool X.down) := kv.cell 4
    have HCR := Lib.hid (rd_crash hs4 HX.out.n32 at_ dn A m c keep (fun W hW => HR.out W ⟨hW.1, fun o ho => hW.2 o (.tail _ ho)⟩) (by have := hok.2.1.1; have := HLEN.out; omega) (by have := hok.2.1.2; have := HLEN.out; omega) hok.2.2)
    unfold planV at HCR
    obtain ⟨xd, hxd⟩ : ∃ xd, X.down = xd := ⟨_, rfl⟩
    have HXD := Lib.hid hxd
    rw [hxd] at d4
    clear hs4 kp kv ht hch hfo hok hxd
    by_cases ha : at_ = 0
    · subst ha
      cases xd with
      | true =>
        go_wp2_with fail
        go_ret
        refine ⟨by rw [HE0.out]; rfl, { R with kb := kb' }, ?_⟩
        rw [← HZ.out, show armX X 0 dn keep = { X with T := armP 0 dn keep } from by unfold armX; rw [if_pos HOK.out, if_neg (fun h => by rw [HXD.out] at h; cases h.2)]]
        exact HS4.out.sub (.cons_cons _ (.cons_cons _ (.cons_cons _ (.cons _ (List.Sublist.refl _)))))
      | false =>
        go_wp2_with fail
        refine HCR.out.mono ?_
        rintro e w5 ⟨rfl, R', hs⟩
        have HS5 := Lib.hid hs
        clear hs d0 d1 d2 d4 HCR
        go_wp2_with fail
        go_ret
        refine ⟨by rw [HE0.out]; rfl, R', ?_⟩
        rw [← HZ.out, show armX X 0 dn keep = { X with D := crashD keep X.D, T := armP 0 dn keep, down := true } from by unfold armX; rw [if_pos HOK.out, if_pos ⟨rfl, HXD.out⟩]]
        exact HS5.out.sub (.cons_cons _ (.cons_cons _ (.cons_cons _ (.cons _ (List.Sublist.refl _)))))
    · have ha2 : (at_ == 0) = false := by rw [beq_eq_false_iff_ne]; exact ha
      go_wp2_with fail
      go_ret
      refine ⟨by rw [HE0.out]; rfl, { R with kb := kb' }, ?_⟩
      rw [← HZ.out, show armX X at_ dn keep = { X with T := armP at_ dn keep } from by unfold armX; rw [if_pos HOK.out, if_neg (fun h => ha h.1)]]
      exact HS4.out.sub (.cons_cons _ (.cons_cons _ (.cons_cons _ (.cons _ (List.Sublist.refl _)))))
set_option maxRecDepth 100000 in
set_option maxHeartbeats 4000000 in
theorem rd_copy (h : Sep B w0 w (rv3 r R X os)) (hX : X.Ok) :
    Calls Tryz.prog 19 #[.pointer (some ⟨r, 0, none⟩)] w fun e w' => ∃ r' R', e = .returned (.pointer (some ⟨r', 0, none⟩)) ∧ Sep B w0 w' (rv3 r' R' X os) := by
  have hrd := h.rd hX
  have HV := Lib.hid (rd_valid hrd)
  have q0 := hrd.c0
  have q1 := hrd.c1
  have q2 := hrd.c2
  have q3 := hrd.c3
  have q4 := hrd.c4
  have hn32 := hX.n32
  have HX := Lib.hid hX
  have H := Lib.hid h
  have HDC : Hid (Calls Tryz.prog 69 #[.pointer (some ⟨R.g, 0, none⟩)] w.drew fun e w' => ∃ g' S', e = .returned (.pointer (some ⟨g', 0, none⟩)) ∧ Hid (Sep B w0 w' (refsOb S' (X.n + 2) [(g', X.D), (R.g, X.D)] :: blkOb r 72 (rdCells R X) :: rtOb R.t R.kb X.T :: os))) := by
    have h5 : Sep B w0 w.drew (refsOb R.S (X.n + 2) ((R.g, X.D) :: R.l) :: blkOb r 72 (rdCells R X) :: rtOb R.t R.kb X.T :: os) := h.drew.perm (.swap _ _ _)
    refine (rsep_copy h5 (by omega) (by omega)).mono ?_
    rintro e w' ⟨g', S', h1, h2⟩
    exact ⟨g', S', h1, h2⟩
  have HTC : Hid (∀ Y g' S', Hid (Sep B w0 Y (refsOb S' (X.n + 2) [(g', X.D), (R.g, X.D)] :: blkOb r 72 (rdCells R X) :: rtOb R.t R.kb X.T :: os)) → Calls Tryz.prog 70 #[.pointer (some ⟨R.t, 0, none⟩)] Y fun e w' => ∃ t' kb', e = .returned (.pointer (some ⟨t', 0, none⟩)) ∧ Hid (Sep B w0 w' (rtOb t' kb' X.T :: refsOb S' (X.n + 2) [(g', X.D), (R.g, X.D)] :: blkOb r 72 (rdCells R X) :: rtOb R.t R.kb X.T :: os))) := fun Y g' S' hY => by
    have ht : IsRT Y R.t R.kb X.T := hY.out.get (.tail _ (.tail _ (.head _)))
    refine (rt_copy ht).mono ?_
    rintro e w' ⟨t', kb', h1, h2, h3, h4⟩
    exact ⟨t', kb', h1, hY.out.add (a := rtOb t' kb' X.T) h4 h2 h3⟩
  clear hrd hX h
  go_enter Tryz.func19, Tryz.ntmps19
  go_wp2_with fail
  refine HV.out.mono ?_
  rintro e w' ⟨rfl, rfl⟩
  go_wp2_with fail
  go_region_held3 (fun Y => Y.cell? ⟨r, 0, none⟩ = some (.int .i64 (X.n : Int)) ∧ Y.cell? ⟨r, 1, none⟩ = some (.pointer (some ⟨R.g, 0, none⟩)) ∧ Y.cell? ⟨r, 2, none⟩ = some (.pointer (some ⟨R.t, 0, none⟩)) ∧ Y.cell? ⟨r, 3, none⟩ = some (.int .i64 (X.ops : Int)) ∧ Y.cell? ⟨r, 4, none⟩ = some (.bool X.down)) (first | (refine ⟨?_, ?_, ?_, ?_, ?_⟩ <;> assumption) | go_keep)
    (first
      | (go_at_call 69; refine HDC.out.mono ?_; rintro e w2 ⟨g', S', rfl, hs2⟩
         have hv2 : Blk w2 r 72 (rdCells R X) := hs2.out.get (.tail _ (.head _))
         have e0 : w2.cell? ⟨r, 0, none⟩ = some (.int .i64 (X.n : Int)) := hv2.cell 0
         have e1 : w2.cell? ⟨r, 1, none⟩ = some (.pointer (some ⟨R.g, 0, none⟩)) := hv2.cell 1
         have e2 : w2.cell? ⟨r, 2, none⟩ = some (.pointer (some ⟨R.t, 0, none⟩)) := hv2.cell 2
         have e3 : w2.cell? ⟨r, 3, none⟩ = some (.int .i64 (X.ops : Int)) := hv2.cell 3
         have e4 : w2.cell? ⟨r, 4, none⟩ = some (.bool X.down) := hv2.cell 4
         clear hv2)
      | (go_at_call 70; refine (HTC.out _ _ _ hs2).mono ?_; rintro e w3 ⟨t', kb', rfl, hs3⟩
         have hv3 : Blk w3 r 72 (rdCells R X) := hs3.out.get (.tail _ (.tail _ (.head _)))
         have f0 : w3.cell? ⟨r, 0, none⟩ = some (.int .i64 (X.n : Int)) := hv3.cell 0
         have f1 : w3.cell? ⟨r, 1, none⟩ = some (.pointer (some ⟨R.g, 0, none⟩)) := hv3.cell 1
         have f2 : w3.cell? ⟨r, 2, none⟩ = some (.pointer (some ⟨R.t, 0, none⟩)) := hv3.cell 2
         have f3 : w3.cell? ⟨r, 3, none⟩ = some (.int .i64 (X.ops : Int)) := hv3.cell 3
         have f4 : w3.cell? ⟨r, 4, none⟩ = some (.bool X.down) := hv3.cell 4
         clear hv3))
  clear q0 q1 q2 q3 q4 e0 e1 e2 e3 e4 f0 f1 f2 f3 f4
  go_wp2_with fail
  go_ret
  have h9 : Sep B w0 w3 (rtOb t' kb' X.T :: refsOb S' (X.n + 2) [(g', X.D), (R.g, X.D)] :: os) := hs3.out.sub (.cons_cons _ (.cons_cons _ (.cons _ (.cons _ (List.Sublist.refl _)))))
  exact ⟨w3.heap.size, ⟨g', t', kb', S', [(R.g, X.D)]⟩, rfl, (h9.newBlk w3.heap.size 72 (rdCells ⟨g', t', kb', S', [(R.g, X.D)]⟩ X) rfl).perm (.cons _ (.swap _ _ _))⟩
end
end Go.Proofs.YteglaedkhopbgaaGreat
namespace Go.Proofs.YteglaedkhopbgaaGreat
open Go.RowKit Go.Shelf
set_option linter.unusedVariables false
section
variable {B : Nat} {w w' w0 : World} {os : List Ob}
set_option maxRecDepth 100000 in
set_option maxHeartbeats 4000000 in
theorem rd_new (h : Sep B w0 w os) (a b : Int) :
    Calls Tryz.prog 7 #[.int .i64 a, .int .i64 b] w fun e w' => (okNew a b ∧ ∃ r R, e = .returned (.tuple #[.pointer (some ⟨r, 0, none⟩), .int .i64 0]) ∧ Sep B w0 w' (rv3 r R (newVD a.toNat b.toNat) os)) ∨ (¬ okNew a b ∧ e = .returned (.tuple #[.pointer none, .int .i64 2]) ∧ Below w.heap.size w w') := by
  by_cases h1 : a < 2
  · go_enter Tryz.func7, Tryz.ntmps7
    go_wp2_with fail
    go_ret2
    exact .inr ⟨fun h => by have := h.1.1; omega, rfl, Below.refl _ _⟩
  by_cases h2 : 32 < a
  · go_enter Tryz.func7, Tryz.ntmps7
    go_wp2_with fail
    go_ret2
    exact .inr ⟨fun h => by have := h.1.2; omega, rfl, Below.refl _ _⟩
  by_cases h3 : b < 1
  · go_enter Tryz.func7, Tryz.ntmps7
    go_wp2_with fail
    go_ret2
    exact .inr ⟨fun h => by have := h.2.1; omega, rfl, Below.refl _ _⟩
  by_cases h4 : 8192 < b
  · go_enter Tryz.func7, Tryz.ntmps7
    go_wp2_with fail
    go_ret2
    exact .inr ⟨fun h => by have := h.2.2; omega, rfl, Below.refl _ _⟩
  obtain ⟨n, rfl⟩ : ∃ n : Nat, a = (n : Int) := ⟨a.toNat, by omega⟩
  obtain ⟨sz, rfl⟩ : ∃ sz : Nat, b = (sz : Int) := ⟨b.toNat, by omega⟩
  have hn2 : 2 ≤ n := by omega
  have hn32 : n ≤ 32 := by omega
  have d1 : decide ((n : Int) < 2) = false := by simp; omega
  have d2 : decide ((32 : Int) < (n : Int)) = false := by simp; omega
  have d3 : decide ((sz : Int) < 1) = false := by simp; omega
  have d4 : decide ((8192 : Int) < (sz : Int)) = false := by simp; omega
  have hsz1 : 1 ≤ sz := by omega
  have hsz2 : sz ≤ 8192 := by omega
  have HOKN : Hid (okNew (n : Int) (sz : Int)) := ⟨⟨by omega, by omega⟩, by omega, by omega⟩
  obtain ⟨i0, hi0, hz0, hz1, hz2⟩ := info_parts clone_int_info
  have H := Lib.hid h
  clear h h1 h2 h3 h4
  go_enter Tryz.func7, Tryz.ntmps7
  go_wp2_with fail
  go_loopg [6, 7] n (fun q v6 v7 wr => ∃ (j : Nat) (A6 : Option Addr) (c6 : Nat), j + q = n ∧ v6 = .slice A6 j c6 ∧ v7 = .int .i64 j ∧ wr.ownsRow w.heap.size 3 1 (.slice A6 j c6) j (ints (List.replicate j (sz : Int))) ∧ Below w.heap.size w wr)
  case atStart => exact ⟨0, none, 0, by omega, rfl, rfl, World.ownsRow_nil _ _ _ _, Below.refl _ _⟩
  case round =>
    obtain ⟨j, A6, c6, hj, rfl, rfl, ho, hb⟩ := hrel
    have HJ := Lib.hid hj
    have HO := Lib.hid ho
    have HB := Lib.hid hb
    have hj' : j ≤ n := by omega
    clear hj ho hb
    by_cases hlt : j < n
    · have HO2 : Hid ((wr.alloc (.cells #[.int .i64 (sz : Int)] 3)).ownsRow w.heap.size 3 1 (.slice A6 j c6) j (ints (List.replicate j (sz : Int)))) := own_below' HO.out ((Below.refl _ _).alloc (Nat.le_refl _) _)
      have HR1 : Hid (Reads (wr.alloc (.cells #[.int .i64 (sz : Int)] 3)) (wr.heap.size + 1) 1 (some ⟨wr.heap.size, 0, none⟩) 1 (ints [(sz : Int)])) := nums_new wr (0, 0) [(sz : Int)] 1 _ rfl rfl
      have HB2 : Hid (Below w.heap.size w (wr.alloc (.cells #[.int .i64 (sz : Int)] 3))) := HB.out.alloc HB.out.size _
      have hnm : j + 1 ≤ maxLen := by unfold maxLen; omega
      go_wp2_with (at_builtin
                   refine wpList_append_g _ rfl (.tmp 29) (.tmp 31) _ rfl w.heap.size 3 i0 _ 1 8 Tryz.underlying33 hi0 hz0 hz1 hz2 rfl (by omega) (.slice A6 j c6) j (ints (List.replicate j (sz : Int))) rfl
                     HO2.out (wr.heap.size + 1) (some ⟨wr.heap.size, 0, none⟩) 1 1 (ints [(sz : Int)]) rfl HR1.out (ints_one' _) hnm (by omega) (by have := HB2.out.size; exact this) ?_
                   intro v4 w4 hown4 hg4 hat4
                   have HO4 := Lib.hid hown4
                   have HB4 : Hid (Below w.heap.size w w4) := HB2.out.grown hg4 HB2.out.size (by intro q hq; exact (HO2.out.lt q hq).1)
                   clear hown4 hg4 hat4)
      obtain ⟨A4, c4, rfl, _, _, _⟩ := own_slice HO4.out
      go_roundg (gk - 1)
      case measure => have := HJ.out; omega
      case rel =>
        refine ⟨j + 1, A4, c4, by have := HJ.out; omega, rfl, by go_num, ?_, HB4.out⟩
        have := HO4.out
        rw [ints_append, show List.replicate j (sz : Int) ++ [(sz : Int)] = List.replicate (j + 1) (sz : Int) from by rw [List.replicate_succ']] at this
        exact this
    · have e8 : j = n := by omega
      subst e8
      have HO3 : Hid ((wr.alloc (.cells #[.int .i64 64, .int .i64 64] 3)).ownsRow w.heap.size 3 1 (.slice A6 j c6) j (ints (List.replicate j (sz : Int)))) := own_below' HO.out ((Below.refl _ _).alloc (Nat.le_refl _) _)
      have HR64 : Hid (Reads (wr.alloc (.cells #[.int .i64 64, .int .i64 64] 3)) (wr.heap.size + 1) 1 (some ⟨wr.heap.size, 0, none⟩) 2 (ints [64, 64])) := nums_new wr (0, 0) [64, 64] 2 _ rfl rfl
      have HB3 : Hid (Below w.heap.size w (wr.alloc (.cells #[.int .i64 64, .int .i64 64] 3))) := HB.out.alloc HB.out.size _
      have hn34 : j + 2 ≤ maxLen := by unfold maxLen; omega
      go_wp2_with (at_builtin
                   refine wpList_append_g _ rfl (.tmp 33) (.tmp 34) _ rfl w.heap.size 3 i0 _ 1 8 Tryz.underlying33 hi0 hz0 hz1 hz2 rfl (by omega) (.slice A6 j c6) j (ints (List.replicate j (sz : Int))) rfl
                     HO3.out (wr.heap.size + 1) (some ⟨wr.heap.size, 0, none⟩) 2 2 (ints [64, 64]) rfl HR64.out (ints_one' _) hn34 (by omega) (by have := HB3.out.size; exact this) ?_
                   intro v4 w4 hown4 hg4 hat4
                   have HO4 := Lib.hid hown4
                   have HB4 : Hid (Below w.heap.size w w4) := HB3.out.grown hg4 HB3.out.size (by intro q hq; exact (HO3.out.lt q hq).1)
                   clear hown4 hg4 hat4)
      obtain ⟨A4, c4, rfl, hc4, hm4, hr4⟩ := own_slice HO4.out
      rw [ints_append] at hr4
      have HNEW := Lib.hid (rsep_new (H.out.below HB4.out) A4 (j + 2) c4 (newZ j (sz : Int)) hr4 (by omega) (by omega) ((newZ_ok j (sz : Int) (by omega)).2 ⟨by omega, by omega⟩))
      clear hr4 hm4 hc4
      refine HNEW.out.mono ?_
      rintro e w5 ⟨d, S, rfl, hs5⟩
      have HS5 : Hid (Sep B w0 w5 (refsOb S (j + 2) [(d, (newVD j sz).D)] :: os)) := by
        have h6 : (∀ p, p ∈ [(d, newD (newZ j (sz : Int)))] → IsR w5 S p.1 (j + 2) p.2) ∧ _ ∧ CellsIn w5 S := hs5.get (.head _)
        refine hs5.step (a' := refsOb S (j + 2) [(d, (newVD j sz).D)]) (Chg.refl _ _) ⟨fun p hp => ?_, List.pairwise_singleton _ _, h6.2.2⟩ (fun k hk => ?_)
        · rcases List.mem_singleton.1 hp with rfl
          exact (h6.1 _ (.head _)).congr (newZ_D j sz)
        · rcases hk with hk | ⟨p, hp, rfl⟩
          · exact .inl (.inl hk)
          · rcases List.mem_singleton.1 hp with rfl
            exact .inl (.inr ⟨_, .head _, rfl⟩)
      clear hs5 HNEW
      go_wp2_with fail
      refine (rt_new w5).mono ?_
      rintro e w6 ⟨rfl, ht, hb6⟩
      have HS6 : Hid (Sep B w0 w6 (rtOb w5.heap.size none none :: refsOb S (j + 2) [(d, (newVD j sz).D)] :: os)) := HS5.out.add (a := rtOb w5.heap.size none none) hb6 ht (fun k hk => by
        rcases hk with e | e
        · exact Nat.le_of_eq (show w5.heap.size = k from (show k = w5.heap.size from e).symm)
        · cases e)
      clear ht hb6
      go_wp2_with fail
      go_ret2
      exact .inl ⟨HOKN.out, w6.heap.size, ⟨d, w5.heap.size, none, S, []⟩, rfl, (HS6.out.newBlk w6.heap.size 72 (rdCells ⟨d, w5.heap.size, none, S, []⟩ (newVD j sz)) rfl).perm (.cons _ (.swap _ _ _))⟩
end
end Go.Proofs.YteglaedkhopbgaaGreat
namespace Go.Proofs.YteglaedkhopbgaaGreat
open Go.RowKit Go.Shelf
set_option linter.unusedVariables false
set_option maxRecDepth 100000 in
set_option maxHeartbeats 1000000 in
theorem rno_valid (w : World) :
    Calls Tryz.prog 65 #[.pointer none] w fun e w' => e = .returned (.bool false) ∧ w = w' := by
  go_enter Tryz.func65, Tryz.ntmps65
  go_wp2_with fail
  go_ret
  exact ⟨rfl, rfl⟩
set_option maxRecDepth 100000 in
set_option maxHeartbeats 1000000 in
theorem rno_check (w : World) (i : Int) :
    Calls Tryz.prog 50 #[.pointer none, .int .i64 i] w fun e w' => e = .returned (.int .i64 1) ∧ w = w' := by
  have HC := Lib.hid (rno_valid w)
  go_enter Tryz.func50, Tryz.ntmps50
  go_wp2_with fail
  refine HC.out.mono ?_
  rintro e w1 ⟨rfl, rfl⟩
  go_wp2_with fail
  go_ret
  exact ⟨rfl, rfl⟩
set_option maxRecDepth 100000 in
set_option maxHeartbeats 1000000 in
theorem rno_len (w : World) (i : Int) :
    Calls Tryz.prog 23 #[.pointer none, .int .i64 i] w fun e w' => e = .returned (.tuple #[.int .i64 0, .int .i64 1]) ∧ Below w.heap.size w w' := by
  have HC := Lib.hid (rno_check w i)
  go_enter Tryz.func23, Tryz.ntmps23
  go_wp2_with fail
  refine HC.out.mono ?_
  rintro e w1 ⟨rfl, rfl⟩
  go_wp2_with fail
  go_ret2
  exact ⟨rfl, Below.refl _ _⟩
set_option maxRecDepth 100000 in
set_option maxHeartbeats 1000000 in
theorem rno_room (w : World) (i : Int) :
    Calls Tryz.prog 27 #[.pointer none, .int .i64 i] w fun e w' => e = .returned (.tuple #[.int .i64 0, .int .i64 1]) ∧ Below w.heap.size w w' := by
  have HC := Lib.hid (rno_check w i)
  go_enter Tryz.func27, Tryz.ntmps27
  go_wp2_with fail
  refine HC.out.mono ?_
  rintro e w1 ⟨rfl, rfl⟩
  go_wp2_with fail
  go_ret2
  exact ⟨rfl, Below.refl _ _⟩
set_option maxRecDepth 100000 in
set_option maxHeartbeats 1000000 in
theorem rno_uns (w : World) (i : Int) :
    Calls Tryz.prog 25 #[.pointer none, .int .i64 i] w fun e w' => e = .returned (.tuple #[.int .i64 0, .int .i64 1]) ∧ Below w.heap.size w w' := by
  have HC := Lib.hid (rno_len w i)
  go_enter Tryz.func25, Tryz.ntmps25
  go_wp2_with fail
  refine HC.out.mono ?_
  rintro e w1 ⟨rfl, hb⟩
  have HB := Lib.hid hb
  clear hb
  go_wp2_with fail
  go_ret2
  exact ⟨rfl, HB.out⟩
set_option maxRecDepth 100000 in
set_option maxHeartbeats 1000000 in
theorem rno_read (w : World) (i off m : Int) :
    Calls Tryz.prog 21 #[.pointer none, .int .i64 i, .int .i64 off, .int .i64 m] w fun e w' => e = .returned (.tuple #[.slice none 0 0, .int .i64 1]) ∧ Below w.heap.size w w' := by
  have HC := Lib.hid (rno_check w i)
  go_enter Tryz.func21, Tryz.ntmps21
  go_wp2_with fail
  refine HC.out.mono ?_
  rintro e w1 ⟨rfl, rfl⟩
  go_wp2_with fail
  go_ret2
  exact ⟨rfl, Below.refl _ _⟩
set_option maxRecDepth 100000 in
set_option maxHeartbeats 1000000 in
theorem rno_down (w : World) :
    Calls Tryz.prog 30 #[.pointer none] w fun e w' => e = .returned (.bool false) ∧ Below w.heap.size w w' := by
  have HC := Lib.hid (rno_valid w)
  go_enter Tryz.func30, Tryz.ntmps30
  go_wp2_with fail
  refine HC.out.mono ?_
  rintro e w1 ⟨rfl, rfl⟩
  go_wp2_with fail
  go_ret
  exact ⟨rfl, Below.refl _ _⟩
set_option maxRecDepth 100000 in
set_option maxHeartbeats 1000000 in
theorem rno_ops (w : World) :
    Calls Tryz.prog 32 #[.pointer none] w fun e w' => e = .returned (.int .i64 0) ∧ Below w.heap.size w w' := by
  have HC := Lib.hid (rno_valid w)
  go_enter Tryz.func32, Tryz.ntmps32
  go_wp2_with fail
  refine HC.out.mono ?_
  rintro e w1 ⟨rfl, rfl⟩
  go_wp2_with fail
  go_ret
  exact ⟨rfl, Below.refl _ _⟩
set_option maxRecDepth 100000 in
set_option maxHeartbeats 1000000 in
theorem rno_slots (w : World) :
    Calls Tryz.prog 34 #[.pointer none] w fun e w' => e = .returned (.int .i64 0) ∧ Below w.heap.size w w' := by
  have HC := Lib.hid (rno_valid w)
  go_enter Tryz.func34, Tryz.ntmps34
  go_wp2_with fail
  refine HC.out.mono ?_
  rintro e w1 ⟨rfl, rfl⟩
  go_wp2_with fail
  go_ret
  exact ⟨rfl, Below.refl _ _⟩
set_option maxRecDepth 100000 in
set_option maxHeartbeats 1000000 in
theorem rno_disk (w : World) :
    Calls Tryz.prog 37 #[.pointer none] w fun e w' => e = .returned (.pointer none) ∧ Below w.heap.size w w' := by
  have HC := Lib.hid (rno_valid w)
  go_enter Tryz.func37, Tryz.ntmps37
  go_wp2_with fail
  refine HC.out.mono ?_
  rintro e w1 ⟨rfl, rfl⟩
  go_wp2_with fail
  go_ret
  exact ⟨rfl, Below.refl _ _⟩
set_option maxRecDepth 100000 in
set_option maxHeartbeats 1000000 in
theorem rno_copy (w : World) :
    Calls Tryz.prog 19 #[.pointer none] w fun e w' => e = .returned (.pointer none) ∧ Below w.heap.size w w' := by
  have HC := Lib.hid (rno_valid w)
  go_enter Tryz.func19, Tryz.ntmps19
  go_wp2_with fail
  refine HC.out.mono ?_
  rintro e w1 ⟨rfl, rfl⟩
  go_wp2_with fail
  go_ret
  exact ⟨rfl, Below.refl _ _⟩
set_option maxRecDepth 100000 in
set_option maxHeartbeats 1000000 in
theorem rno_restart (w : World) :
    Calls Tryz.prog 17 #[.pointer none] w fun e w' => e = .returned (.int .i64 1) ∧ Below w.heap.size w w' := by
  have HC := Lib.hid (rno_valid w)
  go_enter Tryz.func17, Tryz.ntmps17
  go_wp2_with fail
  refine HC.out.mono ?_
  rintro e w1 ⟨rfl, rfl⟩
  go_wp2_with fail
  go_ret
  exact ⟨rfl, Below.refl _ _⟩
set_option maxRecDepth 100000 in
set_option maxHeartbeats 1000000 in
theorem rno_sync (w : World) (i : Int) :
    Calls Tryz.prog 11 #[.pointer none, .int .i64 i] w fun e w' => e = .returned (.int .i64 1) ∧ Below w.heap.size w w' := by
  have HC := Lib.hid (rno_check w i)
  go_enter Tryz.func11, Tryz.ntmps11
  go_wp2_with fail
  refine HC.out.mono ?_
  rintro e w1 ⟨rfl, rfl⟩
  go_wp2_with fail
  go_ret
  exact ⟨rfl, Below.refl _ _⟩
set_option maxRecDepth 100000 in
set_option maxHeartbeats 1000000 in
theorem rno_erase (w : World) (i : Int) :
    Calls Tryz.prog 13 #[.pointer none, .int .i64 i] w fun e w' => e = .returned (.int .i64 1) ∧ Below w.heap.size w w' := by
  have HC := Lib.hid (rno_check w i)
  go_enter Tryz.func13, Tryz.ntmps13
  go_wp2_with fail
  refine HC.out.mono ?_
  rintro e w1 ⟨rfl, rfl⟩
  go_wp2_with fail
  go_ret
  exact ⟨rfl, Below.refl _ _⟩
set_option maxRecDepth 100000 in
set_option maxHeartbeats 1000000 in
theorem rno_append (w : World) (i : Int) (A : Option Addr) (m c : Nat) :
    Calls Tryz.prog 9 #[.pointer none, .int .i64 i, .slice A m c] w fun e w' => e = .returned (.int .i64 1) ∧ Below w.heap.size w w' := by
  have HC := Lib.hid (rno_check w i)
  go_enter Tryz.func9, Tryz.ntmps9
  go_wp2_with fail
  refine HC.out.mono ?_
  rintro e w1 ⟨rfl, rfl⟩
  go_wp2_with fail
  go_ret
  exact ⟨rfl, Below.refl _ _⟩
set_option maxRecDepth 100000 in
set_option maxHeartbeats 1000000 in
theorem rno_arm (w : World) (at_ : Int) (dn : Bool) (A : Option Addr) (m c : Nat) :
    Calls Tryz.prog 15 #[.pointer none, .agg #[.int .i64 at_, .bool dn, .slice A m c]] w fun e w' => e = .returned (.int .i64 1) ∧ Below w.heap.size w w' := by
  have HB : Hid (Below w.heap.size w (w.alloc (.cells #[.int .i64 at_, .bool dn, .slice A m c] 35))) := (Below.refl _ _).alloc (Nat.le_refl _) _
  have HC := Lib.hid (rno_valid (w.alloc (.cells #[.int .i64 at_, .bool dn, .slice A m c] 35)))
  go_enter Tryz.func15, Tryz.ntmps15
  go_wp2_with fail
  refine HC.out.mono ?_
  rintro e w1 ⟨rfl, rfl⟩
  go_wp2_with fail
  go_ret
  exact ⟨rfl, HB.out⟩
set_option maxRecDepth 100000 in
set_option maxHeartbeats 400000 in
theorem rslots_nil (w : World) :
    Calls Tryz.prog 79 #[.pointer none] w fun e w' => e = .returned (.int .i64 0) ∧ w = w' := by
  have HV : Hid (Calls Tryz.prog 105 #[.pointer none] w fun e w' => e = .returned (.bool false) ∧ w = w') := by
    show Calls _ _ _ _ _
    go_enter Tryz.func105, Tryz.ntmps105
    go_wp2_with fail
    go_ret
    exact ⟨rfl, rfl⟩
  go_enter Tryz.func79, Tryz.ntmps79
  go_wp2_with fail
  refine HV.out.mono ?_
  rintro e w1 ⟨rfl, rfl⟩
  go_wp2_with fail
  go_ret
  exact ⟨rfl, rfl⟩
end Go.Proofs.YteglaedkhopbgaaGreat
