/-
  A disk's Crash. Conditions: the disk is as New makes it; what is kept can be read beside it.
-/
import Derived.Test.YtelobbigpgfobaaDisk8
import Derived.Stop.RegionWithIn
import Derived.Test.YtelobbigpgfobaaHeldIn
namespace Go.Proofs.Ytelobbigpgfobaa
open Go.RowKit Go.Shelf
set_option linter.unusedVariables false
attribute [local go_sem] Oper.semAt_some
section
variable {B : Nat} {w0 w : World} {os : List Ob} {d n : Nat} {rb : Option Nat} {lay : Lay} {D : Nat → SlotD}
/-- The call's own blocks beside the disk. -/
def crOs (s d n : Nat) (rb : Option Nat) (lay : Lay) (D : Nat → SlotD) (v : Value) (os : List Ob) : List Ob :=
  [blkOb (s + 1 + 1) 30 #[.pointer (some ⟨d, 0, none⟩)], blkOb (s + 1) 32 #[v], blkOb s 30 #[.pointer (some ⟨d, 0, none⟩)], diskOb d rb n lay D] ++ os
theorem crOs_cells {s : Nat} {v : Value} (hC : AllCells os) : AllCells (crOs s d n rb lay D v os) :=
  AllCells.cons (cellOb_blk _ _ _) (AllCells.cons (cellOb_blk _ _ _) (AllCells.cons (cellOb_blk _ _ _) (AllCells.cons (cellOb_disk _ _ _ _ _) hC)))
set_option maxRecDepth 100000 in
set_option maxHeartbeats 8000000 in
theorem sep_crashdisk (h : Sep B w0 w (diskOb d rb n lay D :: os)) (hC : AllCells os) (hn : 0 < n) (hm34 : n ≤ 65536) (A : Option Addr) (m c : Nat) (zs : List Int)
    (hr : ∀ X D', Sep B w0 X (diskOb d rb n lay D' :: os) → Reads X X.heap.size 1 A m (ints zs)) (h1 : 1 ≤ m) (h2 : m ≤ 34) (hk : ∀ z ∈ zs, 0 ≤ z ∧ z ≤ 9223372036854775807) :
    Calls Try.prog 22 #[.pointer (some ⟨d, 0, none⟩), .slice A m c] w fun e w' => e = .returned (.int .i64 0) ∧ Sep B w0 w' (diskOb d rb n lay (crashD zs D) :: os) := by
  refine (callsIn_wide (n := 5)).1 ?_
  have hd : IsDisk w d rb n lay D := h.get (.head _)
  have hlen : zs.length = m := by have := (hr w D h).1; rw [ints_length] at this; omega
  have HL := Lib.hid hlen
  have HR := Lib.hid hr
  have HK := Lib.hid hk
  have HCC := Lib.hid hC
  have H1 : Hid (Sep B w0 ((w.alloc (.cells #[.pointer (some ⟨d, 0, none⟩)] 30)).alloc (.cells #[.slice A m c] 32)) (blkOb (w.heap.size + 1) 32 #[.slice A m c] :: blkOb w.heap.size 30 #[.pointer (some ⟨d, 0, none⟩)] :: diskOb d rb n lay D :: os)) :=
    (h.newBlk w.heap.size _ _ rfl).newBlk (w.heap.size + 1) _ _ (by simp)
  have hB := h.big
  have HD0 := Lib.hid hd
  clear h hC hr hk hlen hd
  refine callsIn_of_wp_marks Try.func22 rfl trivial ?_ rfl
  simp only [Try.ntmps22, List.size_toArray, List.length_cons, List.length_nil, Nat.reduceAdd, Nat.reduceSub, Array.replicate_succ, Array.replicate_zero, List.push_toArray, List.append_toArray, List.nil_append, List.cons_append]
  obtain ⟨W1, hW1⟩ : ∃ W1 : World, W1 = ((w.alloc (.cells #[.pointer (some ⟨d, 0, none⟩)] 30)).alloc (.cells #[.slice A m c] 32)) := ⟨_, rfl⟩
  rw [← hW1] at H1
  have hs1 : W1.heap.size = w.heap.size + 2 := by rw [hW1]; simp
  have HV : Hid (Calls Try.prog 49 #[.pointer (some ⟨d, 0, none⟩)] W1 fun e w' => e = .returned (.bool true) ∧ W1 = w') := valid_disk (show IsDisk W1 d rb n lay D from H1.out.get (.tail _ (.tail _ (.head _)))) hn
  have HM : Hid (Calls Try.prog 50 #[.slice A m c] W1 fun e w' => ∃ r, e = .returned (.int .i64 r) ∧ ¬ r < 0 ∧ W1 = w') := by
    refine (min_ints A m c zs W1 (HR.out W1 D (H1.out.sub ((List.Sublist.refl _).cons _ |>.cons _))) h1 (by omega)).mono ?_
    rintro e w' ⟨r, h1, h2, h3⟩
    exact ⟨r, h1, fun hr => by
      obtain ⟨z, hz, hz2⟩ := h2.1 hr
      have := (HK.out z hz).1
      omega, h3⟩
  rw [hW1] at HV HM
  gi_wp2_with (first
    | (refine ⟨trivial, ?_⟩; gi_at_call 49; refine (callsIn_wide.2 HV.out).mono ?_; rintro e w' ⟨rfl, rfl⟩)
    | (refine ⟨trivial, ?_⟩; gi_at_call 50; refine (callsIn_wide.2 HM.out).mono ?_; rintro e w' ⟨r, rfl, hrn, rfl⟩)
    | (refine ⟨trivial, ?_⟩; gi_at_call 51; refine (callsIn_wide.2 (used_any _ _)).mono ?_; rintro e w' ⟨rfl, rfl⟩))
  have H2 : Hid (Sep B w0 (W1.alloc (.cells #[.pointer (some ⟨d, 0, none⟩)] 30)) (crOs w.heap.size d n rb lay (crAt zs D []) (.slice A m c) os)) := by
    show Sep _ _ _ _
    rw [crAt_nil]
    exact H1.out.newBlk (w.heap.size + 1 + 1) _ _ (by omega)
  rw [← hW1]
  obtain ⟨W2, hW2⟩ : ∃ W2 : World, W2 = W1.alloc (.cells #[.pointer (some ⟨d, 0, none⟩)] 30) := ⟨_, rfl⟩
  rw [← hW2] at H2 ⊢
  have hs2 : W2.heap.size = w.heap.size + 3 := by rw [hW2]; simp; omega
  clear hW1 hW2 HV HM H1
  have hrn' : decide (r < 0) = false := by simp; omega
  have hm1' : decide ((m : Int) < 1) = false := by simp; omega
  have hm2' : decide (34 < (m : Int)) = false := by simp; omega
  simp only [hrn', hm1', hm2', Bool.or_false]
  have HI : Hid (∀ pre X, Sep B w0 X (crOs w.heap.size d n rb lay (crAt zs D pre) (.slice A m c) os) → X.cell? ⟨w.heap.size + 1 + 1, 0, none⟩ = some (.pointer (some ⟨d, 0, none⟩)) ∧ X.cell? ⟨w.heap.size + 1, 0, none⟩ = some (.slice A m c) ∧ X.cell? ⟨w.heap.size, 0, none⟩ = some (.pointer (some ⟨d, 0, none⟩)) ∧ IsDisk X d rb n lay (crAt zs D pre) ∧ Reads X X.heap.size 1 A m (ints zs)) := fun pre X h => by
    have x1 : Blk X (w.heap.size + 1 + 1) 30 #[.pointer (some ⟨d, 0, none⟩)] := h.get (.head _)
    have x2 : Blk X (w.heap.size + 1) 32 #[.slice A m c] := h.get (.tail _ (.head _))
    have x3 : Blk X w.heap.size 30 #[.pointer (some ⟨d, 0, none⟩)] := h.get (.tail _ (.tail _ (.head _)))
    exact ⟨x1.cell 0, x2.cell 0, x3.cell 0, h.get (.tail _ (.tail _ (.tail _ (.head _)))), HR.out X _ (h.sub ((((List.Sublist.refl _).cons _).cons _).cons _))⟩
  refine wpIn_rangeFunc_vis rfl (by omega) (gf := 68) (lb := #[.pointer (some ⟨w.heap.size + 1 + 1, 0, none⟩)]) rfl trivial (enters_of Try.func68 (by kernel_rfl) rfl)
    (fun pre X => Sep B w0 X (crOs w.heap.size d n rb lay (crAt zs D pre) (.slice A m c) os))
    (used1_vis 4 (by omega) (w.heap.size + 1 + 1) d n rb D hn hm34 _ W2 (fun pre X hI => ⟨(HI.out pre X hI).1, lay, crAt zs D pre, (HI.out pre X hI).2.2.2.1, fun i _ hi => by simp [crAt, hi]⟩)) (fun _ => rfl)
    (ownFrom_sep (os := fun pre => crOs w.heap.size d n rb lay (crAt zs D pre) (.slice A m c) os) (by omega) (fun pre => crOs_cells HCC.out)) H2.out
    (fun x => { tmps := #[.pointer (some ⟨d, 0, none⟩), .slice A m c, .pointer (some ⟨w.heap.size, 0, none⟩), .pointer (some ⟨w.heap.size + 1, 0, none⟩), .int .i64 0, .int .i64 (x : Int), .bool false, .pointer (some ⟨d, 0, none⟩), .bool true, .bool false, .bool false, .slice A m c, .int .i64 (m : Int), .bool false, .bool false, .slice A m c, .int .i64 (m : Int), .bool false, .bool false, .bool false, .slice A m c, .int .i64 r, .bool false, .bool false, .pointer (some ⟨d, 0, none⟩), .func (.func 68) #[] #[.pointer (some ⟨w.heap.size + 1 + 1, 0, none⟩)], .int .i64 (x : Int), undef, undef, undef, undef, undef, undef, undef, undef, undef, undef, undef, undef, undef, undef, undef, undef], defers := [] }) ?assign ?body ?done
  case assign =>
    intro l x W K hK
    gi_wp2
    exact hK
  case body =>
    rintro l pre x W hs ⟨hpre, hxn, hpos⟩
    obtain ⟨-, q3, q2, hdk, hrd⟩ := HI.out pre W hs
    obtain ⟨A2, c2, qd, k1, k2, hptr⟩ := hdk.cells
    obtain ⟨ad2, rfl, qp⟩ := hptr x hxn
    have hxm : x % m < m := Nat.mod_lt _ (by omega)
    obtain ⟨ad, u, rfl, _, hu, qk⟩ := hrd.at_ hxm
    have hkz : x % m < zs.length := by rw [HL.out]; exact hxm
    rw [ints_at hkz] at hu
    injection hu with hu
    subst hu
    obtain ⟨hz0, hz1⟩ := HK.out _ (List.getElem_mem hkz)
    have hka : keepAt zs x = zs[x % m] := by
      unfold keepAt
      rw [List.getD_eq_getElem?_getD]
      simp only [HL.out]
      rw [List.getElem?_eq_getElem hkz, Option.getD_some]
    obtain ⟨z, hz⟩ : ∃ z, zs[x % m] = z := ⟨_, rfl⟩
    rw [hz] at qk hz0 hz1 hka
    have hnp : x ∉ pre := by rw [hpre]; exact fun e => by have := (usedTo_mem.1 e).1; omega
    have hcx : crAt zs D pre x = D x := by simp [crAt, hnp]
    have hxnum := HD0.out.nums hxn
    have HCR : Hid (Calls Try.prog 52 #[.pointer (some ⟨(lay x).1, 0, none⟩), .int .i64 (min z 8192)] W.drew fun e w' => e = .returned (.int .i64 0) ∧ Hid (Sep B w0 w' (crOs w.heap.size d n rb lay (crAt zs D (pre ++ [x])) (.slice (some ad) m c) os) ∧ KeepsOthers W w')) := by
      have himg := hdk.img x hxn
      rw [hcx] at himg
      refine (crash_img himg.drew (min z 8192) (by omega) (by omega)).mono ?_
      rintro e w' ⟨h1, h2, h3⟩
      have hch : Chg (sfoot lay x) W w' := (Chg.refl _ W).drew.trans h3 (fun k _ hk => hk)
      have hx : IsImg w' (lay x).1 (lay x).2 (crashS (keepAt zs x) (D x)).bytes (crashS (keepAt zs x) (D x)).size (crashS (keepAt zs x) (D x)).dur := by
        rw [hka, ← crashS_min hz0 (by omega)]
        exact h2
      obtain ⟨p1, _⟩ := hdk.upd hxn hx hch (fun k hk => .inl hk)
      rw [show updF lay x ((lay x).1, (lay x).2) = lay from by funext j; unfold updF; split <;> simp_all, ← crAt_snoc] at p1
      refine ⟨h1, ?_, keepsOthers_chg hch (img_cells (hdk.img x hxn))⟩
      refine (Sep.step (a := diskOb d rb n lay (crAt zs D pre)) (a' := diskOb d rb n lay (crAt zs D (pre ++ [x]))) (hs.perm (List.perm_middle (l₁ := [_, _, _]))) (hch.mono (fun k _ hk => .inr (.inr ⟨x, hxn, hk⟩))) p1 (fun _ hk => .inl hk)).perm (List.perm_middle (l₁ := [_, _, _])).symm
    have hrem : Int.tmod (x : Int) (m : Int) = ((x % m : Nat) : Int) := by rw [Int.tmod_eq_emod_of_nonneg (by omega)]; omega
    have hm64 : m ≠ 0 := by omega
    have hwz : IntKind.i64.wrap z = z := by rw [IntKind.wrap_i64]; omega
    obtain ⟨y, hy⟩ : ∃ y, x % m = y := ⟨_, rfl⟩
    rw [hy] at qk hxm hrem
    unfold maxLen at k2
    clear hs hpre hpos hdk hptr hrd hka hnp hcx hxnum hz hkz
    obtain ⟨y8, hy8⟩ : ∃ y8, (if 8192 < z then 8192 else z) = y8 := ⟨_, rfl⟩
    rw [show min z 8192 = y8 from by rw [← hy8]; split <;> omega] at HCR
    gi_wp2
    refine wpIn_region_held 27 15 #[.pointer (some ⟨d, 0, none⟩), .slice (some ad) m c, .pointer (some ⟨w.heap.size, 0, none⟩), .pointer (some ⟨w.heap.size + 1, 0, none⟩), .int .i64 0, .int .i64 (x : Int), .bool false, .pointer (some ⟨d, 0, none⟩), .bool true, .bool false, .bool false, .slice (some ad) m c, .int .i64 (m : Int), .bool false, .bool false, .slice (some ad) m c, .int .i64 (m : Int), .bool false, .bool false, .bool false, .slice (some ad) m c, .int .i64 r, .bool false, .bool false, .pointer (some ⟨d, 0, none⟩), .func (.func 68) #[] #[.pointer (some ⟨w.heap.size + 1 + 1, 0, none⟩)], .int .i64 (x : Int),
      .pointer (some ⟨d, 0, none⟩), .pointer (some ⟨d, 0, none⟩), .pointer (some ⟨d, 0, none⟩), .slice (some ad2) n c2, .int .i64 (x : Int), .pointer (some (ad2.add x)), .pointer (some ⟨(lay x).1, 0, none⟩), .slice (some ad) m c, .int .i64 (x : Int), .slice (some ad) m c, .int .i64 (m : Int), .int .i64 (y : Int), .pointer (some (ad.add y)), .int .i64 z, .int .i64 y8, undef] (by kernel_rfl) (by kernel_rfl) rfl (by simp) rfl ?htF ?hval ?hlast
    case htF =>
      intro k h
      iterate 43 (rcases k with _ | k; · first | rfl | (exfalso; omega))
      rfl
    case hval =>
      intro i o hi ho
      iterate 15
        rcases i with _ | i
        · injection ho with ho
          subst ho
          refine ⟨fun f hf => ?_, _, rfl, ?_⟩
          · first | trivial | (simp [Oper.about] at hf)
          · first | go_simp | fail "op"
      omega
    case hlast =>
      intro o ho
      injection ho with ho
      subst ho
      go_simp
      refine ⟨trivial, ?_⟩
      refine (CallsIn.inRound l (callsIn_wide.2 HCR.out)).mono ?_
      rintro e w' ⟨rfl, hp⟩
      exact ⟨hp.out.2, hp.out.1⟩
  case done =>
    rintro D9 xs W hD9 rfl hs hK
    have HS := Lib.hid hs
    have HK9 := Lib.hid hK
    have HDW := Lib.hid hD9
    clear hs hK hD9
    gi_wp2
    refine ⟨by simp, .inl ⟨_, _, rfl, run_takeDeferred HK9.out, ?_⟩⟩
    have h4 : Sep B w0 W (diskOb d rb n lay (crAt zs D (usedTo D n)) :: os) := HS.out.sub ((((List.Sublist.refl _).cons _).cons _).cons _)
    have h5 : Sep B w0 (W.putObj D9 (.deferred none)) (diskOb d rb n lay (crAt zs D (usedTo D n)) :: os) :=
      h4.others (AllCells.cons (cellOb_disk _ _ _ _ _) HCC.out) (grownBy_putObj' W D9 (.deferred none)) (fun r e => by cases e; exact ⟨by have := HDW.out; omega, _, HK9.out, rfl⟩)
    have h6 : Sep B w0 (W.putObj D9 (.deferred none)) (diskOb d rb n lay (crashD zs D) :: os) :=
      h5.step (a' := diskOb d rb n lay (crashD zs D)) (Chg.refl _ _) (HD0.out.crashed (h5.get (.head _))) (fun _ hk => .inl hk)
    exact ⟨.int .i64 0, by simp [results, Try.f22, go_sem], rfl, h6⟩
end
end Go.Proofs.Ytelobbigpgfobaa
