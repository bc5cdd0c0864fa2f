/-
  A disk's New. Condition: the sizes can be read.
-/
import Derived.Test.YtelobbigpgfobaaDisk4
namespace Go.Proofs.Ytelobbigpgfobaa
open Go.RowKit
set_option linter.unusedVariables false
theorem updF_at (D : Nat → SlotD) (i : Nat) (x : SlotD) (h : x = D i) : updF D i x = D := by rw [h]; exact updF_id D i
/-- Numbers in memory. -/
def ints (l : List Int) : List Value := l.map (Value.int .i64)
theorem ints_length (l : List Int) : (ints l).length = l.length := by simp [ints]
theorem ints_at {l : List Int} {j : Nat} (hj : j < l.length) : (ints l)[j]? = some (.int .i64 l[j]) := by simp [ints, hj]
theorem reads_news (W : World) (t : TypeId) (cs : Array Value) (fr : Nat × Nat) (n : Nat) (hn : n = cs.size) :
    Reads (W.alloc (.cells cs t fr)) (W.heap.size + 1) 1 (some ⟨W.heap.size, 0, none⟩) n cs.toList := by
  subst hn
  refine ⟨by simp, fun _ => ⟨_, rfl, by simp, fun j u hu => ?_⟩⟩
  rw [add_zero_addr, cell_of_row _ _ j _ t fr (heap_alloc_new W _)]
  simpa using hu
theorem ptr_info : (Try.prog.info? 71).map (fun i => (i.zero, i.size, i.bytes)) = some (some (.pointer none), 1, 8) := by kernel_rfl
def okSize (z : Int) : Prop := 1 ≤ z ∧ z ≤ 8192
instance (z : Int) : Decidable (okSize z) := by unfold okSize; infer_instance
def newD (zs : List Int) : Nat → SlotD := fun i => ⟨(zs.getD i 0).toNat, [], 0⟩
theorem isDisk_new (w : World) (D : Nat → SlotD) (lay : Lay) : IsDisk (w.alloc (.cells #[.slice none 0 0] 64)) w.heap.size none 0 lay D :=
  ⟨⟨none, 0, Blk.new w _ _, World.ownsRow_nil _ _ _ _, rfl⟩, by simp, fun i hi => by omega, fun i hi => by omega, fun i j hi => by omega⟩
theorem dfoot_zero (d : Nat) (lay : Lay) (k : Nat) (h : dfoot d none 0 lay k) : k = d := by
  rcases h with h | h | ⟨i, hi, _⟩
  · exact h
  · cases h
  · omega
theorem one_ptr (p : Option Addr) : ∀ u ∈ [Value.pointer p], u.oneCell' = true := by
  intro u hu
  rcases List.mem_singleton.1 hu with rfl
  rfl
/-- What New gives. -/
def NewQ (w : World) (zs : List Int) (n : Nat) (e : Ending) (w' : World) : Prop :=
  ((∀ z ∈ zs, okSize z) ∧ ∃ d rb lay, e = .returned (.tuple #[.pointer (some ⟨d, 0, none⟩), .int .i64 0]) ∧ IsDisk w' d rb n lay (newD zs) ∧ (∀ k, dfoot d rb n lay k → w.heap.size ≤ k) ∧ Below w.heap.size w w') ∨
    ((∃ z ∈ zs, ¬ okSize z) ∧ e = .returned (.tuple #[.pointer none, .int .i64 2]) ∧ Below w.heap.size w w')
set_option maxHeartbeats 400000 in
theorem newdisk_len (A : Option Addr) (n c : Nat) (w : World) (h : n < 1 ∨ 34 < n) (hm : n ≤ maxLen) :
    Calls Try.prog 21 #[.slice A n c] w fun e w' => e = .returned (.tuple #[.pointer none, .int .i64 2]) ∧ w = w' := by
  unfold maxLen at hm
  by_cases h1 : n < 1
  · clear h
    go_enter Try.func21, Try.ntmps21
    go_wp2_with fail
    go_ret2
    exact ⟨rfl, rfl⟩
  · have h2 : 34 < n := by omega
    clear h
    go_enter Try.func21, Try.ntmps21
    go_wp2_with fail
    go_ret2
    exact ⟨rfl, rfl⟩
set_option maxHeartbeats 2000000 in
theorem newdisk_any (A : Option Addr) (n c : Nat) (zs : List Int) (w : World) (hr : Reads w w.heap.size 1 A n (ints zs)) (h1 : 1 ≤ n) (h2 : n ≤ 34) :
    Calls Try.prog 21 #[.slice A n c] w (NewQ w zs n) := by
  obtain ⟨i0, hi0, hz0, hz1, hz2⟩ := info_parts ptr_info
  have hlen : zs.length = n := by have := hr.1; rw [ints_length] at this; omega
  have HR := Lib.hid hr
  have HL := Lib.hid hlen
  clear hr hlen
  go_enter Try.func21, Try.ntmps21
  go_wp2_with fail
  go_loopg [21] n (fun q v21 wr => ∃ (j : Nat) (rb : Option Nat) (lay : Lay), j + q = n ∧ v21 = .int .i64 j ∧ (∀ i, i < j → okSize (zs.getD i 0)) ∧ IsDisk wr w.heap.size rb j lay (newD zs) ∧ (∀ k, dfoot w.heap.size rb j lay k → w.heap.size ≤ k) ∧ Below w.heap.size w wr)
  case atStart => exact ⟨0, none, fun _ => (0, none), by omega, rfl, (fun i hi => by omega), isDisk_new w _ _, fun k hk => by have := dfoot_zero _ _ _ hk; omega, by go_grown⟩
  case round =>
    obtain ⟨j, rb, lay, hj, rfl, hok, hd, hf, hb⟩ := hrel
    have HOK := Lib.hid hok
    clear hok
    have hj' : j ≤ n := by omega
    have HJ := Lib.hid hj
    have HD := Lib.hid hd
    have HF := Lib.hid hf
    have HB := Lib.hid hb
    by_cases hlt : j < n
    · obtain ⟨ad, u, rfl, hab, hx, hc⟩ := (HR.out.below hb).at_ hlt
      have hjz : j < zs.length := by rw [HL.out]; exact hlt
      rw [ints_at hjz] at hx
      injection hx with hx
      subst hx
      by_cases hok : ¬ okSize zs[j]
      · have HNO := Lib.hid hok
        have hbad : zs[j] < 1 ∨ (1 ≤ zs[j] ∧ 8192 < zs[j]) := by unfold okSize at hok; omega
        have HE := Lib.hid (new_img_err zs[j] wr hbad)
        have HM := Lib.hid (List.getElem_mem hjz)
        obtain ⟨z, hzz⟩ : ∃ z, zs[j] = z := ⟨_, rfl⟩
        rw [hzz] at hc HE HM HNO
        clear hj hd hf hb hok hbad hzz
        go_wp2_with fail
        refine HE.out.mono ?_
        rintro e w' ⟨rfl, rfl⟩
        go_wp2_with fail
        go_ret2
        exact .inr ⟨⟨z, HM.out, HNO.out⟩, rfl, HB.out⟩
      replace hok : okSize zs[j] := by by_cases e : okSize zs[j]; exact e; exact absurd e hok
      have HOK2 : Hid (∀ i, i < j + 1 → okSize (zs.getD i 0)) := fun i hi => by
        by_cases e : i = j
        · subst e
          rw [List.getD_eq_getElem?_getD, List.getElem?_eq_getElem hjz, Option.getD_some]
          exact hok
        · exact HOK.out i (by omega)
      obtain ⟨z, hzz⟩ : ∃ z : Nat, zs[j] = (z : Int) := ⟨zs[j].toNat, by have := hok.1; omega⟩
      rw [hzz] at hc hok
      have hz1' : 1 ≤ z := by have := hok.1; omega
      have hz2' : z ≤ 8192 := by have := hok.2; omega
      have HDJ : Hid ((⟨z, [], 0⟩ : SlotD) = newD zs j) := by
        show _ = _
        unfold newD
        rw [List.getD_eq_getElem?_getD, List.getElem?_eq_getElem hjz, Option.getD_some, hzz]
        rfl
      clear hj hd hf hb hok hzz
      go_wp2_with fail
      refine (new_img z wr hz1' hz2').mono ?_
      rintro e w1 ⟨g, rfl, hi, hg, hb1⟩
      obtain ⟨A3, c3, q0, hc3, hc4, _⟩ := (HD.out.below hb1).cells
      obtain ⟨A4, c4, k1, k2, k3⟩ := (HD.out.below hb1).row
      have hdf : w1.frozen? ⟨w.heap.size, 0, none⟩ = false := k1.frozen 0
      have e4 : A4 = A3 ∧ c4 = c3 := by
        have := k1.cell 0
        rw [q0] at this
        simpa using this.symm
      obtain ⟨rfl, rfl⟩ := e4
      have HI := Lib.hid hi
      have HG := Lib.hid hg
      have HB1 := Lib.hid hb1
      have HK2 := Lib.hid k2
      have HK3 := Lib.hid k3
      have hlt0 : w.heap.size < w1.heap.size := by have := HD.out.lt w.heap.size (.inl rfl); have := hb1.size; omega
      unfold maxLen at hc4
      clear hi hg hb1 k1 k2 k3
      go_wp2_with (at_builtin
                   refine wpList_append_any _ rfl (.tmp 36) (.tmp 38) _ rfl 0 71 i0 _ 1 8 Try.underlying62 hi0 hz0 hz1 hz2 rfl (by omega) _ j (ptrsTo lay j) rfl
                     (HK2.out.alloc _) (w1.heap.size + 1) _ 1 1 [.pointer (some ⟨g, 0, none⟩)] rfl (reads_news w1 71 #[.pointer (some ⟨g, 0, none⟩)] (0, 0) 1 rfl) (one_ptr _) (by simp only [maxLen]; omega) (by omega) (Nat.zero_le _) ?_
                   intro v1 w4 hown1 hg1 hat1
                   obtain ⟨A5, c5, rfl, hA5, hc5, hr5⟩ := own_slice hown1
                   have hbs : Below wr.heap.size wr (w1.alloc (.cells #[.pointer (some ⟨g, 0, none⟩)] 71)) := HB1.out.alloc HB1.out.size _
                   have hpu := HD.out.push hbs (x := ⟨z, [], 0⟩) (HI.out.chg (F := fun _ => False) (Chg.of_below ((Below.refl _ _).alloc (Nat.le_refl _) _)) (fun _ _ h => h)) (fun k hk => by
                     rcases hk with rfl | hk
                     · exact HG.out
                     · cases hk) hown1 (by rw [HK3.out]; exact hg1) (by rw [HK3.out]; exact hat1)
                   have HPU := Lib.hid hpu
                   have hcw : w4.cell? ⟨w.heap.size, 0, none⟩ = some (.slice A4 j c4) := by
                     rw [World.cell?_of_block (hg1.block w.heap.size (by simp; omega) (fun e => HD.out.ne (HK3.out.trans e.symm)))]
                     rw [World.cell?_alloc_lt _ _ _ (by exact hlt0)]
                     exact q0
                   have hfw : w4.frozen? ⟨w.heap.size, 0, none⟩ = false := by
                     rw [World.frozen?_of_block (hg1.block w.heap.size (by simp; omega) (fun e => HD.out.ne (HK3.out.trans e.symm)))]
                     rw [World.frozen?_of_block (Below.heap_alloc _ _ _ (by exact hlt0))]
                     exact hdf
                   clear hown1 hg1 hat1 hr5 hbs hpu)
      go_roundg (gk - 1)
      case measure => have := HJ.out; omega
      case rel =>
        obtain ⟨p1, p2, p3⟩ := HPU.out
        rw [updF_at _ _ _ HDJ.out] at p1
        refine ⟨j + 1, _, _, by have := HJ.out; omega, by go_num, HOK2.out, p1, fun k hk => ?_, HB.out.trans (p2.below HB.out.size HF.out)⟩
        rcases p3 k hk with e | e
        · exact HF.out k e
        · have := HB.out.size; omega
    · have e8 : j = n := by omega
      subst e8
      clear hj hd hf hb
      go_wp2_with fail
      go_ret2
      refine .inl ⟨fun z hz => ?_, _, rb, lay, rfl, HD.out, HF.out, HB.out⟩
      obtain ⟨i, hi, rfl⟩ := List.getElem_of_mem hz
      have := HOK.out i (by rw [← HL.out]; exact hi)
      rwa [List.getD_eq_getElem?_getD, List.getElem?_eq_getElem hi, Option.getD_some] at this
end Go.Proofs.Ytelobbigpgfobaa
