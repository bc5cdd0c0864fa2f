/-
  The walks of the disk laws' alike and whole: a disk and the document's that hold the same show the same. Conditions: both are as New makes them.
-/
import Derived.Test.YtelobbigpgfobaaRdisk7
import Derived.Test.YtelobbigpgfobaaUsed
namespace Go.Proofs.Ytelobbigpgfobaa
open Go.RowKit
set_option linter.unusedVariables false
theorem bel_drewN' (w : World) (q : Nat) : Below w.heap.size w (w.drewN q) := ⟨rfl, rfl, rfl, Nat.le_refl _, fun _ _ => rfl⟩
section
variable {w w' : World} {S : Nat → Prop} {d g n : Nat} {D : Nat → SlotD} {rb : Option Nat} {lay : Lay}
theorem disk_read_ok (h : IsDisk w d rb n lay D) (hn : 0 < n) (i : Nat) (hi : i < n) (a b : Nat) (hab : a + b ≤ (D i).bytes.length) :
    Calls Try.prog 14 #[.pointer (some ⟨d, 0, none⟩), .int .i64 (i : Int), .int .i64 (a : Int), .int .i64 (b : Int)] w fun e w' => ∃ v, e = .returned (.tuple #[v, .int .i64 0]) ∧ w'.ownsRow w.heap.size 5 1 v b (u8s (((D i).bytes.drop a).take b)) ∧ Below w.heap.size w w' := by
  refine (disk_read h hn i a b).mono ?_
  rintro e w' ⟨v, r, rfl, hq, hb⟩
  rcases hq with ⟨s, a', b', h1, h2, h3, h4, h5, rfl, h6⟩ | ⟨s, h1, h2, h3, _⟩ | ⟨h1, _⟩
  · have e1 : i = s := by omega
    have e2 : a = a' := by omega
    have e3 : b = b' := by omega
    subst e1 e2 e3
    exact ⟨v, rfl, h6, hb⟩
  · have e1 : i = s := by omega
    subst e1
    unfold badRead at h3
    omega
  · omega
theorem disk_read_bad (h : IsDisk w d rb n lay D) (hn : 0 < n) (i : Nat) (hi : i < n) (off m : Int) (hbad : badRead (D i).bytes.length off m) :
    Calls Try.prog 14 #[.pointer (some ⟨d, 0, none⟩), .int .i64 (i : Int), .int .i64 off, .int .i64 m] w fun e w' => e = .returned (.tuple #[.slice none 0 0, .int .i64 3]) ∧ Below w.heap.size w w' := by
  refine (disk_read h hn i off m).mono ?_
  rintro e w' ⟨v, r, rfl, hq, hb⟩
  rcases hq with ⟨s, a', b', h1, h2, h3, h4, h5, rfl, h6⟩ | ⟨s, h1, h2, h3, rfl, rfl⟩ | ⟨h1, _⟩
  · have e1 : i = s := by omega
    subst e1
    unfold badRead at hbad
    omega
  · exact ⟨rfl, hb⟩
  · omega
theorem disk_read_range (h : IsDisk w d rb n lay D) (hn : 0 < n) (i : Int) (hi : i < 0 ∨ (n : Int) ≤ i) (off m : Int) :
    Calls Try.prog 14 #[.pointer (some ⟨d, 0, none⟩), .int .i64 i, .int .i64 off, .int .i64 m] w fun e w' => e = .returned (.tuple #[.slice none 0 0, .int .i64 3]) ∧ Below w.heap.size w w' := by
  refine (disk_read h hn i off m).mono ?_
  rintro e w' ⟨v, r, rfl, hq, hb⟩
  rcases hq with ⟨s, a', b', h1, h2, h3, h4, h5, rfl, h6⟩ | ⟨s, h1, h2, h3, rfl, rfl⟩ | ⟨h1, rfl, rfl⟩
  · omega
  · omega
  · exact ⟨rfl, hb⟩
theorem own_reads {base k : Nat} {v : Value} {l : List (BitVec 8)} (h : w.ownsRow base 5 1 v k (u8s l)) (hk : k ≤ 1000000) : ∃ A c, v = .slice A k c ∧ c ≤ maxLen ∧ Reads w w.heap.size 1 A k (u8s l) := by
  obtain ⟨A, c, h1, _, h2, h3⟩ := own_slice h
  exact ⟨A, c, h1, h2, h3⟩
set_option maxRecDepth 100000 in
set_option maxHeartbeats 4000000 in
theorem alike_any (h : IsDisk w d rb n lay D) (r : IsR w S g n D) (hn : 0 < n) (hm34 : n ≤ 65536) (i off m : Int) :
    Calls Try.prog 31 #[.pointer (some ⟨d, 0, none⟩), .pointer (some ⟨g, 0, none⟩), .int .i64 i, .int .i64 off, .int .i64 m] w fun e w' => e = .returned (.bool true) ∧ Below w.heap.size w w' := by
  have HD := Lib.hid h
  have HR := Lib.hid r
  clear h r
  by_cases hin : i < 0 ∨ (n : Int) ≤ i
  · have HI := Lib.hid hin
    clear hin
    go_enter Try.func31, Try.ntmps31
    go_wp2_with fail
    refine (disk_len_range HD.out hn i HI.out).mono ?_
    rintro e w1 ⟨rfl, hb⟩
    have HD1 := Lib.hid (HD.out.below hb)
    have HR1 := Lib.hid (HR.out.below hb)
    have HB1 := Lib.hid (hb)
    clear hb
    go_wp2_with fail
    refine (rlen_range HR1.out hn i HI.out).mono ?_
    rintro e wx ⟨rfl, rfl⟩
    go_wp2_with fail
    refine (disk_durable_range HD1.out hn i HI.out).mono ?_
    rintro e w2 ⟨rfl, hb⟩
    have HD2 := Lib.hid (HD1.out.below hb)
    have HR2 := Lib.hid (HR1.out.below hb)
    have HB2 := Lib.hid (bt HB1.out hb)
    clear hb
    go_wp2_with fail
    refine (rdurable_range HR2.out hn i HI.out).mono ?_
    rintro e wx ⟨rfl, rfl⟩
    go_wp2_with fail
    refine (disk_room_range HD2.out hn i HI.out).mono ?_
    rintro e w3 ⟨rfl, hb⟩
    have HD3 := Lib.hid (HD2.out.below hb)
    have HR3 := Lib.hid (HR2.out.below hb)
    have HB3 := Lib.hid (bt HB2.out hb)
    clear hb
    go_wp2_with fail
    refine (rroom_range HR3.out hn i HI.out).mono ?_
    rintro e wx ⟨rfl, rfl⟩
    go_wp2_with fail
    refine (disk_read_range HD3.out hn i HI.out off m).mono ?_
    rintro e w4 ⟨rfl, hb⟩
    have HD4 := Lib.hid (HD3.out.below hb)
    have HR4 := Lib.hid (HR3.out.below hb)
    have HB4 := Lib.hid (bt HB3.out hb)
    clear hb
    go_wp2_with fail
    refine (rread_range HR4.out hn i HI.out off m).mono ?_
    rintro e wx ⟨rfl, rfl⟩
    go_wp2_with fail
    refine (rsame none none 0 0 0 [] _ (by omega) ⟨rfl, fun h => absurd h (by omega)⟩ ⟨rfl, fun h => absurd h (by omega)⟩).mono ?_
    rintro e wx ⟨rfl, q9, rfl⟩
    have hb : Below w4.heap.size w4 (w4.drewN q9) := bel_drewN' _ _
    generalize w4.drewN q9 = w5 at hb
    have HD5 := Lib.hid (HD4.out.below hb)
    have HR5 := Lib.hid (HR4.out.below hb)
    have HB5 := Lib.hid (bt HB4.out hb)
    clear hb
    go_wp2_with fail
    refine (slots_disk HD5.out hn).mono ?_
    rintro e wx ⟨rfl, rfl⟩
    go_wp2_with fail
    refine (rslots HR5.out hn).mono ?_
    rintro e wx ⟨rfl, rfl⟩
    go_wp2_with fail
    go_ret
    exact ⟨by simp, HB5.out⟩
  · obtain ⟨s, rfl⟩ : ∃ s : Nat, i = (s : Int) := ⟨i.toNat, by omega⟩
    have hs : s < n := by omega
    obtain ⟨u1, u2, u3, u4⟩ := HD.out.nums hs
    rcases bad_or (D s).bytes.length off m with hbad | ⟨a, b, rfl, rfl, hab⟩
    · have HBAD := Lib.hid hbad
      clear hbad hin
      go_enter Try.func31, Try.ntmps31
      go_wp2_with fail
      refine (disk_len HD.out hn s hs).mono ?_
      rintro e w1 ⟨rfl, hb⟩
      have HD1 := Lib.hid (HD.out.below hb)
      have HR1 := Lib.hid (HR.out.below hb)
      have HB1 := Lib.hid (hb)
      clear hb
      go_wp2_with fail
      refine (rlen HR1.out hn s hs).mono ?_
      rintro e wx ⟨rfl, rfl⟩
      go_wp2_with fail
      refine (disk_durable HD1.out hn s hs).mono ?_
      rintro e w2 ⟨rfl, hb⟩
      have HD2 := Lib.hid (HD1.out.below hb)
      have HR2 := Lib.hid (HR1.out.below hb)
      have HB2 := Lib.hid (bt HB1.out hb)
      clear hb
      go_wp2_with fail
      refine (rdurable HR2.out hn s hs).mono ?_
      rintro e wx ⟨rfl, rfl⟩
      go_wp2_with fail
      refine (disk_room HD2.out hn s hs).mono ?_
      rintro e w3 ⟨rfl, hb⟩
      have HD3 := Lib.hid (HD2.out.below hb)
      have HR3 := Lib.hid (HR2.out.below hb)
      have HB3 := Lib.hid (bt HB2.out hb)
      clear hb
      go_wp2_with fail
      refine (rroom HR3.out hn s hs).mono ?_
      rintro e wx ⟨rfl, q, rfl⟩
      have hb : Below w3.heap.size w3 (w3.drewN q) := bel_drewN' _ _
      generalize w3.drewN q = w4 at hb
      have HD4 := Lib.hid (HD3.out.below hb)
      have HR4 := Lib.hid (HR3.out.below hb)
      have HB4 := Lib.hid (bt HB3.out hb)
      clear hb
      go_wp2_with fail
      refine (disk_read_bad HD4.out hn s hs off m HBAD.out).mono ?_
      rintro e w5 ⟨rfl, hb⟩
      have HD5 := Lib.hid (HD4.out.below hb)
      have HR5 := Lib.hid (HR4.out.below hb)
      have HB5 := Lib.hid (bt HB4.out hb)
      clear hb
      go_wp2_with fail
      refine (rread_bad HR5.out hn s hs off m HBAD.out).mono ?_
      rintro e wx ⟨rfl, rfl⟩
      go_wp2_with fail
      refine (rsame none none 0 0 0 [] _ (by omega) ⟨rfl, fun h => absurd h (by omega)⟩ ⟨rfl, fun h => absurd h (by omega)⟩).mono ?_
      rintro e wx ⟨rfl, q9, rfl⟩
      have hb : Below w5.heap.size w5 (w5.drewN q9) := bel_drewN' _ _
      generalize w5.drewN q9 = w6 at hb
      have HD6 := Lib.hid (HD5.out.below hb)
      have HR6 := Lib.hid (HR5.out.below hb)
      have HB6 := Lib.hid (bt HB5.out hb)
      clear hb
      go_wp2_with fail
      refine (slots_disk HD6.out hn).mono ?_
      rintro e wx ⟨rfl, rfl⟩
      go_wp2_with fail
      refine (rslots HR6.out hn).mono ?_
      rintro e wx ⟨rfl, rfl⟩
      go_wp2_with fail
      go_ret
      exact ⟨by simp, HB6.out⟩
    · clear hin
      go_enter Try.func31, Try.ntmps31
      go_wp2_with fail
      refine (disk_len HD.out hn s hs).mono ?_
      rintro e w1 ⟨rfl, hb⟩
      have HD1 := Lib.hid (HD.out.below hb)
      have HR1 := Lib.hid (HR.out.below hb)
      have HB1 := Lib.hid (hb)
      clear hb
      go_wp2_with fail
      refine (rlen HR1.out hn s hs).mono ?_
      rintro e wx ⟨rfl, rfl⟩
      go_wp2_with fail
      refine (disk_durable HD1.out hn s hs).mono ?_
      rintro e w2 ⟨rfl, hb⟩
      have HD2 := Lib.hid (HD1.out.below hb)
      have HR2 := Lib.hid (HR1.out.below hb)
      have HB2 := Lib.hid (bt HB1.out hb)
      clear hb
      go_wp2_with fail
      refine (rdurable HR2.out hn s hs).mono ?_
      rintro e wx ⟨rfl, rfl⟩
      go_wp2_with fail
      refine (disk_room HD2.out hn s hs).mono ?_
      rintro e w3 ⟨rfl, hb⟩
      have HD3 := Lib.hid (HD2.out.below hb)
      have HR3 := Lib.hid (HR2.out.below hb)
      have HB3 := Lib.hid (bt HB2.out hb)
      clear hb
      go_wp2_with fail
      refine (rroom HR3.out hn s hs).mono ?_
      rintro e wx ⟨rfl, q, rfl⟩
      have hb : Below w3.heap.size w3 (w3.drewN q) := bel_drewN' _ _
      generalize w3.drewN q = w4 at hb
      have HD4 := Lib.hid (HD3.out.below hb)
      have HR4 := Lib.hid (HR3.out.below hb)
      have HB4 := Lib.hid (bt HB3.out hb)
      clear hb
      go_wp2_with fail
      refine (disk_read_ok HD4.out hn s hs a b hab).mono ?_
      rintro e w5 ⟨v1, rfl, ho, hb⟩
      obtain ⟨A1, c1, rfl, hc1, hr1⟩ := own_reads ho (by omega)
      have HV1 := Lib.hid hr1
      clear ho hr1
      have HD5 := Lib.hid (HD4.out.below hb)
      have HR5 := Lib.hid (HR4.out.below hb)
      have HB5 := Lib.hid (bt HB4.out hb)
      clear hb
      go_wp2_with fail
      refine (rread HR5.out hn s hs a b hab).mono ?_
      rintro e w6 ⟨v2, rfl, ho, hb⟩
      obtain ⟨A2, c2, rfl, hc2, hr2⟩ := own_reads ho (by omega)
      have HV2 := Lib.hid hr2
      have HV1b := Lib.hid ((HV1.out.below hb).more hb.size)
      clear ho hr2
      have HD6 := Lib.hid (HD5.out.below hb)
      have HR6 := Lib.hid (HR5.out.below hb)
      have HB6 := Lib.hid (bt HB5.out hb)
      clear hb
      unfold maxLen at hc1 hc2
      go_wp2_with fail
      refine (rsame A1 A2 b c1 c2 _ _ (by omega) HV1b.out HV2.out).mono ?_
      rintro e wx ⟨rfl, q9, rfl⟩
      have hb : Below w6.heap.size w6 (w6.drewN q9) := bel_drewN' _ _
      generalize w6.drewN q9 = w7 at hb
      have HD7 := Lib.hid (HD6.out.below hb)
      have HR7 := Lib.hid (HR6.out.below hb)
      have HB7 := Lib.hid (bt HB6.out hb)
      clear hb
      go_wp2_with fail
      refine (slots_disk HD7.out hn).mono ?_
      rintro e wx ⟨rfl, rfl⟩
      go_wp2_with fail
      refine (rslots HR7.out hn).mono ?_
      rintro e wx ⟨rfl, rfl⟩
      go_wp2_with fail
      go_ret
      exact ⟨by simp, HB7.out⟩
end
end Go.Proofs.Ytelobbigpgfobaa
