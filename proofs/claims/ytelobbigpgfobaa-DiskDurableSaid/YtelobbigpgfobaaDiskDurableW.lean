/-
  The walk of the law DiskDurable: it returns true and writes nothing that was there. No condition.
-/
import Derived.Test.YtelobbigpgfobaaKturns
import Derived.Test.YtelobbigpgfobaaDshow
import Derived.Test.YtelobbigpgfobaaDisk9
namespace Go.Proofs.Ytelobbigpgfobaa
open Go.RowKit
set_option linter.unusedVariables false
/-- Two copies d1, d2 (showing D1, D2) beside the disk and what is known of it. -/
def TwoSep (B : Nat) (w0 w : World) (d1 d2 : Nat) (rb : Option Nat) (lay : Lay) (S : Nat → Prop) (k gb gd d size n : Nat) (D D1 D2 : Nat → SlotD) : Prop :=
  ∃ rb1 lay1 rb2 lay2, Sep B w0 w [diskOb d1 rb1 n lay1 D1, diskOb d2 rb2 n lay2 D2, diskOb d rb n lay D, knownOb S k gb gd d size n D]
section
variable {B : Nat} {w0 w w' : World} {d1 d2 d : Nat} {rb : Option Nat} {lay : Lay} {S : Nat → Prop} {k gb gd size n : Nat} {D D1 D2 : Nat → SlotD}
theorem TwoSep.flip (h : TwoSep B w0 w d1 d2 rb lay S k gb gd d size n D D1 D2) : TwoSep B w0 w d2 d1 rb lay S k gb gd d size n D D2 D1 := by
  obtain ⟨rb1, lay1, rb2, lay2, h⟩ := h
  exact ⟨rb2, lay2, rb1, lay1, h.perm (List.Perm.swap _ _ _)⟩
theorem TwoSep.below (h : TwoSep B w0 w d1 d2 rb lay S k gb gd d size n D D1 D2) (hb : Below w.heap.size w w') : TwoSep B w0 w' d1 d2 rb lay S k gb gd d size n D D1 D2 := by
  obtain ⟨rb1, lay1, rb2, lay2, h⟩ := h
  exact ⟨rb1, lay1, rb2, lay2, h.below hb⟩
/-- d1 crashes, and keeps z bytes. -/
theorem TwoSep.crash (h : TwoSep B w0 w d1 d2 rb lay S k gb gd d size n D D1 D2) (hn : 0 < n) (hm34 : n ≤ 65536) (z : Int) (hz : 0 ≤ z ∧ z ≤ 9223372036854775807) :
    Calls Try.prog 22 #[.pointer (some ⟨d1, 0, none⟩), .slice (some ⟨w.heap.size, 0, none⟩) 1 1] (w.alloc (.cells #[.int .i64 z] 3)) fun e w' => e = .returned (.int .i64 0) ∧ TwoSep B w0 w' d1 d2 rb lay S k gb gd d size n D (crashD [z] D1) D2 := by
  obtain ⟨rb1, lay1, rb2, lay2, h⟩ := h
  have h2 : Sep B w0 (w.alloc (.cells #[.int .i64 z] 3)) (diskOb d1 rb1 n lay1 D1 :: [blkOb w.heap.size 3 #[.int .i64 z], diskOb d2 rb2 n lay2 D2, diskOb d rb n lay D, knownOb S k gb gd d size n D]) := (h.newBlk w.heap.size _ _ rfl).perm (List.Perm.swap _ _ _)
  refine (sep_crashdisk h2 ?_ hn hm34 _ 1 1 [z] (fun X D' hX => ?_) (by omega) (by omega) (fun y hy => ?_)).mono ?_
  · refine AllCells.cons (fun w h q hq => ?_) (AllCells.cons (cellOb_disk _ _ _ _ _) (AllCells.cons (cellOb_disk _ _ _ _ _) (AllCells.cons (cellOb_known _ _ _ _ _ _ _ _) AllCells.nil)))
    have hq' : q = _ := hq
    rw [hq']
    exact ⟨_, h, rfl⟩
  · have hb : Blk X w.heap.size 3 #[.int .i64 z] := hX.get (.tail _ (.head _))
    refine ⟨rfl, fun _ => ⟨_, rfl, hb.lt, fun q u hu => ?_⟩⟩
    rw [add_zero_addr, hb.cell]
    rcases q with _ | q
    · exact hu
    · simp [ints] at hu
  · rw [List.mem_singleton.1 hy]; exact hz
  · rintro e w' ⟨he, hw⟩
    exact ⟨he, rb1, lay1, rb2, lay2, hw.sub ((List.sublist_cons_self _ _).cons_cons _)⟩
end
/-- A crash that keeps nothing, and one that keeps all. -/
theorem crash_two (D : Nat → SlotD) (i : Nat) (h : (D i).dur ≤ (D i).bytes.length) (h2 : (D i).bytes.length ≤ 8192) :
    (crashD [0] D i).bytes = (D i).bytes.take (D i).dur ∧ (crashD [0] D i).dur = (D i).dur ∧ (crashD [4611686018427387904] D i).bytes = (D i).bytes ∧ (crashD [4611686018427387904] D i).dur = (D i).bytes.length := by
  have k0 : keepAt [0] i = 0 := by simp [keepAt, Nat.mod_one]
  have k1 : keepAt [4611686018427387904] i = 4611686018427387904 := by simp [keepAt, Nat.mod_one]
  have n0 : crashN 0 (D i) = (D i).dur := by unfold crashN; omega
  have n1 : crashN 4611686018427387904 (D i) = (D i).bytes.length := by unfold crashN; omega
  unfold crashD
  rw [k0, k1]
  unfold crashS
  rw [n0, n1]
  exact ⟨rfl, rfl, List.take_length, rfl⟩
theorem Reads.takeN {w : World} {B n : Nat} {A : Option Addr} {l : List (BitVec 8)} (h : Reads w B 1 A n (u8s l)) {k : Nat} (hk : k ≤ n) : Reads w B 1 A k (u8s (l.take k)) := by
  have hl : l.length = n := by have := h.1; rw [u8s_length] at this; omega
  refine ⟨by rw [u8s_length, List.length_take]; omega, fun h0 => ?_⟩
  obtain ⟨ad, e, hb, hc⟩ := h.2 (by omega)
  refine ⟨ad, e, hb, fun j u hu => hc j u ?_⟩
  have hj : j < k := by
    have := (List.getElem?_eq_some_iff.1 hu).1
    rw [u8s_length, List.length_take] at this
    omega
  rw [← hu]
  simp only [u8s, List.getElem?_map, List.getElem?_take, hj, if_true]
set_option maxRecDepth 100000 in
set_option maxHeartbeats 16000000 in
theorem DiskDurable_w (a b : BitVec 8) (A : Option Addr) (m c : Nat) (ts : Nat → Turn4) (w : World) (hr : TurnsAt w w.heap.size A m ts) (hn : m ≤ c) (hc : c ≤ maxLen) :
    Calls Try.prog 8 #[.int .u8 (n8 a), .int .u8 (n8 b), .slice A m c] w fun e w' => e = .returned (.bool true) ∧ Below w.heap.size w w' := by
  have HR := Lib.hid hr
  unfold maxLen at hc
  clear hr
  by_cases hm : 80 < m
  · go_enter Try.func8, Try.ntmps8
    go_wp2_with fail
    refine (works_any _).mono ?_
    rintro e w9 ⟨rfl, hb⟩
    have HB := Lib.hid hb
    clear hb
    go_wp2_with fail
    go_ret
    exact ⟨rfl, HB.out⟩
  go_enter Try.func8, Try.ntmps8
  go_wp2_with fail
  refine (begin_any (Sep.start w) a b).mono ?_
  rintro e w1 ⟨k, gb, gd, d, rb, lay, S, rfl, hs⟩
  have hn0 : 0 < a.toNat % 8 + 1 := by omega
  have hn8 : a.toNat % 8 + 1 ≤ 65536 := by omega
  generalize a.toNat % 8 + 1 = n at hs hn0 hn8
  generalize b.toNat % 40 + 1 = size at hs
  generalize (fun _ => (⟨size, [], 0⟩ : SlotD)) = D at hs
  have HS1 := Lib.hid hs
  have HCC : Hid (AllCells []) := fun o ho => by cases ho
  clear hs
  go_wp2_with fail
  go_loopg [8] m (fun q v8 wr => ∃ (j : Nat) (lay : Lay) (S : Nat → Prop) (D : Nat → SlotD), j + q = m ∧ v8 = .int .i64 j ∧ KSep w.heap.size w wr d rb lay S k gb gd size n D [])
  case atStart => exact ⟨0, lay, S, D, by omega, rfl, HS1.out⟩
  case round =>
    obtain ⟨j, lay, S, D, hj, rfl, hs⟩ := hrel
    have HJ := Lib.hid hj
    have hj' : j ≤ m := by omega
    have HS := Lib.hid hs
    by_cases hlt : j < m
    · obtain ⟨ad, ht⟩ := HR.out.below hs.bel j hlt
      obtain rfl := ht.a
      have c0 := ht.c0
      have c1 := ht.c1
      have c2 := ht.c2
      have c3 := ht.c3
      clear hj hs ht
      go_wp2_with fail
      refine (turn_any HS.out hn0 hn8 HCC.out _ _ _ _).mono ?_
      rintro e w3 ⟨rfl, lay3, S3, hs⟩
      have HS3 := Lib.hid hs
      clear hs c0 c1 c2 c3
      go_wp2_with fail
      go_roundg (gk - 1)
      case measure => have := HJ.out; omega
      case rel => exact ⟨j + 1, _, _, _, by have := HJ.out; omega, by go_num, HS3.out⟩
    · have hkl : ∀ X os', Sep w.heap.size w X os' → knownOb S k gb gd d size n D ∈ os' → X.cell? ⟨k, 0, none⟩ = some (.pointer (some ⟨d, 0, none⟩)) := fun X os' h hm => IsKnown.cells (h.get hm) |>.1
      have hdk : ∀ X os', Sep w.heap.size w X os' → diskOb d rb n lay D ∈ os' → IsDisk X d rb n lay D := fun X os' h hm => h.get hm
      obtain ⟨STA, hA⟩ : ∃ STA : World → Prop, STA = fun X => Sep w.heap.size w X [diskOb d rb n lay D, knownOb S k gb gd d size n D] := ⟨_, rfl⟩
      obtain ⟨STB, hB⟩ : ∃ STB : Nat → World → Prop, STB = fun d1 X => ∃ rb1 lay1, Sep w.heap.size w X [diskOb d1 rb1 n lay1 D, diskOb d rb n lay D, knownOb S k gb gd d size n D] := ⟨_, rfl⟩
      obtain ⟨STC, hC⟩ : ∃ STC : Nat → Nat → World → Prop, STC = fun d1 d2 X => ∃ rb1 lay1 rb2 lay2, Sep w.heap.size w X [diskOb d2 rb2 n lay2 D, diskOb d1 rb1 n lay1 D, diskOb d rb n lay D, knownOb S k gb gd d size n D] := ⟨_, rfl⟩
      have CA : Hid (∀ X, STA X → Calls Try.prog 29 #[.pointer (some ⟨d, 0, none⟩)] X fun e X' => ∃ d1, e = .returned (.pointer (some ⟨d1, 0, none⟩)) ∧ X'.cell? ⟨k, 0, none⟩ = some (.pointer (some ⟨d, 0, none⟩)) ∧ STB d1 X') := fun X hX => by
        rw [hA] at hX
        refine (sep_dcopy hX (hdk X _ hX (.head _)) hn0 hn8).mono ?_
        rintro e X' ⟨d1, rb1, lay1, h1, h2⟩
        exact ⟨d1, h1, hkl X' _ h2 (.tail _ (.tail _ (.head _))), by rw [hB]; exact ⟨rb1, lay1, h2⟩⟩
      have CB : Hid (∀ d1 X, STB d1 X → Calls Try.prog 29 #[.pointer (some ⟨d, 0, none⟩)] X fun e X' => ∃ d2, e = .returned (.pointer (some ⟨d2, 0, none⟩)) ∧ X'.cell? ⟨k, 0, none⟩ = some (.pointer (some ⟨d, 0, none⟩)) ∧ STC d1 d2 X') := fun d1 X hX => by
        rw [hB] at hX
        obtain ⟨rb1, lay1, hX⟩ := hX
        refine (sep_dcopy hX (hdk X _ hX (.tail _ (.head _))) hn0 hn8).mono ?_
        rintro e X' ⟨d2, rb2, lay2, h1, h2⟩
        exact ⟨d2, h1, hkl X' _ h2 (.tail _ (.tail _ (.tail _ (.head _)))), by rw [hC]; exact ⟨rb1, lay1, rb2, lay2, h2⟩⟩
      have sta0 : STA wr.drew := by rw [hA]; exact HS.out.drew
      have k0 := hkl wr _ HS.out (.tail _ (.head _))
      have HC := Lib.hid hC
      clear hA hB hC hj hs hkl hdk
      go_wp2_with fail
      go_region_held3 (fun X' => X'.cell? ⟨k, 0, none⟩ = some (.pointer (some ⟨d, 0, none⟩))) (first | assumption | go_keep)
        (first
          | (go_at_call 29; refine (CA.out _ (by assumption)).mono ?_; rintro e x4 ⟨d4, rfl, k4, stb⟩)
          | (go_at_call 29; refine (CB.out _ _ (by assumption)).mono ?_; rintro e x5 ⟨d5, rfl, k5, stc⟩))
      all_goals
        have hz := (by assumption : STC _ _ _)
        rw [HC.out] at hz
        obtain ⟨rb1, lay1, rb2, lay2, hz⟩ := hz
        have z1 : TwoSep w.heap.size w _ _ _ rb lay S k gb gd d size n D D D := ⟨rb2, lay2, rb1, lay1, hz⟩
        have z2 := z1.flip
        have Z1 := Lib.hid z1
        have Z2 := Lib.hid z2
        clear hz z1 z2 CA CB HC
        go_wp2_with fail
        first
          | refine (Z2.out.crash hn0 hn8 0 (by omega)).mono ?_
          | refine (Z1.out.crash hn0 hn8 0 (by omega)).mono ?_
        rintro e x6 ⟨rfl, hs⟩
        have Z3 := Lib.hid hs.flip
        clear hs
        go_wp2_with fail
        refine (Z3.out.crash hn0 hn8 4611686018427387904 (by omega)).mono ?_
        obtain ⟨DA, hDA⟩ : ∃ DA, DA = crashD [4611686018427387904] D := ⟨_, rfl⟩
        obtain ⟨DN, hDN⟩ : ∃ DN, DN = crashD [0] D := ⟨_, rfl⟩
        rw [← hDA, ← hDN]
        have HDA := Lib.hid hDA
        have HDN := Lib.hid hDN
        rintro e x7 ⟨rfl, hs⟩
        clear hDA hDN
        obtain ⟨rb1, lay1, rb2, lay2, hz⟩ := hs
        have HA : Hid (∀ W, Below x7.heap.size x7 W → IsDisk W _ rb1 n lay1 DA) := fun W hW => (show IsDisk x7 _ rb1 n lay1 DA from hz.get (.head _)).below hW
        have HN : Hid (∀ W, Below x7.heap.size x7 W → IsDisk W _ rb2 n lay2 DN) := fun W hW => (show IsDisk x7 _ rb2 n lay2 DN from hz.get (.tail _ (.head _))).below hW
        have HD : Hid (∀ W, Below x7.heap.size x7 W → IsDisk W d rb n lay D) := fun W hW => (show IsDisk x7 d rb n lay D from hz.get (.tail _ (.tail _ (.head _)))).below hW
        have HK : Hid (∀ W, Below x7.heap.size x7 W → IsKnown W S k gb gd d size n D) := fun W hW => (show IsKnown x7 S k gb gd d size n D from hz.get (.tail _ (.tail _ (.tail _ (.head _))))).below hW
        have HBW := Lib.hid hz.bel
        have HBG := Lib.hid hz.big
        clear hz
        obtain ⟨HW, HWA, HWN, HWD⟩ : Hid (∀ i, i < n → (DN i).bytes = (D i).bytes.take (D i).dur ∧ (DN i).dur = (D i).dur ∧ (DA i).bytes = (D i).bytes ∧ (DA i).dur = (D i).bytes.length) ∧ True ∧ True ∧ True := ⟨fun i hi => by
            obtain ⟨x1, x2, x3⟩ := (HK.out x7 (Below.refl _ _)).nums i hi
            have := (HK.out x7 (Below.refl _ _)).sz
            rw [HDN.out, HDA.out]
            exact crash_two _ _ x1 (by omega), trivial, trivial, trivial⟩
        clear HWA HWN HWD
        go_wp2_with fail
        go_loopg [11] n (fun q v11 wr' => ∃ (j' : Nat), j' + q = n ∧ v11 = .int .i64 j' ∧ Below x7.heap.size x7 wr')
        case atStart => exact ⟨0, by omega, rfl, Below.refl _ _⟩
        case round =>
          obtain ⟨j', hj', rfl, hb⟩ := hrel
          have HJ' := Lib.hid hj'
          have hjn : j' ≤ n := by omega
          have HB2 := Lib.hid hb
          obtain ⟨k0, k1, k2, k3⟩ := (HK.out _ hb).cells
          by_cases hlt : j' < n
          · obtain ⟨g1, g2, g3, g4⟩ := HW.out j' hlt
            obtain ⟨y1, y2, y3⟩ := (HK.out _ hb).nums j' hlt
            have y4 := (HK.out _ hb).sz
            have y5 : (DN j').bytes.length = (D j').dur := by rw [g1, List.length_take]; omega
            have y6 : (DA j').bytes.length = (D j').bytes.length := by rw [g3]
            have G1 := Lib.hid g1
            have G3 := Lib.hid g3
            have y2' : (D j').bytes.length ≤ 8192 := by omega
            clear hj' hb g1 g3 y2 y3 y4
            go_wp2_with fail
            clear k0 k1 k2 k3
            refine (disk_len (HN.out _ HB2.out) hn0 j' hlt).mono ?_
            rintro e w3 ⟨rfl, hb⟩
            have HB3 := Lib.hid (bt HB2.out hb)
            clear hb
            rw [y5]
            go_wp2_with fail
            refine (disk_read_ok (HN.out _ HB3.out) hn0 j' hlt 0 (D j').dur (by omega)).mono ?_
            rintro e w4 ⟨v4, rfl, ho, hb⟩
            rw [List.drop_zero, G1.out, List.take_take, Nat.min_self] at ho
            obtain ⟨A4, c4, rfl, hc4, hr4⟩ := own_reads ho (by omega)
            have HB4 := Lib.hid (bt HB3.out hb)
            have HV4 := Lib.hid hr4
            clear hb ho hr4
            unfold maxLen at hc4
            go_wp2_with fail
            refine (disk_len (HA.out _ HB4.out) hn0 j' hlt).mono ?_
            rintro e w5 ⟨rfl, hb⟩
            have HB5 := Lib.hid (bt HB4.out hb)
            have HV5 := Lib.hid ((HV4.out.below hb).more hb.size)
            clear hb
            rw [y6]
            go_wp2_with fail
            refine (disk_read_ok (HA.out _ HB5.out) hn0 j' hlt 0 (D j').bytes.length (by omega)).mono ?_
            rintro e w6 ⟨v6, rfl, ho, hb⟩
            rw [List.drop_zero, G3.out, List.take_length] at ho
            obtain ⟨A6, c6, rfl, hc6, hr6⟩ := own_reads ho (by omega)
            have HB6 := Lib.hid (bt HB5.out hb)
            have HV6 := Lib.hid ((HV5.out.below hb).more hb.size)
            have HU6 := Lib.hid hr6
            clear hb ho hr6
            unfold maxLen at hc6
            go_wp2_with fail
            refine (disk_durable (HN.out _ HB6.out) hn0 j' hlt).mono ?_
            rintro e w8 ⟨rfl, hb⟩
            have HB8 := Lib.hid (bt HB6.out hb)
            have HV8 := Lib.hid ((HV6.out.below hb).more hb.size)
            have HU8 := Lib.hid ((HU6.out.below hb).more hb.size)
            clear hb
            rw [g2]
            go_wp2_with fail
            refine (disk_durable (HA.out _ HB8.out) hn0 j' hlt).mono ?_
            rintro e w9 ⟨rfl, hb⟩
            have HB9 := Lib.hid (bt HB8.out hb)
            have HV9 := Lib.hid ((HV8.out.below hb).more hb.size)
            have HU9 := Lib.hid ((HU8.out.below hb).more hb.size)
            clear hb
            rw [g4]
            have HK9 := Lib.hid (HK.out _ HB9.out)
            obtain ⟨k0, k1, k2, k3⟩ := HK9.out.cells
            obtain ⟨Bj, cj, e1, e2, e3, e4, e5⟩ := HK9.out.slot j' hlt
            have hce := e5.1
            have hcm := e5.2.1
            unfold maxLen at hcm
            obtain ⟨Z, hZ⟩ : ∃ Z, strOf (D j').bytes = Z := ⟨_, rfl⟩
            obtain ⟨Y, hY⟩ : ∃ Y, strOf ((D j').bytes.take (D j').dur) = Y := ⟨_, rfl⟩
            have s1 : ∀ q, (convert 36 9 (.slice A4 (D j').dur c4)).run Try.prog (w9.drewN q) = .ok (.string Y) (w9.drewN q) := fun q => by
              rw [← hY]; exact str_bytes (HV9.out.drewN q)
            have s2 : ∀ q, (convert 36 9 (.slice Bj (D j').dur cj)).run Try.prog (w9.drewN q) = .ok (.string Y) (w9.drewN q) := fun q => by
              rw [← hY]; exact str_bytes (((e5.reads HK9.out.cel.lt).takeN y1).drewN q)
            have s3 : ∀ q, (convert 36 9 (.slice A6 (D j').bytes.length c6)).run Try.prog (w9.drewN q) = .ok (.string Z) (w9.drewN q) := fun q => by
              rw [← hZ]; exact str_bytes (HU9.out.drewN q)
            have s4 : ∀ q, (convert 36 9 (.slice Bj (D j').bytes.length cj)).run Try.prog (w9.drewN q) = .ok (.string Z) (w9.drewN q) := fun q => by
              rw [← hZ]; exact str_bytes ((e5.reads HK9.out.cel.lt).drewN q)
            obtain ⟨L, hL⟩ : ∃ L, (D j').bytes.length = L := ⟨_, rfl⟩
            obtain ⟨M, hM⟩ : ∃ M, (D j').dur = M := ⟨_, rfl⟩
            rw [hL, hM] at y1
            rw [hL] at s3 s4 e1 hce y2' ⊢
            rw [hM] at s1 s2 e2 ⊢
            clear hZ hY e5 hL hM y5 y6 g2 g4
            go_wp2_with fail
            refine wp_region_quiet_lit (by kernel_rfl) (by kernel_rfl) ?_
            simp only [List.append_eq, List.cons_append, List.nil_append]
            repeat (go_big_quiet_step (fail))
            refine wpQuiet_nil ?_
            intro _ hw'
            obtain ⟨nq, hw''⟩ := hw'
            subst hw''
            have hb : Below w9.heap.size w9 (w9.drewN nq) := bel_drewN' _ _
            have HB10 := Lib.hid (bt HB9.out hb)
            generalize w9.drewN nq = w10 at hb HB10 ⊢
            clear hb s1 s2 s3 s4 e1 e2 e3 e4 k0 k1 k2 k3
            go_wp2_with fail
            go_roundg (gk - 1)
            case measure => have := HJ'.out; omega
            case rel => exact ⟨j' + 1, by have := HJ'.out; omega, by go_num, HB10.out⟩
          · have e8 : j' = n := by omega
            subst e8
            have HKK := Lib.hid (HK.out _ hb)
            have HDD := Lib.hid (HD.out _ hb)
            clear hj' hb
            go_wp2_with fail
            refine (agrees_any HDD.out HKK.out hn0 hn8).mono ?_
            rintro e w3 ⟨rfl, hb⟩
            have HB3 := Lib.hid (bt HB2.out hb)
            clear hb
            go_wp2_with fail
            refine (works_any _).mono ?_
            rintro e w4 ⟨rfl, hb⟩
            have HB4 := Lib.hid (bt HB3.out hb)
            clear hb
            go_wp2_with fail
            go_ret
            exact ⟨by simp, HBW.out.trans (HB4.out.mono HBG.out)⟩
theorem DiskDurable_walk (v0 v1 v2 : Value) (w : World) (h0 : ArgIn Try.prog w 5 v0) (h1 : ArgIn Try.prog w 5 v1) (h2 : ArgIn Try.prog w 22 v2) :
    Calls Try.prog 8 #[v0, v1, v2] w fun e w' => e = .returned (.bool true) ∧ Below w.heap.size w w' := by
  obtain ⟨m0, rfl, e0⟩ := h0.int (k := .u8) Try.underlying5
  obtain ⟨m1, rfl, e1⟩ := h1.int (k := .u8) Try.underlying5
  obtain ⟨b0, rfl⟩ := u8_of_wf e0
  obtain ⟨b1, rfl⟩ := u8_of_wf e1
  obtain ⟨A, n, c, ts, rfl, k1, k2, k3⟩ := turns_arg h2
  exact DiskDurable_w b0 b1 A n c ts w k3 k1 k2
end Go.Proofs.Ytelobbigpgfobaa
