/-
  The walk of the law DiskCopies: it returns true and writes nothing that was there. No condition.
-/
import Derived.Test.YtelobbigpgfobaaKturns
namespace Go.Proofs.Ytelobbigpgfobaa
open Go.RowKit
set_option linter.unusedVariables false
/-- Two disks, and what is known of each; both show D. -/
def PSep (B : Nat) (w0 w : World) (d : Nat) (rb : Option Nat) (lay : Lay) (S : Nat → Prop) (k gb gd : Nat) (d2 : Nat) (rb2 : Option Nat) (lay2 : Lay) (S2 : Nat → Prop) (k2 gb2 gd2 : Nat) (size n : Nat) (D D2 : Nat → SlotD) : Prop :=
  KSep B w0 w d rb lay S k gb gd size n D [diskOb d2 rb2 n lay2 D2, knownOb S2 k2 gb2 gd2 d2 size n D2]
section
variable {B : Nat} {w0 w w' : World} {d : Nat} {rb : Option Nat} {lay : Lay} {S : Nat → Prop} {k gb gd : Nat} {d2 : Nat} {rb2 : Option Nat} {lay2 : Lay} {S2 : Nat → Prop} {k2 gb2 gd2 : Nat} {size n : Nat} {D D2 : Nat → SlotD}
theorem PSep.flip (h : PSep B w0 w d rb lay S k gb gd d2 rb2 lay2 S2 k2 gb2 gd2 size n D D2) : PSep B w0 w d2 rb2 lay2 S2 k2 gb2 gd2 d rb lay S k gb gd size n D2 D := by
  unfold PSep at h ⊢
  exact h.perm (List.perm_append_comm (l₁ := [diskOb d rb n lay D, knownOb S k gb gd d size n D]) (l₂ := [diskOb d2 rb2 n lay2 D2, knownOb S2 k2 gb2 gd2 d2 size n D2]))
theorem PSep.below (h : PSep B w0 w d rb lay S k gb gd d2 rb2 lay2 S2 k2 gb2 gd2 size n D D2) (hb : Below w.heap.size w w') : PSep B w0 w' d rb lay S k gb gd d2 rb2 lay2 S2 k2 gb2 gd2 size n D D2 := by
  unfold PSep at h ⊢
  exact Sep.below h hb
theorem PSep.turn (h : PSep B w0 w d rb lay S k gb gd d2 rb2 lay2 S2 k2 gb2 gd2 size n D D2) (hn : 0 < n) (hm34 : n ≤ 65536) (a s b c : BitVec 8) :
    Calls Try.prog 12 #[.pointer (some ⟨k, 0, none⟩), turnV a s b c] w fun e w' => e = .returned (.bool true) ∧ ∃ lay' S', PSep B w0 w' d rb lay' S' k gb gd d2 rb2 lay2 S2 k2 gb2 gd2 size n (turnD n D a s b c) D2 :=
  turn_any h hn hm34 (AllCells.cons (cellOb_disk _ _ _ _ _) (AllCells.cons (cellOb_known _ _ _ _ _ _ _ _) AllCells.nil)) a s b c
/-- c.d has been stored into: the disk of what is known. -/
theorem IsKnown.setDisk (h : IsKnown w S k gb gd d size n D) (d' : Nat) : IsKnown (w.setCell ⟨k, 0, none⟩ (.pointer (some ⟨d', 0, none⟩))) S k gb gd d' size n D := by
  obtain ⟨bs, h1, h2⟩ := h.row
  obtain ⟨e1, e2, e3⟩ := h.ne
  obtain ⟨n1, n2, n3⟩ := h.ns
  have hc : Chg (fun q => q = k) w (w.setCell ⟨k, 0, none⟩ (.pointer (some ⟨d', 0, none⟩))) := (Chg.refl (fun q => q = k) w).setCell (p := ⟨k, 0, none⟩) (.inl rfl) _
  have hS : ∀ q, S q → ¬ q = k := fun q hq e => n1 (by rw [← e]; exact hq)
  exact ⟨h.blk.set_ 0 _, ⟨bs, h1.chg hc (fun e => e1 e.symm), fun i hi => (h2 i hi).chg h.cel.lt hc hS⟩, h.dur.chg hc (fun e => e2 e.symm), h.ne, h.ns, h.cel.chg hc hS, h.nums, h.sz⟩
theorem PSep.setDisk {d3 : Nat} {rb3 : Option Nat} {lay3 : Lay} (h : Sep B w0 w (diskOb d3 rb3 n lay3 D :: diskOb d rb n lay D :: knownOb S k gb gd d size n D :: [diskOb d2 rb2 n lay2 D, knownOb S2 k2 gb2 gd2 d2 size n D])) :
    PSep B w0 (w.setCell ⟨k2, 0, none⟩ (.pointer (some ⟨d3, 0, none⟩))) d3 rb3 lay3 S2 k2 gb2 gd2 d rb lay S k gb gd size n D D := by
  have h1 : Sep B w0 w (knownOb S2 k2 gb2 gd2 d2 size n D :: diskOb d3 rb3 n lay3 D :: [diskOb d rb n lay D, knownOb S k gb gd d size n D]) := by
    refine (h.perm (os' := knownOb S2 k2 gb2 gd2 d2 size n D :: diskOb d3 rb3 n lay3 D :: diskOb d rb n lay D :: knownOb S k gb gd d size n D :: [diskOb d2 rb2 n lay2 D]) ?_).sub ?_
    · exact (List.perm_append_comm (l₁ := [diskOb d3 rb3 n lay3 D, diskOb d rb n lay D, knownOb S k gb gd d size n D, diskOb d2 rb2 n lay2 D]) (l₂ := [knownOb S2 k2 gb2 gd2 d2 size n D]))
    · exact List.sublist_append_left [knownOb S2 k2 gb2 gd2 d2 size n D, diskOb d3 rb3 n lay3 D, diskOb d rb n lay D, knownOb S k gb gd d size n D] [diskOb d2 rb2 n lay2 D]
  have hk : IsKnown w S2 k2 gb2 gd2 d2 size n D := h1.get (.head _)
  unfold PSep
  exact (h1.step (a' := knownOb S2 k2 gb2 gd2 d3 size n D) ((Chg.refl (kfoot S2 k2 gb2 gd2) w).setCell (p := ⟨k2, 0, none⟩) (.inl (.inl rfl)) _) (hk.setDisk d3) (fun q hq => .inl hq)).perm (List.Perm.swap _ _ _)
end
set_option maxRecDepth 100000 in
set_option maxHeartbeats 8000000 in
theorem DiskCopies_w (a b : BitVec 8) (A : Option Addr) (m c : Nat) (ts : Nat → Turn4) (A2 : Option Addr) (m2 c2 : Nat) (ts2 : Nat → Turn4) (w : World) (hr : TurnsAt w w.heap.size A m ts) (hn : m ≤ c) (hc : c ≤ maxLen) (hr2 : TurnsAt w w.heap.size A2 m2 ts2) (hn2 : m2 ≤ c2) (hc2 : c2 ≤ maxLen) :
    Calls Try.prog 9 #[.int .u8 (n8 a), .int .u8 (n8 b), .slice A m c, .slice A2 m2 c2] w fun e w' => e = .returned (.bool true) ∧ Below w.heap.size w w' := by
  have HR := Lib.hid hr
  have HR2 := Lib.hid hr2
  unfold maxLen at hc hc2
  clear hr hr2
  by_cases hm : 60 < m
  · go_enter Try.func9, Try.ntmps9
    go_wp2_with fail
    refine (works_any _).mono ?_
    rintro e w9 ⟨rfl, hb⟩
    have HB := Lib.hid hb
    clear hb
    go_wp2_with fail
    go_ret
    exact ⟨rfl, HB.out⟩
  by_cases hm2 : 60 < m2
  · go_enter Try.func9, Try.ntmps9
    go_wp2_with fail
    refine (works_any _).mono ?_
    rintro e w9 ⟨rfl, hb⟩
    have HB := Lib.hid hb
    clear hb
    go_wp2_with fail
    go_ret
    exact ⟨rfl, HB.out⟩
  go_enter Try.func9, Try.ntmps9
  go_wp2_with fail
  refine (begin_any (Sep.start w) a b).mono ?_
  rintro e w1 ⟨k, gb, gd, d, rb, lay, S, rfl, hs⟩
  have HS0 := Lib.hid hs
  clear hs
  go_wp2_with fail
  refine (begin_any HS0.out a b).mono ?_
  rintro e w2 ⟨k2, gb2, gd2, d2, rb2, lay2, S2, rfl, hs⟩
  have hn0 : 0 < a.toNat % 8 + 1 := by omega
  have hn8 : a.toNat % 8 + 1 ≤ 65536 := by omega
  clear HS0
  generalize a.toNat % 8 + 1 = n at hs hn0 hn8
  generalize b.toNat % 40 + 1 = size at hs
  generalize (fun _ => (⟨size, [], 0⟩ : SlotD)) = D at hs
  have HS1 : Hid (PSep w.heap.size w w2 d rb lay S k gb gd d2 rb2 lay2 S2 k2 gb2 gd2 size n D D) := PSep.flip hs
  clear hs
  go_wp2_with fail
  go_loopg [11] m (fun q v11 wr => ∃ (j : Nat) (lay : Lay) (S : Nat → Prop) (lay2 : Lay) (S2 : Nat → Prop) (D : Nat → SlotD), j + q = m ∧ v11 = .int .i64 j ∧ PSep w.heap.size w wr d rb lay S k gb gd d2 rb2 lay2 S2 k2 gb2 gd2 size n D D)
  case atStart => exact ⟨0, lay, S, lay2, S2, D, by omega, rfl, HS1.out⟩
  case round =>
    obtain ⟨j, lay, S, lay2, S2, D, hj, rfl, hs⟩ := hrel
    have HJ := Lib.hid hj
    have hj' : j ≤ m := by omega
    have HS := Lib.hid hs
    by_cases hlt : j < m
    · obtain ⟨ad, ht⟩ := HR.out.below hs.bel j hlt
      obtain rfl := ht.a
      have c0 := ht.c0
      have c1 := ht.c1
      have c2 := ht.c2
      have c3 := ht.c3
      clear hj hs ht
      go_wp2_with fail
      refine (HS.out.turn hn0 hn8 _ _ _ _).mono ?_
      rintro e w3 ⟨rfl, lay3, S3, hs⟩
      have HS3 := Lib.hid hs.flip
      clear c0 c1 c2 c3
      obtain ⟨ad', ht⟩ := HR.out.below hs.bel j hlt
      obtain rfl : ad = ad' := by have := ht.a; injection this
      have c0 := ht.c0
      have c1 := ht.c1
      have c2 := ht.c2
      have c3 := ht.c3
      clear hs ht
      go_wp2_with fail
      refine (HS3.out.turn hn0 hn8 _ _ _ _).mono ?_
      rintro e w4 ⟨rfl, lay4, S4, hs⟩
      have HS4 := Lib.hid hs.flip
      clear c0 c1 c2 c3 hs
      go_wp2_with fail
      go_roundg (gk - 1)
      case measure => have := HJ.out; omega
      case rel => exact ⟨j + 1, _, _, _, _, _, by have := HJ.out; omega, by go_num, HS4.out⟩
    · obtain ⟨k0, k1, k2', k3⟩ := (Sep.known (show Sep _ _ _ (_ :: knownOb S k gb gd d size n D :: _) from hs)).cells
      have hkc := (Sep.known (show Sep _ _ _ (_ :: knownOb S2 k2 gb2 gd2 d2 size n D :: _) from hs.flip)).blk
      have hk2 : wr.cell? ⟨k2, 0, none⟩ = _ := hkc.cell 0
      have hkf := hkc.frozen 0
      clear hj hs hkc
      go_wp2_with fail
      refine (sep_dcopy HS.out (HS.out.get (.head _)) hn0 hn8).mono ?_
      rintro e w5 ⟨d3, rb3, lay3, rfl, hs⟩
      have hkc : Blk w5 k2 _ _ := (show IsKnown w5 S2 k2 gb2 gd2 d2 size n D from hs.get (.tail _ (.tail _ (.tail _ (.tail _ (.head _)))))).blk
      have hk2 : w5.cell? ⟨k2, 0, none⟩ = _ := hkc.cell 0
      have hkf := hkc.frozen 0
      have HS5 := Lib.hid (PSep.setDisk hs)
      clear hs hkc k0 k1 k2' k3
      go_wp2_with fail
      go_loopg [12] m2 (fun q v12 wr => ∃ (j : Nat) (lay' : Lay) (S' : Nat → Prop) (D' : Nat → SlotD), j + q = m2 ∧ v12 = .int .i64 j ∧ PSep w.heap.size w wr d3 rb3 lay' S' k2 gb2 gd2 d rb lay S k gb gd size n D' D)
      case atStart => exact ⟨0, _, _, _, by omega, rfl, HS5.out⟩
      case round =>
        obtain ⟨i, lay', S', D', hi, rfl, hs⟩ := hrel
        have HI := Lib.hid hi
        have hi' : i ≤ m2 := by omega
        have HS6 := Lib.hid hs
        by_cases hli : i < m2
        · obtain ⟨ad, ht⟩ := HR2.out.below hs.bel i hli
          obtain rfl := ht.a
          have c0 := ht.c0
          have c1 := ht.c1
          have c2 := ht.c2
          have c3 := ht.c3
          clear hi hs ht
          go_wp2_with fail
          refine (HS6.out.turn hn0 hn8 _ _ _ _).mono ?_
          rintro e w7 ⟨rfl, lay7, S7, hs⟩
          have HS7 := Lib.hid hs
          clear hs c0 c1 c2 c3
          go_wp2_with fail
          go_roundg (gk - 1)
          case measure => have := HI.out; omega
          case rel => exact ⟨i + 1, _, _, _, by have := HI.out; omega, by go_num, HS7.out⟩
        · obtain ⟨k0, k1, k2', k3⟩ := (Sep.known (show Sep _ _ _ (_ :: knownOb S' k2 gb2 gd2 d3 size n D' :: _) from hs)).cells
          clear hi hs
          go_wp2_with fail
          refine (agrees_any (Sep.get (show Sep _ _ _ (diskOb d3 rb3 n lay' D' :: _) from HS6.out) (.head _)) (Sep.known (show Sep _ _ _ (_ :: knownOb S' k2 gb2 gd2 d3 size n D' :: _) from HS6.out)) hn0 hn8).mono ?_
          rintro e w8 ⟨rfl, hb⟩
          have HS8 := Lib.hid (HS6.out.below hb).flip
          clear hb k0 k1 k2' k3
          obtain ⟨k0, k1, k2', k3⟩ := (Sep.known (show Sep _ _ _ (_ :: knownOb S k gb gd d size n D :: _) from HS8.out)).cells
          go_wp2_with fail
          refine (agrees_any (Sep.get (show Sep _ _ _ (diskOb d rb n lay D :: _) from HS8.out) (.head _)) (Sep.known (show Sep _ _ _ (_ :: knownOb S k gb gd d size n D :: _) from HS8.out)) hn0 hn8).mono ?_
          rintro e w9 ⟨rfl, hb⟩
          have HS9 := Lib.hid (HS8.out.below hb)
          clear hb k0 k1 k2' k3
          go_wp2_with fail
          refine (works_any _).mono ?_
          rintro e w10 ⟨rfl, hb⟩
          have HB := Lib.hid (Sep.bel (HS9.out.below hb))
          clear hb
          go_wp2_with fail
          go_ret
          exact ⟨rfl, HB.out⟩
theorem DiskCopies_walk (v0 v1 v2 v3 : Value) (w : World) (h0 : ArgIn Try.prog w 5 v0) (h1 : ArgIn Try.prog w 5 v1) (h2 : ArgIn Try.prog w 22 v2) (h3 : ArgIn Try.prog w 22 v3) :
    Calls Try.prog 9 #[v0, v1, v2, v3] w fun e w' => e = .returned (.bool true) ∧ Below w.heap.size w w' := by
  obtain ⟨m0, rfl, e0⟩ := h0.int (k := .u8) Try.underlying5
  obtain ⟨m1, rfl, e1⟩ := h1.int (k := .u8) Try.underlying5
  obtain ⟨b0, rfl⟩ := u8_of_wf e0
  obtain ⟨b1, rfl⟩ := u8_of_wf e1
  obtain ⟨A, n, c, ts, rfl, k1, k2, k3⟩ := turns_arg h2
  obtain ⟨A2, n2, c2, ts2, rfl, l1, l2, l3⟩ := turns_arg h3
  exact DiskCopies_w b0 b1 A n c ts A2 n2 c2 ts2 w k3 k1 k2 l3 l1 l2
end Go.Proofs.Ytelobbigpgfobaa
