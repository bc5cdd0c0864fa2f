/-
  The walk of the disk laws' begin: a new disk, and what is known of it. No condition.
-/
import Derived.Test.YtelobbigpgfobaaKagree
namespace Go.Proofs.Ytelobbigpgfobaa
open Go.RowKit
set_option linter.unusedVariables false
theorem make_one (t e : TypeId) (z : Value) (bytes : Nat) (ht : Try.prog.underlying t = some (.slice e)) (hinf : (Try.prog.info? e).map (fun i => (i.zero, i.size, i.bytes)) = some (some z, 1, bytes)) (hz1 : z.cells = #[z]) (hby : bytes ≤ 1000) (k : Nat) (hk : k ≤ 65536) (w : World) :
    (Instr.makeSlice t (.int .i64 (k : Int)) (.int .i64 (k : Int))).run Try.prog w = .ok (.slice (some ⟨w.heap.size, 0, none⟩) k k) (w.alloc (.cells (List.replicate k z).toArray e)) := by
  obtain ⟨i0, hi0, hz0, hsz, hz2⟩ := info_parts hinf
  have hb : i0.bytes * k ≤ 1000 * 65536 := Nat.mul_le_mul (by omega) hk
  have hbi : (i0.bytes : Int) * (k : Int) ≤ 281474976710656 := by
    have h2 : ((i0.bytes * k : Nat) : Int) ≤ 65536000 := by omega
    rw [Int.natCast_mul] at h2
    omega
  have hr := run_make (P := Try.prog) w t e i0 _ ht hi0 hz0 .i64 .i64 k k (by omega) (by omega) hbi (by omega)
  rw [Int.toNat_natCast, hsz] at hr
  rw [hr, hz1, Nat.mul_one]
  have : madeCells #[z] k = (List.replicate k z).toArray := by
    apply Array.toList_inj.1
    rw [toList_madeCells_one]
  rw [this]
theorem bslice_info : (Try.prog.info? 36).map (fun i => (i.zero, i.size, i.bytes)) = some (some (.slice none 0 0), 1, 24) := by kernel_rfl
def nilArr (n : Nat) : Array Value := (List.replicate n (Value.slice none 0 0)).toArray
def szArr (n s j : Nat) : Array Value := ((List.range n).map fun i => Value.int .i64 (if i < j then (s : Int) else 0)).toArray
theorem szArr_zero (n s : Nat) : szArr n s 0 = (List.replicate n (Value.int .i64 0)).toArray := by
  unfold szArr
  congr 1
  apply List.ext_getElem?
  intro i
  by_cases h : i < n
  · simp [h]
  · simp [h]
theorem szArr_at {n s j i : Nat} (h : i < n) : (szArr n s j)[i]? = some (.int .i64 (if i < j then (s : Int) else 0)) := by simp [szArr, h]
theorem szArr_set (n s j : Nat) (h : j < n) : (szArr n s j).setIfInBounds j (.int .i64 (s : Int)) = szArr n s (j + 1) := by
  apply Array.ext_getElem?
  intro q
  by_cases hq : q < n
  · rw [szArr_at hq, Array.getElem?_setIfInBounds]
    by_cases e : j = q
    · subst e
      rw [if_pos rfl, if_pos (by simp [szArr]; exact h), if_pos (by omega)]
    · rw [if_neg e, szArr_at hq]
      by_cases e2 : q < j
      · rw [if_pos e2, if_pos (by omega)]
      · rw [if_neg e2, if_neg (by omega)]
  · rw [Array.getElem?_eq_none (by simp [szArr]; omega), Array.getElem?_eq_none (by simp [szArr]; omega)]
theorem szArr_all (n s : Nat) : (szArr n s n).toList = ints (List.replicate n (s : Int)) := by
  unfold szArr ints
  apply List.ext_getElem?
  intro i
  by_cases h : i < n
  · simp [h]
  · simp [h]
theorem newD_same (n s : Nat) : ∀ i, i < n → (⟨s, [], 0⟩ : SlotD) = newD (List.replicate n (s : Int)) i := by
  intro i hi
  unfold newD
  simp [List.getD_eq_getElem?_getD, hi]
section
variable {B : Nat} {w0 w w' : World} {os : List Ob}
/-- What is known of a new disk. -/
theorem isKnown_new {w4 : World} {k gb gd d size n : Nat} (hk : Blk w4 k 34 #[.pointer (some ⟨d, 0, none⟩), .int .i64 (size : Int), .slice (some ⟨gb, 0, none⟩) n n, .slice (some ⟨gd, 0, none⟩) n n])
    (hb : Blk w4 gb 36 (List.replicate n (Value.slice none 0 0)).toArray) (hd : Blk w4 gd 3 (List.replicate n (Value.int .i64 0)).toArray) (hne : k ≠ gb ∧ k ≠ gd ∧ gb ≠ gd) (hs : 1 ≤ size ∧ size ≤ 8192) :
    IsKnown w4 (fun _ => False) k gb gd d size n (fun _ => ⟨size, [], 0⟩) := by
  refine ⟨hk, ⟨fun _ => (none, 0), ?_, fun i _ => BytesAt.nil_ _ _⟩, ?_, hne, ⟨fun h => h, fun h => h, fun h => h⟩, fun q h => h.elim, fun i _ => ⟨Nat.le_refl _, Nat.zero_le _, rfl⟩, hs⟩
  · have e : kbRow (fun _ => (⟨size, [], 0⟩ : SlotD)) (fun _ => (none, 0)) n = (List.replicate n (Value.slice none 0 0)).toArray := by
      unfold kbRow
      congr 1
      apply List.ext_getElem?
      intro i
      by_cases h : i < n
      · simp [h, kbv]
      · simp [h]
    rw [e]; exact hb
  · have e : kdRow (fun _ => (⟨size, [], 0⟩ : SlotD)) n = (List.replicate n (Value.int .i64 0)).toArray := by
      unfold kdRow
      congr 1
      apply List.ext_getElem?
      intro i
      by_cases h : i < n
      · simp [h]
      · simp [h]
    rw [e]; exact hd
theorem begin_w1 (w2 : World) (o1 o2 o3 : Obj) : Below w2.heap.size w2 (((w2.alloc o1).alloc o2).alloc o3).drew ∧ (w2.alloc o1).heap.size = w2.heap.size + 1 ∧ ((w2.alloc o1).alloc o2).heap.size = w2.heap.size + 1 + 1 := by
  have e1 : (w2.alloc o1).heap.size = w2.heap.size + 1 := Array.size_push _
  have e2 : ((w2.alloc o1).alloc o2).heap.size = w2.heap.size + 1 + 1 := by rw [← e1]; exact Array.size_push _
  exact ⟨((((Below.refl _ w2).alloc (Nat.le_refl _) o1).alloc (by omega) o2).alloc (by omega) o3).drew, e1, e2⟩
theorem begin_fin {w2 w4 : World} {d n s k gb gd : Nat} {rb : Option Nat} {lay : Lay} (hs : Sep B w0 w2 (diskOb d rb n lay (fun _ => ⟨s, [], 0⟩) :: os)) (hb : Below w2.heap.size w2 w4)
    (hk : Blk w4 k 34 #[.pointer (some ⟨d, 0, none⟩), .int .i64 (s : Int), .slice (some ⟨gb, 0, none⟩) n n, .slice (some ⟨gd, 0, none⟩) n n]) (hbk : Blk w4 gb 36 (nilArr n)) (hd : Blk w4 gd 3 (szArr n s 0))
    (hne : k ≠ gb ∧ k ≠ gd ∧ gb ≠ gd) (hg : w2.heap.size ≤ k ∧ w2.heap.size ≤ gb ∧ w2.heap.size ≤ gd) (h1 : 1 ≤ s ∧ s ≤ 8192) : KSep B w0 w4 d rb lay (fun _ => False) k gb gd s n (fun _ => ⟨s, [], 0⟩) os := by
  rw [szArr_zero] at hd
  refine (hs.add (a := knownOb (fun _ => False) k gb gd d s n (fun _ => ⟨s, [], 0⟩)) hb (isKnown_new hk hbk hd hne h1) ?_).perm (List.Perm.swap _ _ _)
  rintro q (rfl | rfl | rfl | hq)
  · exact hg.1
  · exact hg.2.1
  · exact hg.2.2
  · exact hq.elim
set_option maxRecDepth 100000 in
set_option maxHeartbeats 8000000 in
theorem begin_any (h : Sep B w0 w os) (a b : BitVec 8) :
    Calls Try.prog 11 #[.int .u8 (n8 a), .int .u8 (n8 b)] w fun e w' => ∃ k gb gd d rb lay S, e = .returned (.pointer (some ⟨k, 0, none⟩)) ∧ KSep B w0 w' d rb lay S k gb gd (b.toNat % 40 + 1) (a.toNat % 8 + 1) (fun _ => ⟨b.toNat % 40 + 1, [], 0⟩) os := by
  obtain ⟨n, hn⟩ : ∃ n, a.toNat % 8 + 1 = n := ⟨_, rfl⟩
  obtain ⟨s, hs⟩ : ∃ s, b.toNat % 40 + 1 = s := ⟨_, rfl⟩
  obtain ⟨m, hm⟩ : ∃ m : Nat, n8 a % 8 = (m : Int) := ⟨a.toNat % 8, by rw [n8_nat]; omega⟩
  obtain ⟨r, hr⟩ : ∃ r : Nat, n8 b % 40 = (r : Int) := ⟨b.toNat % 40, by rw [n8_nat]; omega⟩
  have hmn : n = 1 + m := by rw [n8_nat] at hm; omega
  have hrs : s = 1 + r := by rw [n8_nat] at hr; omega
  have hm8 : m < 8 := by rw [n8_nat] at hm; omega
  have hr40 : r < 40 := by rw [n8_nat] at hr; omega
  obtain ⟨ha1, ha2⟩ := n8_bd a
  obtain ⟨hb1, hb2⟩ := n8_bd b
  rw [hn, hs]
  have hcn : (1 : Int) + (m : Int) = (n : Int) := by omega
  have hcs : (1 : Int) + (r : Int) = (s : Int) := by omega
  have hn8 : n ≤ 8 := by omega
  have hn1 : 1 ≤ n := by omega
  have hs40 : s ≤ 40 := by omega
  have hs1 : 1 ≤ s := by omega
  clear hn hs hmn hrs
  have H := Lib.hid h
  have hmk1 : ∀ W, (Instr.makeSlice 32 (.int .i64 (n : Int)) (.int .i64 (n : Int))).run Try.prog W = .ok (.slice (some ⟨W.heap.size, 0, none⟩) n n) (W.alloc (.cells (szArr n s 0) 3)) :=
    fun W => by rw [szArr_zero]; exact make_one _ _ _ 8 Try.underlying32 int_info rfl (by omega) n (by omega) W
  have hmk2 : ∀ W, (Instr.makeSlice 31 (.int .i64 (n : Int)) (.int .i64 (n : Int))).run Try.prog W = .ok (.slice (some ⟨W.heap.size, 0, none⟩) n n) (W.alloc (.cells (nilArr n) 36)) :=
    fun W => make_one _ _ _ 24 Try.underlying31 bslice_info rfl (by omega) n (by omega) W
  clear h
  go_enter Try.func11, Try.ntmps11
  go_wp2_with fail
  have HW1 : Hid (Sep B w0 (w.alloc (.cells (szArr n s 0) 3)) (blkOb w.heap.size 3 (szArr n s 0) :: os)) := H.out.newBlk w.heap.size _ _ rfl
  rw [hm, hr]
  go_loopg [8] n (fun q v8 wr => ∃ j : Nat, j + q = n ∧ v8 = .int .i64 j ∧ Sep B w0 wr (blkOb w.heap.size 3 (szArr n s j) :: os))
  case atStart => exact ⟨0, by omega, rfl, HW1.out⟩
  case round =>
    obtain ⟨j, hj, rfl, hs⟩ := hrel
    have HJ := Lib.hid hj
    have hj' : j ≤ n := by omega
    have HS := Lib.hid hs
    have hblk : Blk wr w.heap.size 3 (szArr n s j) := hs.get (.head _)
    by_cases hlt : j < n
    · have q0 := hblk.cell j
      rw [szArr_at hlt] at q0
      have f0 := hblk.frozen j
      clear hj hs hblk
      go_wp2_with fail
      go_roundg (gk - 1)
      case measure => have := HJ.out; omega
      case rel =>
        have := HS.out.setBlk j (.int .i64 (s : Int))
        rw [szArr_set n s j hlt] at this
        exact ⟨j + 1, by have := HJ.out; omega, by go_num, this⟩
    · have e8 : j = n := by omega
      subst e8
      have hrd : Reads wr wr.heap.size 1 (some ⟨w.heap.size, 0, none⟩) j (ints (List.replicate j (s : Int))) := by
        refine ⟨by simp [ints], fun _ => ⟨_, rfl, hblk.lt, fun q u hu => ?_⟩⟩
        rw [add_zero_addr, hblk.cell]
        rw [← szArr_all] at hu
        simpa using hu
      have HRD := Lib.hid hrd
      clear hj hs hblk hrd
      go_wp2_with fail
      refine (sep_dnew HS.out _ j j (List.replicate j (s : Int)) HRD.out (by omega) (by omega) (by intro z hz; have := List.eq_of_mem_replicate hz; unfold okSize; omega)).mono ?_
      rintro e w2 ⟨d, rb, lay, rfl, hs⟩
      have HS2 : Hid (Sep B w0 w2 (diskOb d rb j lay (fun _ => ⟨s, [], 0⟩) :: os)) := (hs.dcongr (newD_same j s)).sub ((List.sublist_cons_self _ _).cons_cons _)
      clear hs
      go_wp2_with fail
      go_region_law (fail)
      all_goals
        go_wp2_with fail
        go_ret
        first
          | exact ⟨_, w2.heap.size, w2.heap.size + 1, _, _, _, _, rfl, begin_fin HS2.out (begin_w1 w2 _ _ _).1 (by rw [← (begin_w1 w2 (.cells (nilArr j) 36) (.cells (szArr j s 0) 3) (.cells (nilArr j) 36)).2.2]; exact (Blk.new _ _ _).drew) (((Blk.new _ _ _).alloc _).alloc _).drew (by rw [← (begin_w1 w2 (.cells (nilArr j) 36) (.cells (szArr j s 0) 3) (.cells (nilArr j) 36)).2.1]; exact ((Blk.new _ _ _).alloc _).drew) (by omega) (by omega) (by omega)⟩
          | exact ⟨_, w2.heap.size + 1, w2.heap.size, _, _, _, _, rfl, begin_fin HS2.out (begin_w1 w2 _ _ _).1 (by rw [← (begin_w1 w2 (.cells (szArr j s 0) 3) (.cells (nilArr j) 36) (.cells (nilArr j) 36)).2.2]; exact (Blk.new _ _ _).drew) (by rw [← (begin_w1 w2 (.cells (szArr j s 0) 3) (.cells (nilArr j) 36) (.cells (nilArr j) 36)).2.1]; exact ((Blk.new _ _ _).alloc _).drew) (((Blk.new _ _ _).alloc _).alloc _).drew (by omega) (by omega) (by omega)⟩
end
end Go.Proofs.Ytelobbigpgfobaa
