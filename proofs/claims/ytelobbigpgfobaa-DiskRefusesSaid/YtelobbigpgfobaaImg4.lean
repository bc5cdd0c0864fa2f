/-
  The walks of the image's Read and Copy, and of bytes.Equal at bytes. Conditions: the image is as the methods leave it; the bytes can be read.
-/
import Derived.Test.YtelobbigpgfobaaImg3
import Derived.Laws.BytesString
import Derived.Laws.Strings
namespace Go.Proofs.Ytelobbigpgfobaa
open Go.RowKit
set_option linter.unusedVariables false
theorem Img.reads {w : World} {g : Nat} {A : Option Addr} {n c : Nat} {l : List (BitVec 8)} {size dur : Nat} (h : Img w g A n c l size dur) : Reads w w.heap.size 1 A n (u8s l) := Reads.of_own h.own
set_option maxHeartbeats 1000000 in
theorem read_img {w : World} {g : Nat} {fb : Option Nat} {l : List (BitVec 8)} {size dur : Nat} (h : IsImg w g fb l size dur) (off n : Nat) (hin : off + n ≤ l.length) :
    Calls Try.prog 37 #[.pointer (some ⟨g, 0, none⟩), .int .i64 (off : Int), .int .i64 (n : Int)] w fun e w' => ∃ v, e = .returned (.tuple #[v, .int .i64 0]) ∧ w'.ownsRow w.heap.size 5 1 v n (u8s ((l.drop off).take n)) ∧ Below w.heap.size w w' := by
  obtain ⟨A, k, c, h, rfl⟩ := h
  have c0 : w.cell? ⟨g, 0, none⟩ = some (.slice A k c) := by rw [h.blk.cell]; rfl
  have H := Lib.hid h
  have hl := h.len
  have h2 := h.h2
  have h4 := h.h4
  obtain ⟨hc1, hc2⟩ := h.cap
  clear h
  subst hl
  have d1 : decide ((off : Int) < 0) = false := by simp
  have d2 : decide ((n : Int) < 0) = false := by simp
  have d3 : decide ((l.length : Int) < (n : Int)) = false := by simp; omega
  have d4 : decide ((l.length : Int) - (n : Int) < (off : Int)) = false := by simp; omega
  rcases Nat.eq_zero_or_pos n with hn0 | hpos
  · subst hn0
    have HR : Hid (Reads w w.heap.size 1 A 0 (u8s ((l.drop off).take 0))) := by
      show Reads _ _ _ _ _ _
      rw [List.take_zero]
      exact ⟨rfl, fun h => absurd h (by omega)⟩
    go_enter Try.func37, Try.ntmps37
    go_wp2_with (go_at_call 65; refine (made_img H.out).mono ?_; rintro e w' ⟨rfl, rfl⟩)
    refine (clone_any _ _ _ _ _ _ HR.out (Nat.le_refl _) (by omega) (fun _ => rfl)).mono ?_
    rintro e w1 ⟨v, rfl, ho, hb⟩
    have HO := Lib.hid ho
    have HB := Lib.hid hb
    clear ho hb
    go_wp2
    go_ret2
    exact ⟨_, rfl, HO.out, HB.out⟩
  · have hn0 : ¬ n = 0 := by omega
    have HR : Hid (Reads w w.heap.size 1 (Option.map (fun x => x.add off) A) n (u8s ((l.drop off).take n))) := by
      have h1 := H.out.reads.cut (k := off) (cap := l.length + off + 1) (by omega) (by omega)
      rw [if_neg (by omega), Nat.mul_one, ← u8s_drop] at h1
      exact h1.take (by omega)
    have HZ : Hid (Option.map (fun x => x.add off) A = none → n = 0) := by
      intro e
      obtain ⟨ad, h, _⟩ := HR.out.2 hpos
      rw [h] at e; cases e
    go_enter Try.func37, Try.ntmps37
    go_wp2_with (go_at_call 65; refine (made_img H.out).mono ?_; rintro e w' ⟨rfl, rfl⟩)
    refine (clone_any _ _ _ _ _ _ HR.out (Nat.le_refl _) (by omega) HZ.out).mono ?_
    rintro e w1 ⟨v, rfl, ho, hb⟩
    have HO := Lib.hid ho
    have HB := Lib.hid hb
    clear ho hb
    go_wp2
    go_ret2
    exact ⟨_, rfl, HO.out, HB.out⟩
/-- Bytes as a string. -/
def strOf (l : List (BitVec 8)) : ByteArray := (l.map n8).foldl (fun r n => r.push (UInt8.ofNat n.toNat)) ByteArray.empty
theorem strOf_list (l : List (BitVec 8)) : (strOf l).data.toList = l.map fun b => UInt8.ofNat b.toNat := by
  have h : ∀ (l : List (BitVec 8)) (s : ByteArray), ((l.map n8).foldl (fun r n => r.push (UInt8.ofNat n.toNat)) s).data.toList = s.data.toList ++ l.map fun b => UInt8.ofNat b.toNat := by
    intro l
    induction l with
    | nil => intro s; simp
    | cons b l ih =>
      intro s
      simp only [List.map_cons, List.foldl_cons]
      rw [ih]
      have e : (n8 b).toNat = b.toNat := by unfold n8; rfl
      rw [e]
      simp [ByteArray.push]
  have := h l ByteArray.empty
  unfold strOf
  rw [this]
  simp
theorem strOf_inj {l m : List (BitVec 8)} (h : strOf l = strOf m) : l = m := by
  have h1 := congrArg (fun s : ByteArray => s.data.toList) h
  simp only [strOf_list] at h1
  have hi : ∀ (l m : List (BitVec 8)), (l.map fun b => UInt8.ofNat b.toNat) = (m.map fun b => UInt8.ofNat b.toNat) → l = m := by
    intro l
    induction l with
    | nil => intro m h; cases m with
      | nil => rfl
      | cons b m => simp at h
    | cons a l ih => intro m h; cases m with
      | nil => simp at h
      | cons b m =>
        simp only [List.map_cons, List.cons.injEq] at h
        have e : a = b := by
          have := congrArg UInt8.toNat h.1
          simp only [UInt8.toNat_ofNat'] at this
          apply BitVec.eq_of_toNat_eq
          have h1 := a.isLt; have h2 := b.isLt
          omega
        rw [e, ih m h.2]
  exact hi l m h1
theorem str_beq (l m : List (BitVec 8)) : ((strOf l).toList == (strOf m).toList) = decide (l = m) := by
  by_cases h : l = m
  · subst h; simp
  · rw [decide_eq_false h, beq_eq_false_iff_ne]
    intro e
    apply h
    apply strOf_inj
    rw [ByteArray.toList_eq, ByteArray.toList_eq] at e
    exact ByteArray.ext (Array.toList_inj.1 e)
theorem str_bytes {w : World} {B : Nat} {A : Option Addr} {n c : Nat} {l : List (BitVec 8)} (h : Reads w B 1 A n (u8s l)) :
    (convert 36 9 (.slice A n c)).run Try.prog w = .ok (.string (strOf l)) w := by
  rw [run_convert_bytes_string w 36 9 5 A n c Try.underlying36 Try.underlying5 Try.underlying9]
  have hl := h.1
  rw [u8s_length, Nat.mul_one] at hl
  cases A with
  | none =>
    have hn0 : n = 0 := by
      rcases Nat.eq_zero_or_pos n with h0 | h0
      · exact h0
      · obtain ⟨ad, e, _⟩ := h.2 h0; cases e
    have : l = [] := List.eq_nil_of_length_eq_zero (by omega)
    subst this
    rfl
  | some a =>
    refine run_bytesToString w a n c (l.map n8) ?_
    have e : (l.map n8).map (Value.int .u8) = u8s l := by simp [u8s, u8v, Function.comp_def]
    rw [e]
    have hr := run_loadCells_list (P := Try.prog) w a (u8s l) (fun j v hv => by
      rcases Nat.eq_zero_or_pos n with h0 | h0
      · obtain ⟨hk, _⟩ := u8s_at hv; omega
      · obtain ⟨ad, e, _, hc⟩ := h.2 h0
        injection e with e
        subst e
        exact hc j v hv)
    rw [u8s_length, hl] at hr
    exact hr
set_option maxHeartbeats 1000000 in
theorem copy_img {w : World} {g : Nat} {fb : Option Nat} {l : List (BitVec 8)} {size dur : Nat} (h : IsImg w g fb l size dur) :
    Calls Try.prog 56 #[.pointer (some ⟨g, 0, none⟩)] w fun e w' => ∃ g' fb', e = .returned (.pointer (some ⟨g', 0, none⟩)) ∧ IsImg w' g' fb' l size dur ∧ w.heap.size ≤ g' ∧ (∀ k, fb' = some k → w.heap.size ≤ k) ∧ Below w.heap.size w w' := by
  obtain ⟨A, k, c, h, rfl⟩ := h
  have c0 : w.cell? ⟨g, 0, none⟩ = some (.slice A k c) := by rw [h.blk.cell]; rfl
  have c1 : w.cell? ⟨g, 1, none⟩ = some (.int .i64 (size : Int)) := by rw [h.blk.cell]; rfl
  have c2 : w.cell? ⟨g, 2, none⟩ = some (.int .i64 (dur : Int)) := by rw [h.blk.cell]; rfl
  have H := Lib.hid h
  have hglt : g < w.heap.size := h.blk.lt
  have HZ : Hid (A = none → c = 0) := by
    intro e
    subst e
    rcases h.own.2 with ⟨h1, _⟩ | ⟨g', cap', cur', h1, _⟩
    · injection h1
    · injection h1 with h1 _; cases h1
  clear h
  go_enter Try.func56, Try.ntmps56
  go_wp2_with (go_at_call 65; refine (made_img H.out).mono ?_; rintro e w' ⟨rfl, rfl⟩)
  refine (clone_any _ _ _ _ _ _ ((H.out.reads).alloc (Nat.le_refl _) _) (by simp) (by have := H.out.h2; have := H.out.h4; omega) HZ.out).mono ?_
  rintro e w1 ⟨v, rfl, ho, hb⟩
  obtain ⟨A3, c3, rfl, _, _, _⟩ := own_slice ho
  have d0 : w1.cell? ⟨w.heap.size, 0, none⟩ = some (.slice A k c) := by
    rw [hb.cell (by simp)]; exact cell_of_row _ _ 0 _ _ _ (heap_alloc_new w _)
  have f0 : w1.frozen? ⟨w.heap.size, 0, none⟩ = false := by
    rw [hb.frozen (by simp)]; exact (Blk.new w _ _).frozen 0
  have HO := Lib.hid ho
  have HB := Lib.hid hb
  clear ho hb
  go_wp2
  go_ret
  have hb0 : Blk w1 w.heap.size 94 #[.slice A k c, .int .i64 (size : Int), .int .i64 (dur : Int)] := (Blk.new w _ _).below HB.out (by simp)
  have hnb : ∀ q, (Value.slice A3 k c3).ownBlock = some q → w.heap.size < q := by
    intro q hq
    have h1 := (HO.out.lt q hq).1
    simp at h1
    omega
  refine ⟨w.heap.size, _, rfl, ⟨A3, k, c3, ⟨hb0.set_ 0 _, ?_, fun e => by have := hnb _ e; omega, H.out.h1, H.out.h2, H.out.h3, H.out.h4⟩, rfl⟩, Nat.le_refl _, fun q hq => Nat.le_of_lt (hnb q hq), ?_⟩
  · exact own_chg (F := fun x => x = w.heap.size) (own_base HO.out (fun _ _ => Nat.zero_le _)) ((Chg.refl (fun x => x = w.heap.size) w1).setCell (p := ⟨w.heap.size, 0, none⟩) (.inl rfl) _) (fun q hq e => by have := hnb q hq; omega)
  · exact ((((Below.refl w.heap.size w).alloc (Nat.le_refl _) _).trans (HB.out.mono (by simp)))).setCell (Nat.le_refl _) _
end Go.Proofs.Ytelobbigpgfobaa
