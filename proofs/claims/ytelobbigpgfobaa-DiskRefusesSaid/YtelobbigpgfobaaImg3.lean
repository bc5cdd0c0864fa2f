/-
  The walks of the image's Crash, Read, Copy; slices.Clone and bytes.Equal at bytes. Conditions: the image is as the methods leave it; the bytes can be read.
-/
import Derived.Test.YtelobbigpgfobaaImg2
namespace Go.Proofs.Ytelobbigpgfobaa
open Go.RowKit
set_option linter.unusedVariables false
theorem own_take {w : World} {base : Nat} {e : TypeId} {A : Option Addr} {n c k : Nat} {l : List (BitVec 8)} (h : w.ownsRow base e 1 (.slice A n c) n (u8s l)) (hk : k ≤ n) : w.ownsRow base e 1 (.slice A k c) k (u8s (l.take k)) := by
  have hl := h.1
  refine ⟨by rw [u8s_length, List.length_take]; rw [u8s_length] at hl; omega, ?_⟩
  rcases h.2 with ⟨h1, h2⟩ | ⟨g, cap, cur, h1, h2, h3, h4, h5, h6, h7⟩
  · left
    injection h1 with a1 a2 a3
    subst a1 a3
    have : k = 0 := by omega
    subst this
    exact ⟨rfl, rfl⟩
  · right
    injection h1 with a1 a2 a3
    subst a1 a3
    refine ⟨g, c, cur, rfl, h2, h3, by omega, h5, h6, ?_⟩
    rw [u8s_take, ← h7, List.take_take]
    congr 1
    omega
theorem Img.cut {w : World} {g : Nat} {A : Option Addr} {n c : Nat} {l : List (BitVec 8)} {size dur : Nat} (h : Img w g A n c l size dur) {k : Nat} (hk : k ≤ n) (hd : dur ≤ k) :
    IsImg (w.setCell ⟨g, 0, none⟩ (.slice A k c)) g (Value.slice A n c).ownBlock (l.take k) size dur := by
  have hob : (Value.slice A k c).ownBlock = (Value.slice A n c).ownBlock := by cases A <;> rfl
  refine ⟨A, k, c, ⟨?_, ?_, by rw [hob]; exact h.apart, hd, by have := h.h2; omega, h.h3, h.h4⟩, hob.symm⟩
  · exact h.blk.set_ 0 _
  · refine own_chg (F := fun x => x = g) (own_take h.own hk) ((Chg.refl (fun x => x = g) w).setCell (p := ⟨g, 0, none⟩) (.inl rfl) _) (fun x hx e => h.apart (by rw [← hob, hx, e]))
set_option maxHeartbeats 1000000 in
theorem crash_img {w : World} {g : Nat} {fb : Option Nat} {l : List (BitVec 8)} {size dur : Nat} (h : IsImg w g fb l size dur) (keep : Int) (hk : 0 ≤ keep) (hk2 : keep ≤ 9223372036854775807) :
    Calls Try.prog 52 #[.pointer (some ⟨g, 0, none⟩), .int .i64 keep] w fun e w' => e = .returned (.int .i64 0) ∧ IsImg w' g fb (l.take (dur + min keep.toNat (l.length - dur))) size (dur + min keep.toNat (l.length - dur)) ∧ Chg (foot g fb) w w' := by
  obtain ⟨A, n, c, h, rfl⟩ := h
  obtain ⟨keep, rfl⟩ := Int.eq_ofNat_of_zero_le hk
  rw [Int.toNat_natCast]
  have c0 : w.cell? ⟨g, 0, none⟩ = some (.slice A n c) := by rw [h.blk.cell]; rfl
  have c2 : w.cell? ⟨g, 2, none⟩ = some (.int .i64 (dur : Int)) := by rw [h.blk.cell]; rfl
  have f0 : w.frozen? ⟨g, 0, none⟩ = false := h.blk.frozen 0
  have H := Lib.hid h
  have hl := h.len
  have h1 := h.h1
  have h2 := h.h2
  have h4 := h.h4
  obtain ⟨hc1, hc2⟩ := h.cap
  clear h
  subst hl
  by_cases hm : keep < l.length - dur
  · have hmi : (keep : Int) < (l.length : Int) - (dur : Int) := by omega
    have hmn : ¬ ((l.length : Int) - (dur : Int) < (keep : Int)) := by omega
    have HC := Lib.hid (H.out.cut (k := dur + keep) (by omega) (by omega)).drew
    have HCH := Lib.hid (((Chg.refl (foot g (Value.slice A l.length c).ownBlock) w).setCell (p := ⟨g, 0, none⟩) (.inl (.inl rfl)) (.slice A (dur + keep) c)).drew)
    have HMIN := Lib.hid (show dur + min keep (l.length - dur) = dur + keep by omega)
    rw [HMIN.out]
    go_enter Try.func52, Try.ntmps52
    go_wp2_with (go_at_call 65; refine (made_img H.out).mono ?_; rintro e w' ⟨rfl, rfl⟩)
    go_region
    go_wp2_with fail
    refine (sync_img HC.out).mono ?_
    rintro e w1 ⟨rfl, hi, hc⟩
    have HI := Lib.hid hi
    have HCC := Lib.hid hc
    clear hi hc
    go_wp2_with fail
    go_ret
    have hl : (l.take (dur + keep)).length = dur + keep := by rw [List.length_take]; omega
    have h5 := HI.out
    rw [hl] at h5
    exact ⟨rfl, h5, HCH.out.trans HCC.out (fun _ _ h => h)⟩
  · have hdl : (dur : Int) + ((l.length : Int) - (dur : Int)) = (l.length : Int) := by omega
    rcases Nat.eq_or_lt_of_le (by omega : l.length - dur ≤ keep) with he | hlt
    · have hmn : ¬ ((l.length : Int) - (dur : Int) < (keep : Int)) := by omega
      have HK : Hid (dur + keep = l.length) := by show _ = _; omega
      have HC := Lib.hid (H.out.cut (k := dur + keep) (by omega) (by omega)).drew
      have HCH := Lib.hid (((Chg.refl (foot g (Value.slice A l.length c).ownBlock) w).setCell (p := ⟨g, 0, none⟩) (.inl (.inl rfl)) (.slice A (dur + keep) c)).drew)
      have HMIN := Lib.hid (show dur + min keep (l.length - dur) = dur + keep by omega)
      rw [HMIN.out]
      go_enter Try.func52, Try.ntmps52
      go_wp2_with (go_at_call 65; refine (made_img H.out).mono ?_; rintro e w' ⟨rfl, rfl⟩)
      go_region
      go_wp2_with fail
      refine (sync_img HC.out).mono ?_
      rintro e w1 ⟨rfl, hi, hc⟩
      have HI := Lib.hid hi
      have HCC := Lib.hid hc
      clear hi hc
      go_wp2_with fail
      go_ret
      have hl : (l.take (dur + keep)).length = dur + keep := by rw [List.length_take]; omega
      have h5 := HI.out
      rw [hl] at h5
      exact ⟨rfl, h5, HCH.out.trans HCC.out (fun _ _ h => h)⟩
    · have hmn : ((l.length : Int) - (dur : Int) < (keep : Int)) := by omega
      have HC := Lib.hid (H.out.cut (k := l.length) (by omega) (by omega)).drew
      have HCH := Lib.hid (((Chg.refl (foot g (Value.slice A l.length c).ownBlock) w).setCell (p := ⟨g, 0, none⟩) (.inl (.inl rfl)) (.slice A (l.length) c)).drew)
      have HMIN := Lib.hid (show dur + min keep (l.length - dur) = l.length by omega)
      rw [HMIN.out]
      go_enter Try.func52, Try.ntmps52
      go_wp2_with (go_at_call 65; refine (made_img H.out).mono ?_; rintro e w' ⟨rfl, rfl⟩)
      go_region
      go_wp2_with fail
      refine (sync_img HC.out).mono ?_
      rintro e w1 ⟨rfl, hi, hc⟩
      have HI := Lib.hid hi
      have HCC := Lib.hid hc
      clear hi hc
      go_wp2_with fail
      go_ret
      have hl : (l.take (l.length)).length = l.length := by rw [List.length_take]; omega
      have h5 := HI.out
      rw [hl] at h5
      exact ⟨rfl, h5, HCH.out.trans HCC.out (fun _ _ h => h)⟩
set_option maxHeartbeats 400000 in
theorem crash_img_neg {w : World} {g : Nat} {fb : Option Nat} {l : List (BitVec 8)} {size dur : Nat} (h : IsImg w g fb l size dur) (keep : Int) (hk : keep < 0) :
    Calls Try.prog 52 #[.pointer (some ⟨g, 0, none⟩), .int .i64 keep] w fun e w' => e = .returned (.int .i64 2) ∧ w = w' := by
  obtain ⟨A, n, c, h, rfl⟩ := h
  have H := Lib.hid h
  clear h
  go_enter Try.func52, Try.ntmps52
  go_wp2_with (go_at_call 65; refine (made_img H.out).mono ?_; rintro e w' ⟨rfl, rfl⟩)
  go_ret
  exact ⟨rfl, rfl⟩
set_option maxHeartbeats 400000 in
theorem clone_any (A : Option Addr) (n c B : Nat) (l : List (BitVec 8)) (w : World) (hr : Reads w B 1 A n (u8s l)) (hB : B ≤ w.heap.size) (hn : n ≤ 65536) (hz : A = none → c = 0) :
    Calls Try.prog 66 #[.slice A n c] w fun e w' => ∃ v, e = .returned v ∧ w'.ownsRow w.heap.size 5 1 v n (u8s l) ∧ Below w.heap.size w w' := by
  obtain ⟨i0, hi0, hz0, hz1, hz2⟩ := info_parts u8_info
  have HR := Lib.hid hr
  clear hr
  cases A with
  | none =>
    obtain rfl := hz rfl
    have hn0 : n = 0 := by
      rcases Nat.eq_zero_or_pos n with h | h
      · exact h
      · obtain ⟨ad, e, _⟩ := HR.out.2 h; cases e
    subst hn0
    have hl : u8s l = [] := List.eq_nil_of_length_eq_zero (by simpa using HR.out.1)
    have HL := Lib.hid hl
    clear hl
    have hq := fun W => Lib.run_eql_slice_nil (P := Try.prog) W 36 5 none 0 0 0 0 Try.underlying36
    go_enter Try.func66, Try.ntmps66
    go_wp2
    go_ret
    exact ⟨_, rfl, by rw [HL.out]; exact World.ownsRow_nil _ _ _ _, Below.refl _ _⟩
  | some a =>
    have hq := fun W => Lib.run_eql_slice_nil (P := Try.prog) W 36 5 (some a) n c 0 0 Try.underlying36
    have hown0 : (w.alloc (.cells #[] 5)).ownsRow w.heap.size 5 1 (.slice (some ⟨w.heap.size, 0, none⟩) 0 0) 0 [] := World.ownsRow_made w #[] 0 (Nat.le_refl _) (by unfold maxLen; omega) (by simp)
    have HO := Lib.hid hown0
    clear hown0
    have HBL : Hid (∀ p : Addr, p.block < B → (w.alloc (.cells #[] 5)).cell? p = w.cell? p) := fun p hp => World.cell?_alloc_lt w _ p (by omega)
    go_enter Try.func66, Try.ntmps66
    go_wp2_with (at_builtin
                 refine wpList_append_g _ rfl (.tmp 5) (.tmp 6) _ rfl w.heap.size 5 i0 _ 1 1 Try.underlying36 hi0 hz0 hz1 hz2 rfl (by omega) (.slice (some ⟨w.heap.size, 0, none⟩) 0 0) 0 [] rfl
                   HO.out B (some a) n c (u8s l) rfl (HR.out.keep (fun p hp => HBL.out p hp)) (u8s_one l) (by simp only [maxLen]; omega) (by omega) (by simp) ?_
                 intro v1 w4 hown1 hg1 hat1
                 have HO1 := Lib.hid hown1
                 have HB4 := Lib.hid (((Below.refl w.heap.size w).alloc (Nat.le_refl _) (.cells #[] 5)).grown hg1 (by simp) (by intro q hq; simp [Value.ownBlock] at hq; omega))
                 clear hown1 hg1 hat1)
    go_ret
    exact ⟨_, rfl, by simpa using HO1.out, HB4.out⟩
end Go.Proofs.Ytelobbigpgfobaa
