/-
  The document's sets: Next, Lowest, Union, Minus, New, Copy. Conditions: the set is as its New makes it.
-/
import Derived.Test.YthmkaefpgcjlnaaDoorRefSet
import Derived.Deep.QuietTactic
import Derived.BigQuiet
import Derived.BigRegion
namespace Go.Proofs.YthmkaefpgcjlnaaDoor
open Go.RowKit Go.Shelf
set_option linter.unusedVariables false
section
variable {w : World} {g b t tb : Nat} {L M : List Bool}
/-- Slots of a list are added, or removed, one by one. -/
def setAll (L : List Bool) (l : List Nat) (v : Bool) : List Bool := l.foldl (fun L i => L.set i v) L
theorem setAll_length (L : List Bool) (l : List Nat) (v : Bool) : (setAll L l v).length = L.length := by
  induction l generalizing L with
  | nil => rfl
  | cons i l ih => show (setAll (L.set i v) l v).length = _; rw [ih, List.length_set]
theorem setAll_snoc (L : List Bool) (l : List Nat) (i : Nat) (v : Bool) : setAll L (l ++ [i]) v = (setAll L l v).set i v := by simp [setAll, List.foldl_append]
theorem inL_setAll (L : List Bool) (l : List Nat) (v : Bool) (j : Nat) : inL (setAll L l v) j = if j ∈ l ∧ j < L.length then v else inL L j := by
  induction l generalizing L with
  | nil => simp [setAll]
  | cons i l ih =>
    show inL (setAll (L.set i v) l v) j = _
    rw [ih, inL_set, List.length_set]
    by_cases hj : j < L.length
    · by_cases h1 : j ∈ l
      · simp [h1, hj]
      · by_cases h2 : j = i
        · subst h2; simp [h1, hj]
        · simp [h1, h2]
    · have : inL L j = false := inL_ge (by omega)
      by_cases h2 : j = i
      · subst h2; simp [hj]
      · simp [hj, h2]
theorem setAll_or (h : L.length = M.length) : setAll L (slotsOf M) true = orL L M := by
  refine list_ext (by rw [setAll_length, orL_length h]) (fun i => ?_)
  rw [inL_setAll, inL_or h]
  by_cases hm : inL M i = true
  · have h1 := (slots_mem M i).2 hm
    have h2 := inL_lt hm
    rw [if_pos ⟨h1, by omega⟩, hm]; simp
  · have h1 : ¬ i ∈ slotsOf M := fun e => hm ((slots_mem M i).1 e)
    rw [if_neg (fun e => h1 e.1)]
    simp at hm
    rw [hm]; simp
theorem setAll_not (h : L.length = M.length) : setAll L (slotsOf M) false = notL L M := by
  refine list_ext (by rw [setAll_length, notL_length h]) (fun i => ?_)
  rw [inL_setAll, inL_not h]
  by_cases hm : inL M i = true
  · have h1 := (slots_mem M i).2 hm
    have h2 := inL_lt hm
    rw [if_pos ⟨h1, by omega⟩, hm]; simp
  · have h1 : ¬ i ∈ slotsOf M := fun e => hm ((slots_mem M i).1 e)
    rw [if_neg (fun e => h1 e.1)]
    simp at hm
    rw [hm]; simp
theorem ff_drop_pos {l : List Nat} {j : Nat} (hj : j < l.length) (f : Int) (h : f ≤ (l[j] : Int)) : ffV (l.drop j) f = l[j] ∧ ffB (l.drop j) f = true := by
  rw [drop_at l j hj]
  unfold ffV ffB
  rw [if_pos h, if_pos h]
  exact ⟨rfl, rfl⟩
theorem ff_drop_neg {l : List Nat} {j : Nat} (hj : j < l.length) (f : Int) (h : ¬ f ≤ (l[j] : Int)) : ffV (l.drop j) f = ffV (l.drop (j + 1)) f ∧ ffB (l.drop j) f = ffB (l.drop (j + 1)) f := by
  rw [drop_at l j hj]
  exact ⟨by conv => lhs; unfold ffV
            rw [if_neg h], by conv => lhs; unfold ffB
                              rw [if_neg h]⟩
set_option maxHeartbeats 1000000 in
theorem rnext_any (h : RSet w g b L) (f : Int) :
    Calls Tryd.prog 35 #[.pointer (some ⟨g, 0, none⟩), .int .i64 f] w fun e w' => e = .returned (.tuple #[.int .i64 (ffV (slotsOf L) f : Int), .bool (ffB (slotsOf L) f)]) ∧ Below w.heap.size w w' := by
  have H := Lib.hid (rall_any h)
  have hle : (slotsOf L).length ≤ 34 := by have := slotsOf_le L; have := h.le; omega
  clear h
  go_enter Tryd.func35, Tryd.ntmps35
  go_wp2_with fail
  refine H.out.mono ?_
  rintro e w1 ⟨v, rfl, ho, hb⟩
  obtain ⟨A, c, rfl, hc1, hc2, hr⟩ := own_slice ho
  have HR := Lib.hid hr
  have HB := Lib.hid hb
  unfold maxLen at hc2
  clear ho hb hr
  go_wp2_with fail
  go_loopg [7] (slotsOf L).length (fun q v7 wr => ∃ j : Nat, j + q = (slotsOf L).length ∧ v7 = .int .i64 j ∧ ffV ((slotsOf L).drop j) f = ffV (slotsOf L) f ∧ ffB ((slotsOf L).drop j) f = ffB (slotsOf L) f ∧ w1 = wr)
  case atStart => exact ⟨0, by omega, rfl, by rw [List.drop_zero], by rw [List.drop_zero], rfl⟩
  case round =>
    obtain ⟨j, hj, rfl, h1, h2, rfl⟩ := hrel
    have HJ := Lib.hid hj
    have H1 := Lib.hid h1
    have H2 := Lib.hid h2
    by_cases hlt : j < (slotsOf L).length
    · obtain ⟨ad, u, rfl, hab, hx, hc⟩ := HR.out.at_ hlt
      rw [nats_at hlt] at hx
      simp only [Option.some.injEq] at hx
      subst hx
      by_cases hf : f ≤ ((slotsOf L)[j] : Int)
      · obtain ⟨p1, p2⟩ := ff_drop_pos hlt f hf
        rw [h1] at p1
        rw [h2] at p2
        obtain ⟨y, hy⟩ : ∃ y, (slotsOf L)[j] = y := ⟨_, rfl⟩
        rw [hy] at hc hf p1
        have P1 := Lib.hid p1
        have P2 := Lib.hid p2
        clear hj h1 h2 p1 p2 H1 H2 hy
        go_wp2_with fail
        go_ret2
        exact ⟨by rw [P1.out, P2.out]; rfl, HB.out⟩
      · obtain ⟨p1, p2⟩ := ff_drop_neg hlt f hf
        have P1 := Lib.hid p1
        have P2 := Lib.hid p2
        obtain ⟨y, hy⟩ : ∃ y, (slotsOf L)[j] = y := ⟨_, rfl⟩
        rw [hy] at hc hf
        clear hj h1 h2 p1 p2 hy
        go_wp2_with fail
        go_roundg (gk - 1)
        case measure => have := HJ.out; omega
        case rel => exact ⟨j + 1, by have := HJ.out; omega, by go_num, by rw [← P1.out]; exact H1.out, by rw [← P2.out]; exact H2.out, rfl⟩
    · have e8 : j = (slotsOf L).length := by omega
      rw [e8, List.drop_length] at h1 h2
      have h1' : ffV (slotsOf L) f = 0 := h1.symm
      have h2' : ffB (slotsOf L) f = false := h2.symm
      have P1 := Lib.hid h1'
      have P2 := Lib.hid h2'
      clear hj h1 h2 h1' h2' H1 H2
      subst e8
      go_wp2_with fail
      go_ret2
      exact ⟨by rw [P1.out, P2.out]; rfl, HB.out⟩
set_option maxHeartbeats 400000 in
theorem rlowest_any (h : RSet w g b L) :
    Calls Tryd.prog 36 #[.pointer (some ⟨g, 0, none⟩)] w fun e w' => e = .returned (.tuple #[.int .i64 (ffV (slotsOf L) 0 : Int), .bool (ffB (slotsOf L) 0)]) ∧ Below w.heap.size w w' := by
  have H := Lib.hid (rnext_any h 0)
  clear h
  go_enter Tryd.func36, Tryd.ntmps36
  go_wp2_with fail
  refine H.out.mono ?_
  rintro e w' ⟨rfl, hb⟩
  go_wp2_with fail
  go_ret2
  exact ⟨rfl, hb⟩
set_option maxHeartbeats 400000 in
theorem rnew_any (n : Nat) (w : World) (h1 : 1 ≤ n) (h2 : n ≤ 34) :
    Calls Tryd.prog 28 #[.int .i64 (n : Int)] w fun e w' => ∃ g b, e = .returned (.tuple #[.pointer (some ⟨g, 0, none⟩), .int .i64 0]) ∧ RSet w' g b (List.replicate n false) ∧ (∀ k, rfoot g b k → w.heap.size ≤ k) ∧ Below w.heap.size w w' := by
  have hmk := make_bools n (by omega)
  go_enter Tryd.func28, Tryd.ntmps28
  go_wp2_with fail
  go_ret2
  refine ⟨w.heap.size + 1, w.heap.size, rfl, ⟨⟨n, ?_, ?_⟩, by omega, by rw [List.length_replicate]; omega, by rw [List.length_replicate]; omega⟩, fun k hk => by rcases hk with rfl | rfl <;> omega, by go_grown⟩
  · rw [List.length_replicate]
    have := Blk.new (w.alloc (.cells (bvals (List.replicate n false)).toArray 4)) 69 #[.slice (some ⟨w.heap.size, 0, none⟩) n n]
    rw [World.size_alloc] at this
    exact this
  · rw [List.length_replicate]
    have := World.ownsRow_lit (base := 0) (e := 4) (size := 1) w (bvals (List.replicate n false)).toArray n (Nat.zero_le _) (by unfold maxLen; omega) (by simp [bvals])
    have h2 := this.alloc (.cells #[.slice (some ⟨w.heap.size, 0, none⟩) n n] 69)
    simpa using h2
set_option maxHeartbeats 400000 in
theorem rnew_bad (n : Int) (w : World) (h : n < 1 ∨ 34 < n) :
    Calls Tryd.prog 28 #[.int .i64 n] w fun e w' => e = .returned (.tuple #[.pointer none, .int .i64 2]) ∧ w = w' := by
  by_cases h1 : n < 1
  · clear h
    go_enter Tryd.func28, Tryd.ntmps28
    go_wp2_with fail
    go_ret2
    exact ⟨rfl, rfl⟩
  · have h2 : 34 < n := by omega
    clear h
    go_enter Tryd.func28, Tryd.ntmps28
    go_wp2_with fail
    go_ret2
    exact ⟨rfl, rfl⟩
set_option maxHeartbeats 1000000 in
theorem rcopy_any (h : RSet w g b L) :
    Calls Tryd.prog 34 #[.pointer (some ⟨g, 0, none⟩)] w fun e w' => ∃ g' b', e = .returned (.pointer (some ⟨g', 0, none⟩)) ∧ RSet w' g' b' L ∧ (∀ k, rfoot g' b' k → w.heap.size ≤ k) ∧ Below w.heap.size w w' := by
  obtain ⟨i0, hi0, hz0, hz1, hz2⟩ := info_parts bool_info
  obtain ⟨c, q0, qc, hr, hcm⟩ := h.parts
  have HV := Lib.hid (rvalid h)
  have hp := h.pos
  have hle := h.le
  have hglt : g < w.heap.size := h.lt g (.inl rfl)
  have HR : Hid (Reads (w.alloc (.cells #[] 4)) w.heap.size 1 (some ⟨b, 0, none⟩) L.length (bvals L)) := hr.alloc (Nat.le_refl _) _
  have HO : Hid ((w.alloc (.cells #[] 4)).ownsRow w.heap.size 4 1 (.slice (some ⟨w.heap.size, 0, none⟩) 0 0) 0 []) := World.ownsRow_lit (base := w.heap.size) (e := 4) (size := 1) w #[] 0 (Nat.le_refl _) (by unfold maxLen; omega) rfl
  unfold maxLen at hcm
  have hone : ∀ u ∈ bvals L, u.oneCell' = true := fun u hu => by simp only [bvals, List.mem_map] at hu; obtain ⟨x, _, rfl⟩ := hu; rfl
  have HONE := Lib.hid hone
  clear h hr qc hone
  go_enter Tryd.func34, Tryd.ntmps34
  go_wp2_with fail
  refine HV.out.mono ?_
  rintro e w' ⟨rfl, rfl⟩
  go_wp2_with (at_builtin
               refine wpList_append_any _ rfl (.tmp 6) (.tmp 10) _ rfl w.heap.size 4 i0 _ 1 1 Tryd.underlying25 hi0 hz0 hz1 hz2 rfl (by omega) _ 0 [] rfl
                 HO.out w.heap.size _ L.length _ (bvals L) rfl HR.out HONE.out (by simp only [maxLen]; omega) (by omega) (by simp) ?_
               intro v1 w4 hown1 hg1 hat1
               rw [Nat.zero_add, List.nil_append] at hown1
               obtain ⟨g4, c4, hv4, hb4, hl4⟩ := hown1.form hp
               subst hv4
               have HO4 := Lib.hid hown1
               have HB4 : Hid (Below w.heap.size w w4) := ((Below.refl _ w).alloc (Nat.le_refl _) _).grown hg1 (by simp) (fun q hq => (HO.out.lt q hq).1)
               clear hown1 hg1 hat1)
  go_ret
  refine ⟨w4.heap.size, g4, rfl, ⟨⟨c4, Blk.new w4 _ _, own_base (own_below' HO4.out ((Below.refl _ _).alloc (Nat.le_refl _) _)) (fun _ _ => Nat.zero_le _)⟩, by omega, hp, hle⟩, fun k hk => by
    have := HB4.out.size
    rcases hk with rfl | rfl <;> omega, HB4.out.alloc HB4.out.size _⟩
end
end Go.Proofs.YthmkaefpgcjlnaaDoor
