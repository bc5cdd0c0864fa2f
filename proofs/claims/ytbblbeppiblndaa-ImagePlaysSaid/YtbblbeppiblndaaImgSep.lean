/-
  The methods of an image and of the document's, in a list of objects apart from each other. Condition: they lie apart.
-/
import Derived.Test.YtbblbeppiblndaaImgShows
namespace Go.Proofs.Ytbblbeppiblndaa
open Go.RowKit
set_option linter.unusedVariables false
section
variable {B : Nat} {w0 w : World} {x y : Ob} {os : List Ob} {g : Nat} {fb : Option Nat} {l : List (BitVec 8)} {size dur : Nat}
theorem foot_some {fb' : Option Nat} {n : Nat} (h : ∀ k, fb' = some k → fb = some k ∨ n ≤ k) : ∀ k, foot g fb' k → foot g fb k ∨ n ≤ k := by
  intro k hk
  rcases hk with hk | hk
  · exact .inl (.inl hk)
  · rcases h k hk with e | e
    · exact .inl (.inr e)
    · exact .inr e
theorem sep_append (h : Sep B w0 w (x :: imgOb g fb l size dur :: os)) {v : Value} {b : List (BitVec 8)} (hv : Holds w v b) (hf : l.length + b.length ≤ size) :
    Calls Try.prog 19 #[.pointer (some ⟨g, 0, none⟩), v] w fun e w' => e = .returned (.int .i64 0) ∧ ∃ fb', Sep B w0 w' (x :: imgOb g fb' (l ++ b) size dur :: os) := by
  have hi : IsImg w g fb l size dur := h.get (.tail _ (.head _))
  obtain ⟨A, n, c, rfl, hn, _, _, hr⟩ := hv
  exact (append_img hi A n c _ b hr (by omega)).mono fun e w' ⟨h1, fb', h2, h3, h4⟩ => ⟨h1, fb', h.step1 (a' := imgOb g fb' (l ++ b) size dur) h3 h2 (foot_some (fresh_of h4))⟩
theorem sep_append_full (h : Sep B w0 w (x :: imgOb g fb l size dur :: os)) {v : Value} {b : List (BitVec 8)} (hv : Holds w v b) (hf : size < l.length + b.length) :
    Calls Try.prog 19 #[.pointer (some ⟨g, 0, none⟩), v] w fun e w' => e = .returned (.int .i64 4) ∧ Sep B w0 w' (x :: imgOb g fb l size dur :: os) := by
  have hi : IsImg w g fb l size dur := h.get (.tail _ (.head _))
  obtain ⟨A, n, c, rfl, hn, h1, h2, hr⟩ := hv
  exact (append_img_full hi A n c (by omega) (by omega)).mono fun e w' ⟨h1, q, h2⟩ => ⟨h1, by rw [h2]; exact h.drewN q⟩
theorem sep_sync (h : Sep B w0 w (x :: imgOb g fb l size dur :: os)) :
    Calls Try.prog 21 #[.pointer (some ⟨g, 0, none⟩)] w fun e w' => e = .returned (.tuple #[]) ∧ Sep B w0 w' (x :: imgOb g fb l size l.length :: os) :=
  (sync_img (show IsImg w g fb l size dur from h.get (.tail _ (.head _)))).mono fun e w' ⟨h1, h2, h3⟩ => ⟨h1, h.step1 (a' := imgOb g fb l size l.length) h3 h2 (fun k hk => .inl hk)⟩
theorem sep_erase (h : Sep B w0 w (x :: imgOb g fb l size dur :: os)) :
    Calls Try.prog 24 #[.pointer (some ⟨g, 0, none⟩)] w fun e w' => e = .returned (.tuple #[]) ∧ Sep B w0 w' (x :: imgOb g none [] size 0 :: os) :=
  (erase_img (show IsImg w g fb l size dur from h.get (.tail _ (.head _)))).mono fun e w' ⟨h1, h2, h3⟩ => ⟨h1, h.step1 (a' := imgOb g none [] size 0) h3 h2 (foot_some (fun k hk => by cases hk))⟩
theorem sep_crash (h : Sep B w0 w (x :: imgOb g fb l size dur :: os)) (keep : Int) (hk : 0 ≤ keep) (hk2 : keep ≤ 9223372036854775807) (m : Nat) (hm : m = dur + min keep.toNat (l.length - dur)) :
    Calls Try.prog 13 #[.pointer (some ⟨g, 0, none⟩), .int .i64 keep] w fun e w' => e = .returned (.int .i64 0) ∧ Sep B w0 w' (x :: imgOb g fb (l.take m) size m :: os) := by
  subst hm
  exact (crash_img (show IsImg w g fb l size dur from h.get (.tail _ (.head _))) keep hk hk2).mono fun e w' ⟨h1, h2, h3⟩ => ⟨h1, h.step1 (a' := imgOb g fb _ size _) h3 h2 (fun k hk => .inl hk)⟩
theorem sep_copy (h : Sep B w0 w os) (hi : IsImg w g fb l size dur) :
    Calls Try.prog 26 #[.pointer (some ⟨g, 0, none⟩)] w fun e w' => ∃ g' fb', e = .returned (.pointer (some ⟨g', 0, none⟩)) ∧ Sep B w0 w' (imgOb g' fb' l size dur :: os) :=
  (copy_img hi).mono fun e w' ⟨g', fb', h1, h2, h3, h4, h5⟩ => ⟨g', fb', h1, h.add (a := imgOb g' fb' l size dur) h5 h2 (fun k hk => by
    rcases hk with rfl | hk
    · exact h3
    · exact h4 k hk)⟩
theorem sep_new (h : Sep B w0 w os) (size : Nat) (h1 : 1 ≤ size) (h2 : size ≤ 8192) :
    Calls Try.prog 17 #[.int .i64 (size : Int)] w fun e w' => ∃ g, e = .returned (.tuple #[.pointer (some ⟨g, 0, none⟩), .int .i64 0]) ∧ Sep B w0 w' (imgOb g none [] size 0 :: os) :=
  (new_img size w h1 h2).mono fun e w' ⟨g, h1, h2, h3, h4⟩ => ⟨g, h1, h.add (a := imgOb g none [] size 0) h4 h2 (fun k hk => by
    rcases hk with rfl | hk
    · exact h3
    · cases hk)⟩
/-! ### the document's -/
theorem sep_append_ref (h : Sep B w0 w (x :: y :: refOb g fb l size dur :: os)) {v : Value} {b : List (BitVec 8)} (hv : Holds w v b) (hf : l.length + b.length ≤ size) :
    Calls Try.prog 20 #[.pointer (some ⟨g, 0, none⟩), v] w fun e w' => e = .returned (.int .i64 0) ∧ ∃ fb', Sep B w0 w' (x :: y :: refOb g fb' (l ++ b) size dur :: os) := by
  have hi : IsRef w g fb l size dur := h.get (.tail _ (.tail _ (.head _)))
  obtain ⟨A, n, c, rfl, hn, _, _, hr⟩ := hv
  exact (append_ref hi A n c b hr (by omega)).mono fun e w' ⟨h1, fb', h2, h3, h4⟩ => ⟨h1, fb', h.step2 (a' := refOb g fb' (l ++ b) size dur) h3 h2 (foot_some (fun k hk => .inr (h4 k hk)))⟩
theorem sep_append_full_ref (h : Sep B w0 w (x :: y :: refOb g fb l size dur :: os)) {v : Value} {b : List (BitVec 8)} (hv : Holds w v b) (hf : size < l.length + b.length) :
    Calls Try.prog 20 #[.pointer (some ⟨g, 0, none⟩), v] w fun e w' => e = .returned (.int .i64 4) ∧ Sep B w0 w' (x :: y :: refOb g fb l size dur :: os) := by
  have hi : IsRef w g fb l size dur := h.get (.tail _ (.tail _ (.head _)))
  obtain ⟨A, n, c, rfl, hn, h1, h2, hr⟩ := hv
  exact (append_ref_full hi A n c (by omega) (by omega)).mono fun e w' ⟨h1, q, h2⟩ => ⟨h1, by rw [h2]; exact h.drewN q⟩
theorem sep_sync_ref (h : Sep B w0 w (x :: y :: refOb g fb l size dur :: os)) :
    Calls Try.prog 22 #[.pointer (some ⟨g, 0, none⟩)] w fun e w' => e = .returned (.tuple #[]) ∧ Sep B w0 w' (x :: y :: refOb g fb l size l.length :: os) :=
  (sync_ref (show IsRef w g fb l size dur from h.get (.tail _ (.tail _ (.head _))))).mono fun e w' ⟨h1, h2, h3⟩ => ⟨h1, h.step2 (a' := refOb g fb l size l.length) h3 h2 (fun k hk => .inl hk)⟩
theorem sep_erase_ref (h : Sep B w0 w (x :: y :: refOb g fb l size dur :: os)) :
    Calls Try.prog 25 #[.pointer (some ⟨g, 0, none⟩)] w fun e w' => e = .returned (.tuple #[]) ∧ Sep B w0 w' (x :: y :: refOb g none [] size 0 :: os) :=
  (erase_ref (show IsRef w g fb l size dur from h.get (.tail _ (.tail _ (.head _))))).mono fun e w' ⟨h1, h2, h3⟩ => ⟨h1, h.step2 (a' := refOb g none [] size 0) h3 h2 (foot_some (fun k hk => by cases hk))⟩
theorem sep_crash_ref (h : Sep B w0 w (x :: y :: refOb g fb l size dur :: os)) (keep : Int) (hk : 0 ≤ keep) (hk2 : keep ≤ 9223372036854775807) (m : Nat) (hm : m = dur + min keep.toNat (l.length - dur)) :
    Calls Try.prog 23 #[.pointer (some ⟨g, 0, none⟩), .int .i64 keep] w fun e w' => e = .returned (.int .i64 0) ∧ ∃ fb', Sep B w0 w' (x :: y :: refOb g fb' (l.take m) size m :: os) :=
  (crash_ref (show IsRef w g fb l size dur from h.get (.tail _ (.tail _ (.head _)))) keep hk hk2 m hm).mono fun e w' ⟨h1, fb', h2, h3, h4⟩ => ⟨h1, fb', h.step2 (a' := refOb g fb' _ size _) h3 h2 (foot_some (fun k hk => .inr (h4 k hk)))⟩
theorem sep_copy_ref (h : Sep B w0 w os) (hi : IsRef w g fb l size dur) :
    Calls Try.prog 27 #[.pointer (some ⟨g, 0, none⟩)] w fun e w' => ∃ g' fb', e = .returned (.pointer (some ⟨g', 0, none⟩)) ∧ Sep B w0 w' (refOb g' fb' l size dur :: os) :=
  (copy_ref hi).mono fun e w' ⟨g', fb', h1, h2, h3, h4, h5⟩ => ⟨g', fb', h1, h.add (a := refOb g' fb' l size dur) h5 h2 (fun k hk => by
    rcases hk with rfl | hk
    · exact h3
    · exact h4 k hk)⟩
theorem sep_new_ref (h : Sep B w0 w os) (size : Nat) (h1 : 1 ≤ size) (h2 : size ≤ 8192) :
    Calls Try.prog 18 #[.int .i64 (size : Int)] w fun e w' => ∃ g, e = .returned (.tuple #[.pointer (some ⟨g, 0, none⟩), .int .i64 0]) ∧ Sep B w0 w' (refOb g none [] size 0 :: os) :=
  (new_ref size w h1 h2).mono fun e w' ⟨g, h1, h2, h3, h4⟩ => ⟨g, h1, h.add (a := refOb g none [] size 0) h4 h2 (fun k hk => by
    rcases hk with rfl | hk
    · exact h3
    · cases hk)⟩
end
end Go.Proofs.Ytbblbeppiblndaa
