/-
  Sets of both kinds, with what they hold as one datum (none: nil). Conditions: they are as their News make them; the library's table holds what its text lists.
-/
import Derived.Test.YthmkaefpgcjlnaaDoorRefSet3
namespace Go.Proofs.YthmkaefpgcjlnaaDoor
open Go.RowKit Go.Shelf
set_option linter.unusedVariables false
abbrev SetD := Option (List Bool)
def errO : SetD → Int → Int
  | none, _ => 1
  | some L, j => errAt L j
def setO (S : SetD) (j : Int) (v : Bool) : SetD := S.map fun L => setAt L j v
def hasO : SetD → Int → Bool
  | none, _ => false
  | some L, j => hasAt L j
def sizeO : SetD → Int
  | none => 0
  | some L => (L.length : Int)
def slO : SetD → List Nat
  | none => []
  | some L => slotsOf L
def takeErr : SetD → SetD → Int
  | some L, some M => if L.length = M.length then 0 else 2
  | _, _ => 1
def orO : SetD → SetD → SetD
  | some L, some M => if L.length = M.length then some (orL L M) else some L
  | S, _ => S
def notO : SetD → SetD → SetD
  | some L, some M => if L.length = M.length then some (notL L M) else some L
  | S, _ => S
def newO (n : Int) : SetD := if 1 ≤ n ∧ n ≤ 34 then some (List.replicate n.toNat false) else none
def newE (n : Int) : Int := if 1 ≤ n ∧ n ≤ 34 then 0 else 2
theorem slO_le {S : SetD} (h : ∀ L, S = some L → L.length ≤ 34) : (slO S).length ≤ 34 := by
  cases S with
  | none => exact Nat.zero_le _
  | some L => exact Nat.le_trans (slotsOf_le L) (h L rfl)
def pOb (p : Option Addr) (S : SetD) : Ob where
  P w := (S = none ∧ p = none) ∨ ∃ g L, S = some L ∧ p = some ⟨g, 0, none⟩ ∧ HasSet w g L
  F k := ∃ g, p = some ⟨g, 0, none⟩ ∧ k = g
  keep hc hd h := by
    rcases h with h | ⟨g, L, h1, h2, h3⟩
    · exact .inl h
    · exact .inr ⟨g, L, h1, h2, h3.keep hc (hd g ⟨g, h2, rfl⟩)⟩
  lt h k hk := by
    obtain ⟨g, h1, rfl⟩ := hk
    rcases h with h | ⟨g', L, h2, h3, h4⟩
    · rw [h.2] at h1; cases h1
    · rw [h3] at h1
      injection h1 with h1
      injection h1 with h1
      subst h1
      exact h4.lt
def qOb (p : Option Addr) (b : Nat) (S : SetD) : Ob where
  P w := (S = none ∧ p = none) ∨ ∃ g L, S = some L ∧ p = some ⟨g, 0, none⟩ ∧ RSet w g b L
  F k := ∃ g, p = some ⟨g, 0, none⟩ ∧ rfoot g b k
  keep hc hd h := by
    rcases h with h | ⟨g, L, h1, h2, h3⟩
    · exact .inl h
    · exact .inr ⟨g, L, h1, h2, h3.chg hc (fun k hk => hd k ⟨g, h2, hk⟩)⟩
  lt h k hk := by
    obtain ⟨g, h1, hk⟩ := hk
    rcases h with h | ⟨g', L, h2, h3, h4⟩
    · rw [h.2] at h1; cases h1
    · rw [h3] at h1
      injection h1 with h1
      injection h1 with h1
      subst h1
      exact h4.lt k hk
section
variable {w : World} {p pt : Option Addr} {b bt : Nat} {S T : SetD}
theorem p_le (h : (pOb p S).P w) : ∀ L, S = some L → L.length ≤ 34 := by
  intro L hL
  rcases h with h | ⟨g, L', h1, h2, h3⟩
  · rw [h.1] at hL; cases hL
  · rw [h1] at hL
    injection hL with hL
    subst hL
    obtain ⟨b, h3⟩ := h3
    exact h3.le
theorem p_add (h : (pOb p S).P w) (j : Int) :
    Calls Tryd.prog 25 #[.pointer p, .int .i64 j] w fun e w' => e = .returned (.int .i64 (errO S j)) ∧ (pOb p (setO S j true)).P w' ∧ Chg (pOb p S).F w w' := by
  rcases h with ⟨rfl, rfl⟩ | ⟨g, L, rfl, rfl, h⟩
  · exact (no_add (.inl rfl) j).mono fun e w' ⟨h1, h2⟩ => ⟨h1, .inl ⟨rfl, rfl⟩, by rw [← h2]; exact Chg.refl _ _⟩
  · exact (add_any h j).mono fun e w' ⟨h1, h2, h3⟩ => ⟨h1, .inr ⟨g, _, rfl, rfl, h2⟩, h3.mono fun k _ hk => ⟨g, rfl, hk⟩⟩
theorem p_remove (h : (pOb p S).P w) (j : Int) :
    Calls Tryd.prog 26 #[.pointer p, .int .i64 j] w fun e w' => e = .returned (.int .i64 (errO S j)) ∧ (pOb p (setO S j false)).P w' ∧ Chg (pOb p S).F w w' := by
  rcases h with ⟨rfl, rfl⟩ | ⟨g, L, rfl, rfl, h⟩
  · exact (no_remove (.inl rfl) j).mono fun e w' ⟨h1, h2⟩ => ⟨h1, .inl ⟨rfl, rfl⟩, by rw [← h2]; exact Chg.refl _ _⟩
  · exact (remove_any h j).mono fun e w' ⟨h1, h2, h3⟩ => ⟨h1, .inr ⟨g, _, rfl, rfl, h2⟩, h3.mono fun k _ hk => ⟨g, rfl, hk⟩⟩
theorem p_has (h : (pOb p S).P w) (j : Int) :
    Calls Tryd.prog 16 #[.pointer p, .int .i64 j] w fun e w' => e = .returned (.bool (hasO S j)) ∧ w = w' := by
  rcases h with ⟨rfl, rfl⟩ | ⟨g, L, rfl, rfl, h⟩
  · exact no_has (.inl rfl) j
  · exact has_any h j
theorem p_size (h : (pOb p S).P w) :
    Calls Tryd.prog 23 #[.pointer p] w fun e w' => e = .returned (.int .i64 (sizeO S)) ∧ w = w' := by
  rcases h with ⟨rfl, rfl⟩ | ⟨g, L, rfl, rfl, h⟩
  · exact no_size (.inl rfl)
  · exact size_of h
theorem p_next (h : (pOb p S).P w) (ht : TabIn w) (f : Int) (hf : -9223372036854775808 ≤ f ∧ f ≤ 9223372036854775807) :
    Calls Tryd.prog 17 #[.pointer p, .int .i64 f] w fun e w' => e = .returned (.tuple #[.int .i64 (ffV (slO S) f : Int), .bool (ffB (slO S) f)]) ∧ w = w' := by
  rcases h with ⟨rfl, rfl⟩ | ⟨g, L, rfl, rfl, h⟩
  · exact no_next (.inl rfl) f
  · exact next_of h ht f hf _ _ (ff_next L f)
theorem p_lowest (h : (pOb p S).P w) (ht : TabIn w) :
    Calls Tryd.prog 18 #[.pointer p] w fun e w' => e = .returned (.tuple #[.int .i64 (ffV (slO S) 0 : Int), .bool (ffB (slO S) 0)]) ∧ w = w' := by
  rcases h with ⟨rfl, rfl⟩ | ⟨g, L, rfl, rfl, h⟩
  · exact no_lowest (.inl rfl)
  · exact lowest_of h ht _ _ (ff_next L 0)
theorem p_same (h : (pOb p S).P w) (A : Option Addr) (c : Nat) (hr : Reads w w.heap.size 1 A (slO S).length (nats (slO S))) (hA : S = none → A = none ∧ c = 0) :
    Calls Tryd.prog 14 #[.pointer p, .slice A (slO S).length c] w fun e w' => e = .returned (.bool true) ∧ Below w.heap.size w w' := by
  rcases h with ⟨rfl, rfl⟩ | ⟨g, L, rfl, rfl, h⟩
  · obtain ⟨rfl, rfl⟩ := hA rfl
    exact same_no (.inl rfl)
  · exact same_of h A _ c w.heap.size rfl hr (Nat.le_refl _)
theorem p_union (h : (pOb p S).P w) (h' : (pOb pt T).P w) :
    Calls Tryd.prog 19 #[.pointer p, .pointer pt] w fun e w' => e = .returned (.int .i64 (takeErr S T)) ∧ (pOb p (orO S T)).P w' ∧ Chg (pOb p S).F w w' := by
  rcases h with ⟨rfl, rfl⟩ | ⟨g, L, rfl, rfl, h⟩
  · exact (no_union1 (.inl rfl) _).mono fun e w' ⟨h1, h2⟩ => ⟨h1, .inl ⟨rfl, rfl⟩, by rw [← h2]; exact Chg.refl _ _⟩
  · rcases h' with ⟨rfl, rfl⟩ | ⟨t, M, rfl, rfl, h'⟩
    · exact (no_union2 h (.inl rfl)).mono fun e w' ⟨h1, h2⟩ => ⟨h1, .inr ⟨g, L, rfl, rfl, by rw [← h2]; exact h⟩, by rw [← h2]; exact Chg.refl _ _⟩
    · by_cases hl : L.length = M.length
      · have e1 : takeErr (some L) (some M) = 0 := by simp [takeErr, hl]
        have e2 : orO (some L) (some M) = some (orL L M) := by simp [orO, hl]
        rw [e1, e2]
        exact (union_of h h' hl).mono fun e w' ⟨h1, h2, h3⟩ => ⟨h1, .inr ⟨g, _, rfl, rfl, h2⟩, h3.mono fun k _ hk => ⟨g, rfl, hk⟩⟩
      · have e1 : takeErr (some L) (some M) = 2 := by simp [takeErr, hl]
        have e2 : orO (some L) (some M) = some L := by simp [orO, hl]
        rw [e1, e2]
        exact (union_bad h h' hl).mono fun e w' ⟨h1, h2⟩ => ⟨h1, .inr ⟨g, L, rfl, rfl, by rw [h2]; exact h.below (bel_drewN _ _) h.lt⟩, by rw [h2]; exact (Chg.refl _ _).drewN 1⟩
theorem p_minus (h : (pOb p S).P w) (h' : (pOb pt T).P w) :
    Calls Tryd.prog 20 #[.pointer p, .pointer pt] w fun e w' => e = .returned (.int .i64 (takeErr S T)) ∧ (pOb p (notO S T)).P w' ∧ Chg (pOb p S).F w w' := by
  rcases h with ⟨rfl, rfl⟩ | ⟨g, L, rfl, rfl, h⟩
  · exact (no_minus1 (.inl rfl) _).mono fun e w' ⟨h1, h2⟩ => ⟨h1, .inl ⟨rfl, rfl⟩, by rw [← h2]; exact Chg.refl _ _⟩
  · rcases h' with ⟨rfl, rfl⟩ | ⟨t, M, rfl, rfl, h'⟩
    · exact (no_minus2 h (.inl rfl)).mono fun e w' ⟨h1, h2⟩ => ⟨h1, .inr ⟨g, L, rfl, rfl, by rw [← h2]; exact h⟩, by rw [← h2]; exact Chg.refl _ _⟩
    · by_cases hl : L.length = M.length
      · have e1 : takeErr (some L) (some M) = 0 := by simp [takeErr, hl]
        have e2 : notO (some L) (some M) = some (notL L M) := by simp [notO, hl]
        rw [e1, e2]
        exact (minus_of h h' hl).mono fun e w' ⟨h1, h2, h3⟩ => ⟨h1, .inr ⟨g, _, rfl, rfl, h2⟩, h3.mono fun k _ hk => ⟨g, rfl, hk⟩⟩
      · have e1 : takeErr (some L) (some M) = 2 := by simp [takeErr, hl]
        have e2 : notO (some L) (some M) = some L := by simp [notO, hl]
        rw [e1, e2]
        exact (minus_bad h h' hl).mono fun e w' ⟨h1, h2⟩ => ⟨h1, .inr ⟨g, L, rfl, rfl, by rw [h2]; exact h.below (bel_drewN _ _) h.lt⟩, by rw [h2]; exact (Chg.refl _ _).drewN 1⟩
theorem p_copy (h : (pOb p S).P w) :
    Calls Tryd.prog 33 #[.pointer p] w fun e w' => ∃ p', e = .returned (.pointer p') ∧ (pOb p' S).P w' ∧ (∀ k, (pOb p' S).F k → w.heap.size ≤ k) ∧ Below w.heap.size w w' := by
  rcases h with ⟨rfl, rfl⟩ | ⟨g, L, rfl, rfl, h⟩
  · exact (no_copy (.inl rfl)).mono fun e w' ⟨h1, h2⟩ => ⟨none, h1, .inl ⟨rfl, rfl⟩, (fun k hk => by obtain ⟨g, hg, _⟩ := hk; cases hg), by rw [← h2]; exact Below.refl _ _⟩
  · exact (copy_of h).mono fun e w' ⟨h1, h2, h3⟩ => ⟨_, h1, .inr ⟨_, L, rfl, rfl, h2⟩, fun k hk => by
      obtain ⟨g', hg, rfl⟩ := hk
      injection hg with hg
      injection hg with hg
      omega, h3⟩
theorem p_new (n : Int) (w : World) :
    Calls Tryd.prog 24 #[.int .i64 n] w fun e w' => ∃ p, e = .returned (.tuple #[.pointer p, .int .i64 (newE n)]) ∧ (pOb p (newO n)).P w' ∧ (∀ k, (pOb p (newO n)).F k → w.heap.size ≤ k) ∧ Below w.heap.size w w' ∧ (p = none ↔ newO n = none) := by
  unfold newO newE
  by_cases hn : 1 ≤ n ∧ n ≤ 34
  · obtain ⟨k, rfl⟩ := Int.eq_ofNat_of_zero_le (show 0 ≤ n by omega)
    rw [if_pos hn, if_pos hn, Int.toNat_natCast]
    exact (new_set k w (by omega) (by omega)).mono fun e w' ⟨h1, h2, h3⟩ => ⟨_, h1, .inr ⟨_, _, rfl, rfl, h2⟩, fun k hk => by
      obtain ⟨g', hg, rfl⟩ := hk
      injection hg with hg
      injection hg with hg
      omega, h3, by simp⟩
  · rw [if_neg hn, if_neg hn]
    exact (new_set_bad n w (by omega)).mono fun e w' ⟨h1, h2⟩ => ⟨none, h1, .inl ⟨rfl, rfl⟩, (fun k hk => by obtain ⟨g, hg, _⟩ := hk; cases hg), by rw [← h2]; exact Below.refl _ _, by simp⟩
/-! ### the document's -/
theorem q_set (h : (qOb p b S).P w) (j : Int) (v : Bool) :
    Calls Tryd.prog 47 #[.pointer p, .int .i64 j, .bool v] w fun e w' => e = .returned (.int .i64 (errO S j)) ∧ (qOb p b (setO S j v)).P w' ∧ Chg (qOb p b S).F w w' := by
  rcases h with ⟨rfl, rfl⟩ | ⟨g, L, rfl, rfl, h⟩
  · exact (rset_no w j v).mono fun e w' ⟨h1, h2⟩ => ⟨h1, .inl ⟨rfl, rfl⟩, by rw [← h2]; exact Chg.refl _ _⟩
  · exact (rset_any h j v).mono fun e w' ⟨h1, h2, h3⟩ => ⟨h1, .inr ⟨g, _, rfl, rfl, h2⟩, h3.mono fun k _ hk => ⟨g, rfl, hk⟩⟩
set_option maxHeartbeats 400000 in
theorem q_add (h : (qOb p b S).P w) (j : Int) :
    Calls Tryd.prog 29 #[.pointer p, .int .i64 j] w fun e w' => e = .returned (.int .i64 (errO S j)) ∧ (qOb p b (setO S j true)).P w' ∧ Chg (qOb p b S).F w w' := by
  have H := Lib.hid (q_set h j true)
  clear h
  go_enter Tryd.func29, Tryd.ntmps29
  go_wp2_with fail
  refine H.out.mono ?_
  rintro e w' ⟨rfl, h1, h2⟩
  go_wp2_with fail
  go_ret
  exact ⟨rfl, h1, h2⟩
set_option maxHeartbeats 400000 in
theorem q_remove (h : (qOb p b S).P w) (j : Int) :
    Calls Tryd.prog 30 #[.pointer p, .int .i64 j] w fun e w' => e = .returned (.int .i64 (errO S j)) ∧ (qOb p b (setO S j false)).P w' ∧ Chg (qOb p b S).F w w' := by
  have H := Lib.hid (q_set h j false)
  clear h
  go_enter Tryd.func30, Tryd.ntmps30
  go_wp2_with fail
  refine H.out.mono ?_
  rintro e w' ⟨rfl, h1, h2⟩
  go_wp2_with fail
  go_ret
  exact ⟨rfl, h1, h2⟩
theorem q_has (h : (qOb p b S).P w) (j : Int) :
    Calls Tryd.prog 37 #[.pointer p, .int .i64 j] w fun e w' => e = .returned (.bool (hasO S j)) ∧ w = w' := by
  rcases h with ⟨rfl, rfl⟩ | ⟨g, L, rfl, rfl, h⟩
  · exact rhas_no w j
  · exact rhas_any h j
theorem q_size (h : (qOb p b S).P w) :
    Calls Tryd.prog 38 #[.pointer p] w fun e w' => e = .returned (.int .i64 (sizeO S)) ∧ w = w' := by
  rcases h with ⟨rfl, rfl⟩ | ⟨g, L, rfl, rfl, h⟩
  · exact rsize_no w
  · exact rsize_of h
theorem q_all (h : (qOb p b S).P w) :
    Calls Tryd.prog 39 #[.pointer p] w fun e w' => ∃ A c, e = .returned (.slice A (slO S).length c) ∧ Reads w' w'.heap.size 1 A (slO S).length (nats (slO S)) ∧ (S = none → A = none ∧ c = 0) ∧ Below w.heap.size w w' := by
  rcases h with ⟨rfl, rfl⟩ | ⟨g, L, rfl, rfl, h⟩
  · exact (rall_no w).mono fun e w' ⟨h1, h2⟩ => ⟨none, 0, h1, Reads.none_, fun _ => ⟨rfl, rfl⟩, by rw [← h2]; exact Below.refl _ _⟩
  · refine (rall_any h).mono ?_
    rintro e w' ⟨v, h1, h2, h3⟩
    obtain ⟨A, c, rfl, _, _, hr⟩ := own_slice h2
    exact ⟨A, c, h1, hr, (fun e => by cases e), h3⟩
set_option maxHeartbeats 400000 in
theorem q_next (h : (qOb p b S).P w) (f : Int) :
    Calls Tryd.prog 35 #[.pointer p, .int .i64 f] w fun e w' => e = .returned (.tuple #[.int .i64 (ffV (slO S) f : Int), .bool (ffB (slO S) f)]) ∧ Below w.heap.size w w' := by
  rcases h with ⟨rfl, rfl⟩ | ⟨g, L, rfl, rfl, h⟩
  · exact (rnext_no w f).mono fun e w' ⟨h1, h2⟩ => ⟨h1, by rw [← h2]; exact Below.refl _ _⟩
  · exact rnext_any h f
set_option maxHeartbeats 400000 in
theorem q_lowest (h : (qOb p b S).P w) :
    Calls Tryd.prog 36 #[.pointer p] w fun e w' => e = .returned (.tuple #[.int .i64 (ffV (slO S) 0 : Int), .bool (ffB (slO S) 0)]) ∧ Below w.heap.size w w' := by
  have H := Lib.hid (q_next h 0)
  clear h
  go_enter Tryd.func36, Tryd.ntmps36
  go_wp2_with fail
  refine H.out.mono ?_
  rintro e w' ⟨rfl, hb⟩
  go_wp2_with fail
  go_ret2
  exact ⟨rfl, hb⟩
theorem q_take (h : (qOb p b S).P w) (h' : (qOb pt bt T).P w) (hd : ∀ k, (qOb pt bt T).F k → ¬ (qOb p b S).F k) (v : Bool) :
    Calls Tryd.prog 48 #[.pointer p, .pointer pt, .bool v] w fun e w' => e = .returned (.int .i64 (takeErr S T)) ∧ (qOb p b (if v then orO S T else notO S T)).P w' ∧ Chg (qOb p b S).F w w' := by
  rcases h with ⟨rfl, rfl⟩ | ⟨g, L, rfl, rfl, h⟩
  · exact (rtake_no1 w _ v).mono fun e w' ⟨h1, h2⟩ => ⟨h1, .inl ⟨by cases v <;> rfl, rfl⟩, by rw [← h2]; exact Chg.refl _ _⟩
  · rcases h' with ⟨rfl, rfl⟩ | ⟨t, M, rfl, rfl, h'⟩
    · exact (rtake_no2 h v).mono fun e w' ⟨h1, h2⟩ => ⟨h1, .inr ⟨g, L, by cases v <;> rfl, rfl, by rw [← h2]; exact h⟩, by rw [← h2]; exact Chg.refl _ _⟩
    · by_cases hl : L.length = M.length
      · have e1 : takeErr (some L) (some M) = 0 := by simp [takeErr, hl]
        have e2 : orO (some L) (some M) = some (orL L M) := by simp [orO, hl]
        have e3 : notO (some L) (some M) = some (notL L M) := by simp [notO, hl]
        rw [e1, e2, e3]
        refine (rtake_ok h h' (fun k hk hk2 => hd k ⟨t, rfl, hk⟩ ⟨g, rfl, hk2⟩) hl v).mono fun e w' ⟨h1, h2, h3⟩ => ⟨h1, .inr ⟨g, _, ?_, rfl, h2⟩, h3.mono fun k _ hk => ⟨g, rfl, hk⟩⟩
        cases v
        · rw [setAll_not hl]; rfl
        · rw [setAll_or hl]; rfl
      · have e1 : takeErr (some L) (some M) = 2 := by simp [takeErr, hl]
        have e2 : orO (some L) (some M) = some L := by simp [orO, hl]
        have e3 : notO (some L) (some M) = some L := by simp [notO, hl]
        rw [e1, e2, e3]
        exact (rtake_bad h h' hl v).mono fun e w' ⟨h1, h2⟩ => ⟨h1, .inr ⟨g, L, by cases v <;> rfl, rfl, h.below h2⟩, Chg.of_below h2⟩
set_option maxHeartbeats 400000 in
theorem q_union (h : (qOb p b S).P w) (h' : (qOb pt bt T).P w) (hd : ∀ k, (qOb pt bt T).F k → ¬ (qOb p b S).F k) :
    Calls Tryd.prog 31 #[.pointer p, .pointer pt] w fun e w' => e = .returned (.int .i64 (takeErr S T)) ∧ (qOb p b (orO S T)).P w' ∧ Chg (qOb p b S).F w w' := by
  have H := Lib.hid (q_take h h' hd true)
  clear h h' hd
  go_enter Tryd.func31, Tryd.ntmps31
  go_wp2_with fail
  refine H.out.mono ?_
  rintro e w' ⟨rfl, h1, h2⟩
  go_wp2_with fail
  go_ret
  exact ⟨rfl, h1, h2⟩
set_option maxHeartbeats 400000 in
theorem q_minus (h : (qOb p b S).P w) (h' : (qOb pt bt T).P w) (hd : ∀ k, (qOb pt bt T).F k → ¬ (qOb p b S).F k) :
    Calls Tryd.prog 32 #[.pointer p, .pointer pt] w fun e w' => e = .returned (.int .i64 (takeErr S T)) ∧ (qOb p b (notO S T)).P w' ∧ Chg (qOb p b S).F w w' := by
  have H := Lib.hid (q_take h h' hd false)
  clear h h' hd
  go_enter Tryd.func32, Tryd.ntmps32
  go_wp2_with fail
  refine H.out.mono ?_
  rintro e w' ⟨rfl, h1, h2⟩
  go_wp2_with fail
  go_ret
  exact ⟨rfl, h1, h2⟩
theorem q_copy (h : (qOb p b S).P w) :
    Calls Tryd.prog 34 #[.pointer p] w fun e w' => ∃ p' b', e = .returned (.pointer p') ∧ (qOb p' b' S).P w' ∧ (∀ k, (qOb p' b' S).F k → w.heap.size ≤ k) ∧ Below w.heap.size w w' := by
  rcases h with ⟨rfl, rfl⟩ | ⟨g, L, rfl, rfl, h⟩
  · exact (rcopy_no w).mono fun e w' ⟨h1, h2⟩ => ⟨none, 0, h1, .inl ⟨rfl, rfl⟩, (fun k hk => by obtain ⟨g, hg, _⟩ := hk; cases hg), by rw [← h2]; exact Below.refl _ _⟩
  · exact (rcopy_any h).mono fun e w' ⟨g', b', h1, h2, h3, h4⟩ => ⟨_, b', h1, .inr ⟨g', L, rfl, rfl, h2⟩, fun k hk => by
      obtain ⟨g2, hg, hk⟩ := hk
      injection hg with hg
      injection hg with hg
      subst hg
      exact h3 k hk, h4⟩
theorem q_new (n : Int) (w : World) :
    Calls Tryd.prog 28 #[.int .i64 n] w fun e w' => ∃ p b, e = .returned (.tuple #[.pointer p, .int .i64 (newE n)]) ∧ (qOb p b (newO n)).P w' ∧ (∀ k, (qOb p b (newO n)).F k → w.heap.size ≤ k) ∧ Below w.heap.size w w' ∧ (p = none ↔ newO n = none) := by
  unfold newO newE
  by_cases hn : 1 ≤ n ∧ n ≤ 34
  · obtain ⟨k, rfl⟩ := Int.eq_ofNat_of_zero_le (show 0 ≤ n by omega)
    rw [if_pos hn, if_pos hn, Int.toNat_natCast]
    exact (rnew_any k w (by omega) (by omega)).mono fun e w' ⟨g, b, h1, h2, h3, h4⟩ => ⟨_, b, h1, .inr ⟨g, _, rfl, rfl, h2⟩, fun k hk => by
      obtain ⟨g', hg, hk⟩ := hk
      injection hg with hg
      injection hg with hg
      subst hg
      exact h3 k hk, h4, by simp⟩
  · rw [if_neg hn, if_neg hn]
    exact (rnew_bad n w (by omega)).mono fun e w' ⟨h1, h2⟩ => ⟨none, 0, h1, .inl ⟨rfl, rfl⟩, (fun k hk => by obtain ⟨g, hg, _⟩ := hk; cases hg), by rw [← h2]; exact Below.refl _ _, by simp⟩
end
end Go.Proofs.YthmkaefpgcjlnaaDoor
