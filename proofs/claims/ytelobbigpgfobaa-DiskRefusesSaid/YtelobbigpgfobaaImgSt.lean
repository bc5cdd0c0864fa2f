/-
  An image of a call's own, together with byte slices of the call's own that stay apart from it: the image's methods once more, in that form; Move.data. Conditions: the image is as the methods leave it.
-/
import Derived.Test.YtelobbigpgfobaaImg5
namespace Go.Proofs.Ytelobbigpgfobaa
open Go.RowKit
set_option linter.unusedVariables false
/-- A byte slice of a call's own. -/
def Own8 (w : World) (B : Nat) (v : Value) (l : List (BitVec 8)) : Prop := w.ownsRow B 5 1 v l.length (u8s l)
theorem Own8.of {w : World} {B n : Nat} {v : Value} {l : List (BitVec 8)} (h : w.ownsRow B 5 1 v n (u8s l)) : Own8 w B v l ∧ n = l.length := by
  have := h.1
  rw [u8s_length, Nat.mul_one] at this
  exact ⟨by unfold Own8; rw [this]; exact h, this.symm⟩
theorem Own8.holds {w : World} {B : Nat} {v : Value} {l : List (BitVec 8)} (h : Own8 w B v l) : Holds w v l := Holds.of_own h
/-- An image and byte slices, all from block B on, apart from each other; what was there before the world w0 is as it was. -/
structure St (B : Nat) (w0 w : World) (g : Nat) (fb : Option Nat) (l : List (BitVec 8)) (size dur : Nat) (vs : List (Value × List (BitVec 8))) : Prop where
  img : IsImg w g fb l size dur
  base : ∀ k, foot g fb k → B ≤ k
  bel : Below B w0 w
  big : B ≤ w.heap.size
  held : ∀ p, p ∈ vs → Own8 w B p.1 p.2 ∧ ∀ k, p.1.ownBlock = some k → ¬ foot g fb k
section
variable {B : Nat} {w0 w : World} {g : Nat} {fb : Option Nat} {l : List (BitVec 8)} {size dur : Nat} {vs : List (Value × List (BitVec 8))}
theorem St.below {w' : World} (h : St B w0 w g fb l size dur vs) (hb : Below w.heap.size w w') : St B w0 w' g fb l size dur vs :=
  ⟨h.img.chg (F := fun _ => False) (Chg.of_below hb) (fun _ _ h => h), h.base, h.bel.trans (hb.mono h.big), Nat.le_trans h.big hb.size, fun p hp => ⟨own_below' (h.held p hp).1 hb, (h.held p hp).2⟩⟩
theorem St.drewN (h : St B w0 w g fb l size dur vs) (q : Nat) : St B w0 (w.drewN q) g fb l size dur vs := h.below ⟨rfl, rfl, rfl, Nat.le_refl _, fun _ _ => rfl⟩
theorem St.drew (h : St B w0 w g fb l size dur vs) : St B w0 w.drew g fb l size dur vs := h.below ⟨rfl, rfl, rfl, Nat.le_refl _, fun _ _ => rfl⟩
theorem St.alloc (h : St B w0 w g fb l size dur vs) (o : Obj) : St B w0 (w.alloc o) g fb l size dur vs := h.below ((Below.refl _ _).alloc (Nat.le_refl _) o)
theorem St.add {v : Value} {m : List (BitVec 8)} (h : St B w0 w g fb l size dur vs) (ho : Own8 w B v m) (hd : ∀ k, v.ownBlock = some k → ¬ foot g fb k) : St B w0 w g fb l size dur ((v, m) :: vs) :=
  ⟨h.img, h.base, h.bel, h.big, fun p hp => by
    rcases List.mem_cons.1 hp with rfl | hp
    · exact ⟨ho, hd⟩
    · exact h.held p hp⟩
theorem St.get {v : Value} {m : List (BitVec 8)} (h : St B w0 w g fb l size dur vs) (hm : (v, m) ∈ vs) : Own8 w B v m := (h.held _ hm).1
theorem St.none (h : St B w0 w g fb l size dur vs) : St B w0 w g fb l size dur [] := ⟨h.img, h.base, h.bel, h.big, fun p hp => by cases hp⟩
theorem St.chg {w' : World} {fb' : Option Nat} {l' : List (BitVec 8)} {size' dur' : Nat} (h : St B w0 w g fb l size dur vs) (hi : IsImg w' g fb' l' size' dur') (hc : Chg (foot g fb) w w') (hf : ∀ k, fb' = some k → fb = some k ∨ w.heap.size ≤ k) : St B w0 w' g fb' l' size' dur' vs := by
  have hbase : ∀ k, foot g fb' k → B ≤ k := by
    intro k hk
    rcases hk with rfl | hk
    · exact h.base _ (.inl rfl)
    · rcases hf k hk with e | e
      · exact h.base _ (.inr e)
      · have := h.big; omega
  refine ⟨hi, hbase, h.bel.trans ⟨hc.os, hc.tape, hc.output, hc.size, fun k hk => hc.block k (by have := h.big; omega) (fun e => by have := h.base k e; omega)⟩, Nat.le_trans h.big hc.size, fun p hp => ?_⟩
  obtain ⟨ho, hd⟩ := h.held p hp
  refine ⟨own_chg ho hc hd, fun k hk e => ?_⟩
  rcases e with rfl | e
  · exact hd _ hk (.inl rfl)
  · rcases hf k e with e' | e'
    · exact hd _ hk (.inr e')
    · have := (ho.lt k hk).2
      omega
theorem fresh_of {fb' : Option Nat} {n : Nat} (h : fb' = fb ∨ ∃ k, fb' = some k ∧ n ≤ k) : ∀ k, fb' = some k → fb = some k ∨ n ≤ k := by
  intro k hk
  rcases h with rfl | ⟨k', e, hk'⟩
  · exact .inl hk
  · rw [e] at hk; injection hk with hk; exact .inr (by omega)
theorem st_len (h : St B w0 w g fb l size dur vs) : Calls Try.prog 39 #[.pointer (some ⟨g, 0, none⟩)] w fun e w' => e = .returned (.int .i64 (l.length : Int)) ∧ w = w' := len_img h.img
theorem st_durable (h : St B w0 w g fb l size dur vs) : Calls Try.prog 40 #[.pointer (some ⟨g, 0, none⟩)] w fun e w' => e = .returned (.int .i64 (dur : Int)) ∧ w = w' := durable_img h.img
theorem st_room (h : St B w0 w g fb l size dur vs) : Calls Try.prog 41 #[.pointer (some ⟨g, 0, none⟩)] w fun e w' => e = .returned (.int .i64 ((size : Int) - (l.length : Int))) ∧ St B w0 w' g fb l size dur vs ∧ Below w.heap.size w w' :=
  (room_img h.img).mono fun e w' ⟨h1, q, h2⟩ => ⟨h1, by rw [h2]; exact h.drewN q, by rw [h2]; exact ⟨rfl, rfl, rfl, Nat.le_refl _, fun _ _ => rfl⟩⟩
theorem st_sync (h : St B w0 w g fb l size dur vs) : Calls Try.prog 45 #[.pointer (some ⟨g, 0, none⟩)] w fun e w' => e = .returned (.tuple #[]) ∧ St B w0 w' g fb l size l.length vs ∧ Chg (foot g fb) w w' :=
  (sync_img h.img).mono fun e w' ⟨h1, h2, h3⟩ => ⟨h1, h.chg h2 h3 (fun _ => .inl), h3⟩
theorem st_erase (h : St B w0 w g fb l size dur vs) : Calls Try.prog 47 #[.pointer (some ⟨g, 0, none⟩)] w fun e w' => e = .returned (.tuple #[]) ∧ St B w0 w' g none [] size 0 vs ∧ Chg (foot g fb) w w' :=
  (erase_img h.img).mono fun e w' ⟨h1, h2, h3⟩ => ⟨h1, h.chg h2 h3 (fun k hk => by cases hk), h3⟩
theorem st_crash (h : St B w0 w g fb l size dur vs) (keep : Int) (hk : 0 ≤ keep) (hk2 : keep ≤ 9223372036854775807) (m : Nat) (hm : m = dur + min keep.toNat (l.length - dur)) :
    Calls Try.prog 52 #[.pointer (some ⟨g, 0, none⟩), .int .i64 keep] w fun e w' => e = .returned (.int .i64 0) ∧ St B w0 w' g fb (l.take m) size m vs ∧ Chg (foot g fb) w w' := by
  subst hm
  exact (crash_img h.img keep hk hk2).mono fun e w' ⟨h1, h2, h3⟩ => ⟨h1, h.chg h2 h3 (fun _ => .inl), h3⟩
theorem st_crash_neg (h : St B w0 w g fb l size dur vs) (keep : Int) (hk : keep < 0) :
    Calls Try.prog 52 #[.pointer (some ⟨g, 0, none⟩), .int .i64 keep] w fun e w' => e = .returned (.int .i64 2) ∧ w = w' := crash_img_neg h.img keep hk
theorem st_append (h : St B w0 w g fb l size dur vs) {v : Value} {b : List (BitVec 8)} (hv : Holds w v b) (hf : l.length + b.length ≤ size) :
    Calls Try.prog 43 #[.pointer (some ⟨g, 0, none⟩), v] w fun e w' => e = .returned (.int .i64 0) ∧ ∃ fb', St B w0 w' g fb' (l ++ b) size dur vs ∧ Chg (foot g fb) w w' ∧ (fb' = fb ∨ ∃ k, fb' = some k ∧ w.heap.size ≤ k) := by
  obtain ⟨A, n, c, rfl, hn, _, _, hr⟩ := hv
  exact (append_img h.img A n c _ b hr (by omega)).mono fun e w' ⟨h1, fb', h2, h3, h4⟩ => ⟨h1, fb', h.chg h2 h3 (fresh_of h4), h3, h4⟩
theorem st_append_full (h : St B w0 w g fb l size dur vs) {v : Value} {b : List (BitVec 8)} (hv : Holds w v b) (hf : size < l.length + b.length) :
    Calls Try.prog 43 #[.pointer (some ⟨g, 0, none⟩), v] w fun e w' => e = .returned (.int .i64 4) ∧ St B w0 w' g fb l size dur vs ∧ Below w.heap.size w w' := by
  obtain ⟨A, n, c, rfl, hn, h1, h2, hr⟩ := hv
  exact (append_img_full h.img A n c (by omega) (by omega)).mono fun e w' ⟨h1, q, h2⟩ => ⟨h1, by rw [h2]; exact h.drewN q, by rw [h2]; exact ⟨rfl, rfl, rfl, Nat.le_refl _, fun _ _ => rfl⟩⟩
theorem st_read (h : St B w0 w g fb l size dur vs) (off n : Int) (a b : Nat) (ha : off = a) (hb : n = b) (hin : a + b ≤ l.length) :
    Calls Try.prog 37 #[.pointer (some ⟨g, 0, none⟩), .int .i64 off, .int .i64 n] w fun e w' => ∃ v, e = .returned (.tuple #[v, .int .i64 0]) ∧ St B w0 w' g fb l size dur ((v, (l.drop a).take b) :: vs) ∧ w'.ownsRow w.heap.size 5 1 v b (u8s ((l.drop a).take b)) ∧ Below w.heap.size w w' := by
  subst ha hb
  refine (read_img h.img a b hin).mono fun e w' ⟨v, h1, h2, h3⟩ => ⟨v, h1, ?_, h2, h3⟩
  refine (h.below h3).add ?_ ?_
  · have h4 := own_base h2 (base' := B) (fun k hk => by have := (h2.lt k hk).1; have := h.big; omega)
    exact (Own8.of h4).1
  · intro k hk e
    have h4 := h.img.lt k e
    have h5 := (h2.lt k hk).1
    omega
theorem st_read_bad (h : St B w0 w g fb l size dur vs) (off n : Int) (hbad : badRead l.length off n) :
    Calls Try.prog 37 #[.pointer (some ⟨g, 0, none⟩), .int .i64 off, .int .i64 n] w fun e w' => e = .returned (.tuple #[.slice none 0 0, .int .i64 3]) ∧ w = w' := read_img_bad h.img off n hbad
theorem st_new (w : World) (size : Nat) (h1 : 1 ≤ size) (h2 : size ≤ 8192) :
    Calls Try.prog 48 #[.int .i64 (size : Int)] w fun e w' => ∃ g, e = .returned (.tuple #[.pointer (some ⟨g, 0, none⟩), .int .i64 0]) ∧ St w.heap.size w w' g none [] size 0 [] :=
  (new_img size w h1 h2).mono fun e w' ⟨g, h1, h2, h3, h4⟩ => by
    refine ⟨g, h1, ⟨h2, fun k hk => ?_, h4, h4.size, fun p hp => by cases hp⟩⟩
    rcases hk with rfl | hk
    · exact h3
    · cases hk
end
theorem holds_new (W : World) (fr : Nat × Nat) (cs : Array Value) (l : List (BitVec 8)) (n c : Nat) (hn : n = l.length) (hc : n ≤ c) (hm : c ≤ 65536) (hcs : cs = (u8s l).toArray) :
    Holds (W.alloc (.cells cs 5 fr)) (.slice (some ⟨W.heap.size, 0, none⟩) n c) l :=
  ⟨_, n, c, rfl, hn, hc, by unfold maxLen; omega, by have := reads_new W 5 cs fr l n hn hcs; simpa using this⟩
theorem holds_nil (w : World) : Holds w (.slice none 0 0) [] := ⟨none, 0, 0, rfl, rfl, Nat.le_refl _, Nat.zero_le _, Reads.none_⟩
/-! ### the bytes of a move -/
def moveData (n b : BitVec 8) : List (BitVec 8) := (List.range (n.toNat % 40)).map fun i => b + BitVec.ofNat 8 i
theorem moveData_length (n b : BitVec 8) : (moveData n b).length = n.toNat % 40 := by simp [moveData]
theorem n8_nat (b : BitVec 8) : n8 b = (b.toNat : Int) := by unfold n8; rfl
theorem n8_add (b : BitVec 8) (i : Nat) (hi : i < 256) : (n8 b + (i : Int)) % (256 : Int) = n8 (b + BitVec.ofNat 8 i) := by
  rw [n8_nat, n8_nat, BitVec.toNat_add, BitVec.toNat_ofNat]
  omega
/-- Bytes, filled up to j. -/
def bTo (l : List (BitVec 8)) (j : Nat) : Array Value := (u8s (l.take j) ++ u8s (zbytes (l.length - j))).toArray
theorem bTo_zero (l : List (BitVec 8)) : bTo l 0 = (u8s (zbytes l.length)).toArray := by simp [bTo, u8s]
theorem bTo_all (l : List (BitVec 8)) : bTo l l.length = (u8s l).toArray := by simp [bTo, u8s, zbytes]
theorem bTo_next (x : List (BitVec 8)) (j : Nat) (h : j < x.length) : (bTo x j)[j]? = some (.int .u8 0) := by
  have e : ∃ q, x.length - j = q + 1 := ⟨x.length - j - 1, by omega⟩
  obtain ⟨q, hq⟩ := e
  simp only [bTo, hq, List.getElem?_toArray]
  rw [List.getElem?_append_right (by rw [u8s_length, List.length_take]; omega), u8s_length, List.length_take, show j - min j x.length = 0 by omega]
  simp [u8s, zbytes, u8v, n8, List.replicate_succ]
theorem bTo_set (x : List (BitVec 8)) (j : Nat) (h : j < x.length) : (bTo x j).setIfInBounds j (.int .u8 (n8 x[j])) = bTo x (j + 1) := by
  have e : ∃ q, x.length - j = q + 1 := ⟨x.length - j - 1, by omega⟩
  obtain ⟨q, hq⟩ := e
  have hq2 : x.length - (j + 1) = q := by omega
  simp only [bTo, hq, hq2, List.setIfInBounds_toArray]
  congr 1
  have hz : u8s (zbytes (q + 1)) = .int .u8 0 :: u8s (zbytes q) := by simp [u8s, zbytes, u8v, n8, List.replicate_succ]
  have hl : (u8s (x.take j)).length = j := by rw [u8s_length, List.length_take]; omega
  rw [hz, List.set_append, if_neg (by omega), hl, Nat.sub_self, take_snoc x j h, ← u8s_append, List.append_assoc]
  rfl
theorem make_bytes (kl : IntKind) (k : Nat) (hk : k ≤ 65536) (w : World) : (Instr.makeSlice 36 (.int kl (k : Int)) (.int kl (k : Int))).run Try.prog w = .ok (.slice (some ⟨w.heap.size, 0, none⟩) k k) (w.alloc (.cells (u8s (zbytes k)).toArray 5)) := by
  obtain ⟨i0, hi0, hz0, hz1, hz2⟩ := info_parts u8_info
  have hr := run_make (P := Try.prog) w 36 5 i0 _ Try.underlying36 hi0 hz0 kl kl k k (by omega) (by omega) (by rw [hz2]; omega) (by omega)
  rw [Int.toNat_natCast, hz1] at hr
  rw [hr, ← zcells]
end Go.Proofs.Ytelobbigpgfobaa
