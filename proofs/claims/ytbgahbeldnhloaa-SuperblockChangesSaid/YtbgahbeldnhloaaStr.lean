/-
  Bytes as a string, and the conversion of bytes to a string. Condition: the bytes can be read.
-/
import Derived.Test.YtbgahbeldnhloaaProg
import Derived.Test.YtbgahbeldnhloaaBytes
import Derived.Laws.BytesString
import Derived.Laws.Strings
import Derived.Laws.CopyOwn
namespace Go.Proofs.Ytbgahbeldnhloaa
open Go.RowKit
set_option linter.unusedVariables false
/-- Bytes as a string. -/
def strOf (l : List (BitVec 8)) : ByteArray := (l.map n8).foldl (fun r n => r.push (UInt8.ofNat n.toNat)) ByteArray.empty
theorem strOf_list (l : List (BitVec 8)) : (strOf l).data.toList = l.map fun b => UInt8.ofNat b.toNat := by
  have h : ∀ (l : List (BitVec 8)) (s : ByteArray), ((l.map n8).foldl (fun r n => r.push (UInt8.ofNat n.toNat)) s).data.toList = s.data.toList ++ l.map fun b => UInt8.ofNat b.toNat := by
    intro l
    induction l with
    | nil => intro s; simp
    | cons b l ih =>
      intro s
      simp only [List.map_cons, List.foldl_cons]
      rw [ih]
      have e : (n8 b).toNat = b.toNat := by unfold n8; rfl
      rw [e]
      simp [ByteArray.push]
  have := h l ByteArray.empty
  unfold strOf
  rw [this]
  simp
theorem strOf_inj {l m : List (BitVec 8)} (h : strOf l = strOf m) : l = m := by
  have h1 := congrArg (fun s : ByteArray => s.data.toList) h
  simp only [strOf_list] at h1
  have hi : ∀ (l m : List (BitVec 8)), (l.map fun b => UInt8.ofNat b.toNat) = (m.map fun b => UInt8.ofNat b.toNat) → l = m := by
    intro l
    induction l with
    | nil => intro m h; cases m with
      | nil => rfl
      | cons b m => simp at h
    | cons a l ih => intro m h; cases m with
      | nil => simp at h
      | cons b m =>
        simp only [List.map_cons, List.cons.injEq] at h
        have e : a = b := by
          have := congrArg UInt8.toNat h.1
          simp only [UInt8.toNat_ofNat'] at this
          apply BitVec.eq_of_toNat_eq
          have h1 := a.isLt; have h2 := b.isLt
          omega
        rw [e, ih m h.2]
  exact hi l m h1
theorem str_beq (l m : List (BitVec 8)) : ((strOf l).toList == (strOf m).toList) = decide (l = m) := by
  by_cases h : l = m
  · subst h; simp
  · rw [decide_eq_false h, beq_eq_false_iff_ne]
    intro e
    apply h
    apply strOf_inj
    rw [ByteArray.toList_eq, ByteArray.toList_eq] at e
    exact ByteArray.ext (Array.toList_inj.1 e)
theorem str_bytes {w : World} {B : Nat} {A : Option Addr} {n c : Nat} {l : List (BitVec 8)} (h : Reads w B 1 A n (u8s l)) :
    (convert 26 9 (.slice A n c)).run Try.prog w = .ok (.string (strOf l)) w := by
  rw [run_convert_bytes_string w 26 9 5 A n c Try.underlying26 Try.underlying5 Try.underlying9]
  have hl := h.1
  rw [u8s_length, Nat.mul_one] at hl
  cases A with
  | none =>
    have hn0 : n = 0 := by
      rcases Nat.eq_zero_or_pos n with h0 | h0
      · exact h0
      · obtain ⟨ad, e, _⟩ := h.2 h0; cases e
    have : l = [] := List.eq_nil_of_length_eq_zero (by omega)
    subst this
    rfl
  | some a =>
    refine run_bytesToString w a n c (l.map n8) ?_
    have e : (l.map n8).map (Value.int .u8) = u8s l := by simp [u8s, u8v, Function.comp_def]
    rw [e]
    have hr := run_loadCells_list (P := Try.prog) w a (u8s l) (fun j v hv => by
      rcases Nat.eq_zero_or_pos n with h0 | h0
      · obtain ⟨hk, _⟩ := u8s_at hv; omega
      · obtain ⟨ad, e, _, hc⟩ := h.2 h0
        injection e with e
        subst e
        exact hc j v hv)
    rw [u8s_length, hl] at hr
    exact hr
end Go.Proofs.Ytbgahbeldnhloaa
