/-
  What the laws of the checksum are told of their arguments: bytes, words, ints. No condition beside what every row bears.
-/
import Derived.Test.YtpdlkdlciipdcaaCrcWorks
import Derived.Test.YtpdlkdlciipdcaaArgs
namespace Go.Proofs.Ytpdlkdlciipdcaa
open Go.RowKit Drum
set_option linter.unusedVariables false
theorem u8_of_wf {n : Int} (h : (Lit.int .u8 n).wf = true) : ∃ b : BitVec 8, n = n8 b := by
  simp [Lit.wf, IntKind.min, IntKind.max, IntKind.signed, IntKind.bits] at h
  exact ⟨BitVec.ofNat 8 n.toNat, by unfold n8; simp; omega⟩
theorem u32_of_wf {n : Int} (h : (Lit.int .u32 n).wf = true) : ∃ b : W32, n = n32 b := by
  simp [Lit.wf, IntKind.min, IntKind.max, IntKind.signed, IntKind.bits] at h
  exact ⟨BitVec.ofNat 32 n.toNat, by unfold n32; simp; omega⟩
theorem i64_of_wf {n : Int} (h : (Lit.int .i64 n).wf = true) : -9223372036854775808 ≤ n ∧ n ≤ 9223372036854775807 := by
  simp [Lit.wf, IntKind.min, IntKind.max, IntKind.signed, IntKind.bits] at h
  omega
theorem u8s_of_wf : ∀ zs : List Int, (∀ n ∈ zs, (Lit.int .u8 n).wf = true) → ∃ l : List (BitVec 8), zs.map (Value.int .u8) = u8s l := by
  intro zs
  induction zs with
  | nil => intro _; exact ⟨[], rfl⟩
  | cons z zs ih =>
    intro h
    obtain ⟨b, rfl⟩ := u8_of_wf (h z (by simp))
    obtain ⟨l, hl⟩ := ih (fun n hn => h n (by simp [hn]))
    exact ⟨b :: l, by simp [u8s, u8v, hl]⟩
theorem bytes_of_all : ∀ zs : List Value, (∀ k, k < zs.length → ∃ b : BitVec 8, zs[k]? = some (.int .u8 (n8 b))) → ∃ l : List (BitVec 8), zs = u8s l := by
  intro zs
  induction zs with
  | nil => intro _; exact ⟨[], rfl⟩
  | cons z zs ih =>
    intro h
    obtain ⟨b, hb⟩ := h 0 (by simp)
    obtain ⟨l, rfl⟩ := ih (fun k hk => by simpa using h (k + 1) (by simpa using hk))
    have : z = .int .u8 (n8 b) := by simpa using hb
    subst this
    exact ⟨b :: l, rfl⟩
theorem reads_one {w : World} {a : Addr} {b : BitVec 8} (h : w.cell? a = some (.int .u8 (n8 b))) {B : Nat} (hB : a.block < B) : Reads w B 1 (some a) 1 (u8s [b]) := by
  refine ⟨rfl, fun _ => ⟨a, rfl, hB, fun j u hu => ?_⟩⟩
  obtain ⟨hk, rfl⟩ := u8s_at hu
  have : j = 0 := by simpa using hk
  subst this
  exact h
/-- Bytes that came in. -/
theorem IsRow.bytes {w : World} {a : Option Addr} {len cap : Nat} {zs : List Int} (h : IsRow .u8 w a len cap zs) :
    ∃ l : List (BitVec 8), len = l.length ∧ len ≤ maxLen ∧ len ≤ cap ∧ cap ≤ maxLen ∧ Reads w w.heap.size 1 a len (u8s l) := by
  obtain ⟨h1, h2, h3, h4, h5⟩ := h.reads
  obtain ⟨l, hl⟩ := u8s_of_wf (zs.take len) (fun n hn => h4 n (List.mem_of_mem_take hn))
  rw [hl] at h5
  have := h5.1
  rw [u8s_length] at this
  exact ⟨l, by omega, by omega, h1, h2, h5⟩
end Go.Proofs.Ytpdlkdlciipdcaa
