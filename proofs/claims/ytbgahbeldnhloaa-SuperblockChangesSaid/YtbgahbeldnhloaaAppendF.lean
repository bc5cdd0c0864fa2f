/-
  'append' of bytes onto a slice that has no room left: a new row, whatever the old one was. Condition: the lengths are small.
-/
import Derived.Test.YtbgahbeldnhloaaAppendZ
namespace Go.Proofs.Ytbgahbeldnhloaa
open Go.RowKit
set_option linter.unusedVariables false
section
variable {P : Program} (w : World)
theorem wpList_append_full {ops : Array Oper} {rest : List Oper} {o : Oper} {a : Act} {Q : Exit → Act → World → Prop} (hgd : Region.wanted o (yielded ops a.tmps) = true) (s x : Operand) (t : TypeId)
    (ho : o.op = .call { callee := .builtin .append, args := #[s, x], argTypes := #[t, t] })
    (base : Nat) (e : TypeId) (i : TypeInfo) (ht : P.underlying t = some (.slice e)) (hi : P.info? e = some i) (hz : i.zero = some (.int .u8 0))
    (hsize : i.size = 1) (hby : i.bytes = 1)
    (b : Addr) (n c B : Nat) (l : List (BitVec 8)) (hs : a.eval s = .slice (some b) n c) (hl : Reads w B 1 (some b) n (u8s l))
    (ad : Addr) (m k B' : Nat) (l' : List (BitVec 8)) (hx : a.eval x = .slice (some ad) m k) (hr : Reads w B' 1 (some ad) m (u8s l')) (hm : 0 < m) (hn : 0 < n)
    (hfull : c < n + m) (hsmall : n + m ≤ 1099511627776) (hbase : base ≤ w.heap.size)
    (h : ∀ v' w', w'.ownsRow base e 1 v' (n + m) (u8s (l ++ l')) → Below w.heap.size w w' → (∀ k, v'.ownBlock = some k → w.heap.size ≤ k) → wpList P ops Q rest (a.put o.dst v') w') : wpList P ops Q (o :: rest) a w := by
  obtain ⟨b', e1, _, hb'⟩ := hl.2 hn
  injection e1 with e1
  subst e1
  obtain ⟨ad', e2, _, had'⟩ := hr.2 hm
  injection e2 with e2
  subst e2
  have hr' := run_append_grow (P := P) w t o.type e i (.int .u8 0) ht hi hz b n c (u8s l) (by rw [hsize]; exact hl.1) hb' ad m k (u8s l') (by rw [hsize]; exact hr.1) had' hfull (by omega) (by rw [hby]; exact growslice_fits hfull (by omega))
  have hge := grownCap_ge w (n + m) c e
  have hcm : grownCap w (n + m) c e ≤ maxLen := grownCap_le_maxLen w (n + m) c e (by unfold maxLen; omega)
  have hlen : (u8s l ++ u8s l').length = n + m := by
    have h1 := hl.1; have h2 := hr.1
    rw [List.length_append]; omega
  refine wpList_step fun K hK => ?_
  rw [if_pos hgd]
  unfold Oper.wp execOp
  simp only [ho, resolve, invoke, builtin, Sem.run_bind, Sem.run_pure, Result.andThen_ok, List.map_toArray, List.map_cons, List.map_nil, hs, hx, hr']
  refine hK _ _ (h _ _ ⟨by rw [← u8s_append, hlen]; omega, .inr ⟨w.heap.size, _, _, rfl, hbase, heap_alloc_new w.drew _, hge, hcm, ?_, ?_⟩⟩ ⟨rfl, rfl, rfl, by simp, fun q hq => heap_alloc_old w.drew _ hq⟩ (fun q hq => by simp [Value.ownBlock] at hq; omega))
  · have h1 := hl.1; have h2 := hr.1
    have hz1 : (Value.int IntKind.u8 0).cells.size = 1 := rfl
    simp only [Array.size_append, List.size_toArray, size_zeroCells, hz1]
    omega
  · simp only [Array.toList_append, List.append_assoc]
    rw [← List.append_assoc, u8s_append]
    have : (u8s (l ++ l')).length = (n + m) * 1 := by rw [← u8s_append, hlen]; omega
    rw [← this]
    exact List.take_left
end
end Go.Proofs.Ytbgahbeldnhloaa
