/-
  A region that draws its order, in whatever fence, a round too: all its operations but the last are of one value in the one world, and the last hangs on all of them: one look at each operation serves every order. No condition.
-/
import Derived.Test.YtelobbigpgfobaaCells
import Derived.OrdersIn
import Derived.TacticsIn
namespace Go.Proofs.Ytelobbigpgfobaa
open Go.RowKit
set_option linter.unusedVariables false
theorem countP_range_off (f : Nat → Bool) (i : Nat) (hf : f i = true) : ∀ N, i < N → (List.range N).countP (fun j => f j && j != i) + 1 = (List.range N).countP f
  | 0, h => by omega
  | N + 1, h => by
    rw [List.range_succ, List.countP_append, List.countP_append]
    by_cases e : i = N
    · subst e
      have : (List.range i).countP (fun j => f j && j != i) = (List.range i).countP f := List.countP_congr fun j hj => by
        have := List.mem_range.1 hj
        have : j ≠ i := by omega
        simp [this]
      rw [this]
      simp [hf]
    · have := countP_range_off f i hf N (by omega)
      have e2 : N ≠ i := fun h => e h.symm
      have : ([N].countP fun j => f j && j != i) = [N].countP f := by simp [List.countP_cons, e2]
      omega
def unl (N : Nat) (listed : Array Bool) : Nat := (List.range N).countP fun i => !listed.getD i true
theorem getD_set (listed : Array Bool) (i j : Nat) (b : Bool) (hi : i < listed.size) : (listed.setIfInBounds i true).getD j b = if j = i then true else listed.getD j b := by
  by_cases e : j = i
  · subst e; simp [Array.getD, hi]
  · have : i ≠ j := fun h => e h.symm
    simp only [Array.getD_eq_getD_getElem?, Array.getElem?_setIfInBounds, if_neg this, if_neg e]
theorem unl_set {N i : Nat} {listed : Array Bool} (hs : listed.size = N) (hi : i < N) (h : listed.getD i true = false) : unl N (listed.setIfInBounds i true) + 1 = unl N listed := by
  unfold unl
  rw [← countP_range_off (fun i => !listed.getD i true) i (by simp only [h]; rfl) N hi]
  congr 1
  apply List.countP_congr
  intro j hj
  rw [getD_set _ _ _ _ (by omega)]
  by_cases e : j = i
  · simp [e]
  · simp [e]
def fillAt (a0 : Act) (s0 : Nat) (tF : Array Value) (listed : Array Bool) : Act :=
  { a0 with tmps := a0.tmps.mapIdx fun k v => if s0 ≤ k ∧ listed.getD (k - s0) false = true then tF.getD k v else v }
theorem fillAt_put (a0 : Act) (s0 : Nat) (tF : Array Value) (listed : Array Bool) (i : Nat) (v : Value) (hi : i < listed.size) (hb : s0 + i < a0.tmps.size) (hv : tF[s0 + i]? = some v) :
    (fillAt a0 s0 tF listed).put (some (s0 + i)) v = fillAt a0 s0 tF (listed.setIfInBounds i true) := by
  unfold fillAt Act.put
  simp only [Act.mk.injEq, and_true]
  apply Array.ext_getElem?
  intro k
  rw [Array.getElem?_setIfInBounds]
  simp only [Array.getElem?_mapIdx, Array.size_mapIdx, getD_set _ _ _ _ hi]
  by_cases e : s0 + i = k
  · subst e
    rw [if_pos rfl, if_pos hb, Array.getElem?_eq_getElem hb]
    simp [Array.getD_eq_getD_getElem?, hv]
  · rw [if_neg e]
    by_cases h : s0 ≤ k
    · have : k - s0 ≠ i := by omega
      simp [this]
    · simp [h]
def opPlain : Op → Bool
  | .defer _ => false
  | .select _ _ => false
  | _ => true
def needs (o : Oper) (i : Nat) : Bool := o.after.any fun e => Region.binds .any e && e.on == i
/-- The region's operations write slots s0, s0 + 1, .. in turn, read what is below s0 or what they come after, and each but the last is needed by a later one. -/
def heldOk (s0 : Nat) (ops : Array Oper) : Bool := (List.range ops.size).all fun i => match ops[i]? with
  | none => false
  | some o => o.dst == some (s0 + i) && o.guard.isNone && opPlain o.op && (o.after.all fun e => !Region.binds .any e || decide (e.on < i)) &&
      (o.op.operands.all fun x => match x with
        | .tmp k => decide (k < s0) || (decide (s0 ≤ k) && needs o (k - s0))
        | _ => true) &&
      (i + 1 == ops.size || (List.range ops.size).any fun j => decide (i < j) && ((ops[j]?).map fun o' => needs o' i).getD false)
structure HeldAt (s0 : Nat) (ops : Array Oper) (i : Nat) (o : Oper) : Prop where
  dst : o.dst = some (s0 + i)
  guard : o.guard = none
  plain : opPlain o.op = true
  down : ∀ e ∈ o.after, Region.binds .any e = true → e.on < i
  reads : ∀ k, Operand.tmp k ∈ o.op.operands → k < s0 ∨ (s0 ≤ k ∧ needs o (k - s0) = true)
  later : i + 1 = ops.size ∨ ∃ j o', i < j ∧ ops[j]? = some o' ∧ needs o' i = true
theorem heldAt {s0 : Nat} {ops : Array Oper} (h : heldOk s0 ops = true) {i : Nat} {o : Oper} (ho : ops[i]? = some o) : HeldAt s0 ops i o := by
  have hi : i < ops.size := (Array.getElem?_eq_some_iff.1 ho).1
  have h1 := List.all_eq_true.1 h i (List.mem_range.2 hi)
  rw [ho] at h1
  simp only [Bool.and_eq_true] at h1
  obtain ⟨⟨⟨⟨⟨d1, d2⟩, d3⟩, d4⟩, d5⟩, d6⟩ := h1
  refine ⟨by simpa using d1, by simpa using d2, d3, fun e he hb => ?_, fun k hk => ?_, ?_⟩
  · have := Array.all_eq_true_iff_forall_mem.1 d4 e he
    simpa [hb] using this
  · have := Array.all_eq_true_iff_forall_mem.1 d5 _ hk
    simpa using this
  · rcases Bool.or_eq_true_iff.1 d6 with e | e
    · left; simpa using e
    · right
      obtain ⟨j, hj, h2⟩ := List.any_eq_true.1 e
      simp only [Bool.and_eq_true, decide_eq_true_eq] at h2
      cases ho' : ops[j]? with
      | none => rw [ho'] at h2; simp at h2
      | some o' => rw [ho'] at h2; exact ⟨j, o', h2.1, ho', by simpa using h2.2⟩
theorem ready_spec {ops : Array Oper} {listed : Array Bool} {i : Nat} (h : i ∈ Region.ready .any ops listed) : ∃ o, ops[i]? = some o ∧ listed.getD i true = false ∧ ∀ j, needs o j = true → listed.getD j false = true := by
  unfold Region.ready at h
  obtain ⟨h1, h2⟩ := List.mem_filter.1 h
  have hi := List.mem_range.1 h1
  rw [Array.getElem?_eq_getElem hi] at h2
  simp only [Option.map_some, Option.getD_some, Bool.and_eq_true, Bool.not_eq_true'] at h2
  refine ⟨ops[i], Array.getElem?_eq_getElem hi, h2.1, fun j hj => ?_⟩
  obtain ⟨e, he, hb⟩ := Array.any_eq_true'.1 hj
  simp only [Bool.and_eq_true, beq_iff_eq] at hb
  have := Array.all_eq_true_iff_forall_mem.1 h2.2 e he
  simpa [hb.1, hb.2] using this
theorem ready_of {ops : Array Oper} {listed : Array Bool} {i : Nat} {o : Oper} (ho : ops[i]? = some o) (hl : listed.getD i true = false) (hd : ∀ e ∈ o.after, Region.binds .any e = true → listed.getD e.on false = true) : i ∈ Region.ready .any ops listed := by
  unfold Region.ready
  refine List.mem_filter.2 ⟨List.mem_range.2 (Array.getElem?_eq_some_iff.1 ho).1, ?_⟩
  rw [ho]
  simp only [Option.map_some, Option.getD_some, Bool.and_eq_true, Bool.not_eq_true']
  refine ⟨hl, Array.all_eq_true_iff_forall_mem.2 fun e he => ?_⟩
  by_cases hb : Region.binds .any e = true
  · simp [hd e he hb]
  · simp [hb]
theorem getD_tf (listed : Array Bool) (i : Nat) (hi : i < listed.size) : listed.getD i true = listed.getD i false := by simp [Array.getD, hi]
/-- What the region leaves: all slots filled but the last operation's. -/
theorem fillAt_all (a0 : Act) (s0 M : Nat) (tF : Array Value) (listed : Array Bool) (hs : listed.size = M + 1) (hl : ∀ i, i < M → listed.getD i false = true) (hM : listed.getD M false = false) (hsz : tF.size = a0.tmps.size)
    (htF : ∀ k, k < s0 ∨ s0 + M ≤ k → tF[k]? = a0.tmps[k]?) : fillAt a0 s0 tF listed = { a0 with tmps := tF } := by
  unfold fillAt
  simp only [Act.mk.injEq, and_true]
  apply Array.ext_getElem?
  intro k
  rw [Array.getElem?_mapIdx]
  by_cases hk : k < a0.tmps.size
  · rw [Array.getElem?_eq_getElem hk, Option.map_some]
    by_cases h : s0 ≤ k ∧ listed.getD (k - s0) false = true
    · rw [if_pos h]
      have hk' : k < tF.size := by omega
      simp [Array.getD, hk']
    · rw [if_neg h, htF k ?_, Array.getElem?_eq_getElem hk]
      by_cases e : k < s0
      · exact .inl e
      · right
        by_cases e2 : k - s0 < M
        · exact absurd ⟨by omega, hl _ e2⟩ h
        · omega
  · rw [Array.getElem?_eq_none (by omega), Array.getElem?_eq_none (by omega)]
    rfl
theorem opPlain_spec {op : Op} (h : opPlain op = true) : (∀ c, op ≠ .defer c) ∧ ∀ cs b, op ≠ .select cs b := by
  constructor
  · intro c e; subst e; cases h
  · intro cs b e; subst e; cases h
theorem wpAnyIn_held {F : Fence} {n : Nat} {P : Program} {ops : Array Oper} {Q : Exit → Act → World → Prop} {a0 : Act} {w : World} (s0 M : Nat) (tF : Array Value) (hok : heldOk s0 ops = true) (hN : ops.size = M + 1) (hb : s0 + M < a0.tmps.size) (hsz : tF.size = a0.tmps.size)
    (htF : ∀ k, k < s0 ∨ s0 + M ≤ k → tF[k]? = a0.tmps[k]?)
    (hval : ∀ i o, i < M → ops[i]? = some o → (∀ f, o.about P w ({ a0 with tmps := tF } : Act).eval = some f → F.fn f) ∧ ∃ v, tF[s0 + i]? = some v ∧ (execOp ({ a0 with tmps := tF } : Act).eval o).run P w = .ok (.value v) w)
    (hlast : ∀ o, ops[M]? = some o → o.wpIn F n P { a0 with tmps := tF } w (fun a' w' => Q .normal a' w') Q) :
    ∀ (fuel : Nat) (listed : Array Bool), listed.size = M + 1 → unl (M + 1) listed ≤ fuel → (∀ i o, ops[i]? = some o → listed.getD i false = true → ∀ j, needs o j = true → listed.getD j false = true) → listed.getD M false = false → wpAnyIn F n P .any ops Q fuel listed (fillAt a0 s0 tF listed) w
  | 0, listed, hs, hu, hd, hM => by
    have := unl_set hs (show M < M + 1 by omega) (by rw [getD_tf _ _ (by omega)]; exact hM)
    omega
  | fuel + 1, listed, hs, hu, hd, hM => by
    refine ⟨fun hr => ?_, fun i hi => ?_⟩
    · exfalso
      have key : ∀ i, i < M + 1 → listed.getD i false = true := by
        intro i
        induction i using Nat.strongRecOn with
        | _ i ih =>
          intro hi
          by_cases e : listed.getD i false = true
          · exact e
          · have ho : ops[i]? = some (ops[i]'(by omega)) := Array.getElem?_eq_getElem (by omega)
            have := ready_of ho (by rw [getD_tf listed i (by omega)]; simpa using e) (fun x hx hbd => by
              have hlt := (heldAt hok ho).down x hx hbd
              exact ih _ hlt (by omega))
            rw [hr] at this
            cases this
      rw [key M (by omega)] at hM
      cases hM
    · obtain ⟨o, ho, hl, hneed⟩ := ready_spec hi
      have hiN : i < M + 1 := by rw [← hN]; exact (Array.getElem?_eq_some_iff.1 ho).1
      have H := heldAt hok ho
      obtain ⟨hp1, hp2⟩ := opPlain_spec H.plain
      have hw : Region.wanted o (yielded ops (fillAt a0 s0 tF listed).tmps) = true := by simp [Region.wanted, H.guard]
      have hmain := wpAnyIn_held s0 M tF hok hN hb hsz htF hval hlast fuel
      unfold wpOpIn
      rw [ho]
      dsimp only
      rw [if_pos hw]
      by_cases hiM : i < M
      · obtain ⟨hab, v, hv, hrun⟩ := hval i o hiM ho
        have key : ∀ k : Nat, (k < s0 ∨ (s0 ≤ k ∧ listed.getD (k - s0) false = true)) → (fillAt a0 s0 tF listed).tmps.getD k undef = tF.getD k undef := by
          intro k hk2
          unfold fillAt
          simp only [Array.getD_eq_getD_getElem?, Array.getElem?_mapIdx]
          rcases hk2 with e | ⟨e, h2⟩
          · rw [htF k (.inl e)]
            have hn : ¬ s0 ≤ k := by omega
            cases hk : a0.tmps[k]? with
            | none => rfl
            | some u => simp [hn]
          · rw [Array.getD_eq_getD_getElem?] at h2
            by_cases hk : k < a0.tmps.size
            · have hk' : k < tF.size := by omega
              have e1 : a0.tmps[k]? = some a0.tmps[k] := Array.getElem?_eq_getElem hk
              have e2 : tF[k]? = some tF[k] := Array.getElem?_eq_getElem hk'
              rw [e1, e2]
              simp [e, h2]
            · have e1 : a0.tmps[k]? = none := Array.getElem?_eq_none (by omega)
              have e2 : tF[k]? = none := Array.getElem?_eq_none (by omega)
              rw [e1, e2]
              rfl
        have hev : ∀ x ∈ o.op.operands, (fillAt a0 s0 tF listed).eval x = ({ a0 with tmps := tF } : Act).eval x := by
          intro x hx
          cases x with
          | tmp k =>
            refine key k ?_
            rcases H.reads k hx with e | ⟨e, h2⟩
            · exact .inl e
            · exact .inr ⟨e, hneed _ h2⟩
          | _ => rfl
        have hrun2 : (o.semAt F.round (fillAt a0 s0 tF listed).eval).run P w = .ok (.value v) w := by
          rw [Oper.semAt_eq _ _ _ hp1, execOp_congr o hp2 hev]
          exact hrun
        refine ⟨fun f hf => hab f (by rw [← about_congr o w hev]; exact hf), ?_⟩
        rw [hrun2, Oper.uponIn_value, H.dst, fillAt_put a0 s0 tF listed i v (by omega) (by omega) hv]
        refine hmain _ (by simpa using hs) ?_ ?_ ?_
        · have := unl_set hs hiN hl
          omega
        · intro i2 o2 ho2 h2 j hj
          rw [getD_set _ _ _ _ (by omega)] at h2 ⊢
          by_cases ej : j = i
          · rw [if_pos ej]
          · rw [if_neg ej]
            by_cases e2 : i2 = i
            · subst e2
              rw [ho] at ho2
              injection ho2 with ho2
              subst ho2
              exact hneed j hj
            · rw [if_neg e2] at h2
              exact hd i2 o2 ho2 h2 j hj
        · rw [getD_set _ _ _ _ (by omega), if_neg (by omega)]
          exact hM
      · have e : i = M := by omega
        subst e
        have hall : ∀ q j, i - j ≤ q → j < i → listed.getD j false = true := by
          intro q
          induction q with
          | zero => intro j h1 h2; omega
          | succ q ih =>
            intro j h1 h2
            have hoj : ops[j]? = some (ops[j]'(by omega)) := Array.getElem?_eq_getElem (by omega)
            rcases (heldAt hok hoj).later with e | ⟨j', o', hjj, ho', hn'⟩
            · omega
            · have hj' : j' < i + 1 := by rw [← hN]; exact (Array.getElem?_eq_some_iff.1 ho').1
              by_cases e : j' = i
              · subst e
                rw [ho] at ho'
                injection ho' with ho'
                subst ho'
                exact hneed j hn'
              · exact hd j' o' ho' (ih j' (by omega) (by omega)) j hn'
        rw [fillAt_all a0 s0 i tF listed hs (fun j hj => hall _ j (Nat.le_refl _) hj) hM hsz htF]
        refine Oper.wpIn_mono (fun a' w' hq => ?_) (hlast o ho)
        refine wpAnyIn_done ?_ hq fuel
        unfold Region.ready
        refine List.filter_eq_nil_iff.2 fun j hj => ?_
        have hj2 := List.mem_range.1 hj
        rw [getD_set _ _ _ _ (by omega)]
        by_cases ej : j = i
        · simp [ej]
        · rw [if_neg ej, getD_tf _ _ (by omega), hall _ j (Nat.le_refl _) (by omega)]
          simp
/-- The whole region, in whatever fence. -/
theorem wpIn_region_held {F : Fence} {n : Nat} {P : Program} {id : Nat} {ops : Array Oper} {Q : Exit → Act → World → Prop} {a0 : Act} {w : World} (s0 M : Nat) (tF : Array Value) (hm : P.follows .mixedOrders = true) (hok : heldOk s0 ops = true) (hN : ops.size = M + 1) (hb : s0 + M < a0.tmps.size) (hsz : tF.size = a0.tmps.size)
    (htF : ∀ k, k < s0 ∨ s0 + M ≤ k → tF[k]? = a0.tmps[k]?)
    (hval : ∀ i o, i < M → ops[i]? = some o → (∀ f, o.about P w.drew ({ a0 with tmps := tF } : Act).eval = some f → F.fn f) ∧ ∃ v, tF[s0 + i]? = some v ∧ (execOp ({ a0 with tmps := tF } : Act).eval o).run P w.drew = .ok (.value v) w.drew)
    (hlast : ∀ o, ops[M]? = some o → o.wpIn F n P { a0 with tmps := tF } w.drew (fun a' w' => Q .normal a' w') Q) : (Code.region id ops true).wpIn F n P Q a0 w := by
  refine wpIn_region_any hm ?_
  have h := wpAnyIn_held s0 M tF hok hN hb hsz htF hval hlast ops.size (Array.replicate ops.size false) (by simpa using hN) ?_ ?_ ?_
  · have e : fillAt a0 s0 tF (Array.replicate ops.size false) = a0 := by
      unfold fillAt
      cases a0 with
      | mk tmps defers =>
        simp only [Act.mk.injEq, and_true]
        apply Array.ext_getElem?
        intro k
        rw [Array.getElem?_mapIdx]
        have : ∀ j : Nat, (Array.replicate ops.size false).getD j false = false := fun j => by
          simp only [Array.getD_eq_getD_getElem?, Array.getElem?_replicate]
          split <;> rfl
        simp [this]
    rw [e] at h
    exact h
  · rw [hN]
    have := List.countP_le_length (p := fun i => !(Array.replicate (M + 1) false).getD i true) (l := List.range (M + 1))
    simpa [unl] using this
  · intro i o _ h
    simp only [Array.getD_eq_getD_getElem?, Array.getElem?_replicate] at h
    split at h <;> cases h
  · simp only [Array.getD_eq_getD_getElem?, Array.getElem?_replicate]
    split <;> rfl
end Go.Proofs.Ytelobbigpgfobaa
