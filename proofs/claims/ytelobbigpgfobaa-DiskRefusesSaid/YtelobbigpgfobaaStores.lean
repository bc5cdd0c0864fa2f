/-
  A region that draws its order, whose operations are of one value each but for some stores, which come in one forced order: one look at each operation serves every order, though some come behind a store. No condition.
-/
import Derived.Test.YtelobbigpgfobaaHeldIn
namespace Go.Proofs.Ytelobbigpgfobaa
open Go.RowKit
set_option linter.unusedVariables false
def dstAt (ops : Array Oper) (i : Nat) : Option Tmp := (ops[i]?).bind (·.dst)
def filledAt (ops : Array Oper) (listed : Array Bool) (k : Nat) : Bool := (List.range ops.size).any fun i => listed.getD i false && (dstAt ops i == some k)
theorem filledAt_iff {ops : Array Oper} {listed : Array Bool} {k : Nat} : filledAt ops listed k = true ↔ ∃ i, i < ops.size ∧ listed.getD i false = true ∧ dstAt ops i = some k := by
  simp only [filledAt, List.any_eq_true, List.mem_range, Bool.and_eq_true, beq_iff_eq]
theorem filledAt_set {ops : Array Oper} {listed : Array Bool} {i k : Nat} (hi : i < ops.size) (hs : listed.size = ops.size) : filledAt ops (listed.setIfInBounds i true) k = (filledAt ops listed k || (dstAt ops i == some k)) := by
  rw [Bool.eq_iff_iff]
  rw [Bool.or_eq_true, filledAt_iff, filledAt_iff, beq_iff_eq]
  constructor
  · rintro ⟨q, h1, h2, h3⟩
    rw [getD_set _ _ _ _ (by omega)] at h2
    by_cases e : q = i
    · subst e; exact .inr h3
    · rw [if_neg e] at h2; exact .inl ⟨q, h1, h2, h3⟩
  · rintro (⟨q, h1, h2, h3⟩ | h)
    · refine ⟨q, h1, ?_, h3⟩
      rw [getD_set _ _ _ _ (by omega)]
      by_cases e : q = i
      · rw [if_pos e]
      · rw [if_neg e]; exact h2
    · exact ⟨i, hi, by rw [getD_set _ _ _ _ (by omega), if_pos rfl], h⟩
def fillBy (a0 : Act) (ops : Array Oper) (tF : Array Value) (listed : Array Bool) : Act :=
  { a0 with tmps := a0.tmps.mapIdx fun k v => if filledAt ops listed k then tF.getD k v else v }
theorem fillBy_put {a0 : Act} {ops : Array Oper} {tF : Array Value} {listed : Array Bool} {i t : Nat} {v : Value} (hi : i < ops.size) (hs : listed.size = ops.size) (hd : dstAt ops i = some t) (hb : t < a0.tmps.size) (hv : tF[t]? = some v) :
    (fillBy a0 ops tF listed).put (some t) v = fillBy a0 ops tF (listed.setIfInBounds i true) := by
  unfold fillBy Act.put
  simp only [Act.mk.injEq, and_true]
  apply Array.ext_getElem?
  intro k
  rw [Array.getElem?_setIfInBounds]
  simp only [Array.getElem?_mapIdx, Array.size_mapIdx, filledAt_set hi hs, hd]
  by_cases e : t = k
  · subst e
    rw [if_pos rfl, if_pos hb, Array.getElem?_eq_getElem hb]
    simp [Array.getD_eq_getD_getElem?, hv]
  · rw [if_neg e]
    have : (some t == some k) = false := by simpa using e
    rw [this]
    simp
theorem fillBy_none {a0 : Act} {ops : Array Oper} {tF : Array Value} {listed : Array Bool} {i : Nat} {v : Value} (hi : i < ops.size) (hs : listed.size = ops.size) (hd : dstAt ops i = none) :
    (fillBy a0 ops tF listed).put none v = fillBy a0 ops tF (listed.setIfInBounds i true) := by
  have : ∀ k, filledAt ops (listed.setIfInBounds i true) k = filledAt ops listed k := fun k => by
    rw [filledAt_set hi hs, hd]
    simp
  unfold fillBy Act.put
  simp only [this]
/-- Does the operation come up where r stores have been done? -/
def okAt (ops : Array Oper) (sts : List Nat) (o : Oper) (i r : Nat) : Bool :=
  (List.range sts.length).all fun q => (!decide (q < r) || !((ops[sts.getD q 0]?).map fun s => needs s i).getD false) && (!decide (r ≤ q) || !needs o (sts.getD q 0))
/-- What of the region is looked at by its form alone. rg: for each operation, between how many stores it comes up. -/
def storesOk (s0 : Nat) (ops : Array Oper) (sts : List Nat) (rg : List (Nat × Nat)) : Bool :=
  ((List.range ops.size).all fun i => match ops[i]? with
    | none => false
    | some o => o.guard.isNone && opPlain o.op &&
      (match o.dst with
       | some t => decide (s0 ≤ t) && !sts.contains i
       | none => sts.contains i) &&
      (o.op.operands.all fun x => match x with
        | .tmp k => decide (k < s0) || (List.range ops.size).any fun j => (dstAt ops j == some k) && needs o j
        | _ => true) &&
      (o.after.all fun e => !Region.binds .any e || decide (e.on < i)) &&
      (match rg[i]? with
       | none => false
       | some (lo, hi) => (List.range (sts.length + 1)).all fun r => !okAt ops sts o i r || (decide (lo ≤ r) && decide (r ≤ hi)))) &&
  ((List.range sts.length).all fun q => decide (sts.getD q 0 < ops.size) && (!decide (q + 1 < sts.length) || ((ops[sts.getD (q + 1) 0]?).map fun s => needs s (sts.getD q 0)).getD false))
structure StoresAt (s0 : Nat) (ops : Array Oper) (sts : List Nat) (rg : List (Nat × Nat)) (i : Nat) (o : Oper) : Prop where
  guard : o.guard = none
  plain : opPlain o.op = true
  dst : (∃ t, o.dst = some t ∧ s0 ≤ t ∧ i ∉ sts) ∨ (o.dst = none ∧ i ∈ sts)
  reads : ∀ k, Operand.tmp k ∈ o.op.operands → k < s0 ∨ ∃ j, j < ops.size ∧ dstAt ops j = some k ∧ needs o j = true
  down : ∀ e ∈ o.after, Region.binds .any e = true → e.on < i
  rng : ∃ lo hi, rg[i]? = some (lo, hi) ∧ ∀ r, r ≤ sts.length → okAt ops sts o i r = true → lo ≤ r ∧ r ≤ hi
theorem storesAt {s0 : Nat} {ops : Array Oper} {sts : List Nat} {rg : List (Nat × Nat)} (h : storesOk s0 ops sts rg = true) {i : Nat} {o : Oper} (ho : ops[i]? = some o) : StoresAt s0 ops sts rg i o := by
  have hi : i < ops.size := (Array.getElem?_eq_some_iff.1 ho).1
  unfold storesOk at h
  have h1 := List.all_eq_true.1 (Bool.and_eq_true_iff.1 h).1 i (List.mem_range.2 hi)
  rw [ho] at h1
  simp only [Bool.and_eq_true] at h1
  obtain ⟨⟨⟨⟨⟨d1, d2⟩, d3⟩, d4⟩, d5⟩, d6⟩ := h1
  refine ⟨by simpa using d1, d2, ?_, fun k hk => ?_, fun e he hb => ?_, ?_⟩
  · cases hd : o.dst with
    | none => rw [hd] at d3; exact .inr ⟨rfl, by simpa using d3⟩
    | some t =>
      rw [hd] at d3
      simp only [Bool.and_eq_true, decide_eq_true_eq] at d3
      exact .inl ⟨t, rfl, d3.1, by simpa using d3.2⟩
  · have := Array.all_eq_true_iff_forall_mem.1 d4 _ hk
    simp only [Bool.or_eq_true, decide_eq_true_eq, List.any_eq_true, List.mem_range, Bool.and_eq_true, beq_iff_eq] at this
    rcases this with e | ⟨j, h1, h2, h3⟩
    · exact .inl e
    · exact .inr ⟨j, h1, h2, h3⟩
  · have := Array.all_eq_true_iff_forall_mem.1 d5 e he
    simpa [hb] using this
  · cases hr : rg[i]? with
    | none => rw [hr] at d6; cases d6
    | some p =>
      obtain ⟨lo, hi'⟩ := p
      rw [hr] at d6
      refine ⟨lo, hi', rfl, fun r hr2 hok => ?_⟩
      have := List.all_eq_true.1 d6 r (List.mem_range.2 (by omega))
      rw [hok] at this
      simpa using this
theorem stores_chain {s0 : Nat} {ops : Array Oper} {sts : List Nat} {rg : List (Nat × Nat)} (h : storesOk s0 ops sts rg = true) {q : Nat} (hq : q < sts.length) :
    sts.getD q 0 < ops.size ∧ (q + 1 < sts.length → ∃ s, ops[sts.getD (q + 1) 0]? = some s ∧ needs s (sts.getD q 0) = true) := by
  unfold storesOk at h
  have h1 := List.all_eq_true.1 (Bool.and_eq_true_iff.1 h).2 q (List.mem_range.2 hq)
  simp only [Bool.and_eq_true, decide_eq_true_eq, Bool.or_eq_true, Bool.not_eq_true', decide_eq_false_iff_not] at h1
  refine ⟨h1.1, fun hq2 => ?_⟩
  rcases h1.2 with e | e
  · exact absurd hq2 e
  · cases ho : ops[sts.getD (q + 1) 0]? with
    | none => rw [ho] at e; cases e
    | some s => rw [ho] at e; exact ⟨s, rfl, by simpa using e⟩
theorem wpAny_stores {P : Program} {ops : Array Oper} {Q : Exit → Act → World → Prop} {a0 : Act} (s0 : Nat) (sts : List Nat) (rg : List (Nat × Nat)) (W : Nat → World) (tF : Array Value) (hok : storesOk s0 ops sts rg = true) (hsz : tF.size = a0.tmps.size)
    (hbd : ∀ (i : Nat) (t : Tmp), dstAt ops i = some t → t < a0.tmps.size) (htF : ∀ k, (∀ i, i < ops.size → dstAt ops i ≠ some k) → tF[k]? = a0.tmps[k]?)
    (hval : ∀ (i : Nat) (o : Oper) (t : Tmp) (r lo hi : Nat), ops[i]? = some o → o.dst = some t → rg[i]? = some (lo, hi) → lo ≤ r → r ≤ hi → ∃ v, tF[t]? = some v ∧ (execOp ({ a0 with tmps := tF } : Act).eval o).run P (W r) = .ok (.value v) (W r))
    (hst : ∀ (q : Nat) (o : Oper), q < sts.length → ops[sts.getD q 0]? = some o → (execOp ({ a0 with tmps := tF } : Act).eval o).run P (W q) = .ok .skip (W (q + 1)))
    (hend : Q .normal { a0 with tmps := tF } (W sts.length)) :
    ∀ (fuel : Nat) (listed : Array Bool) (r : Nat), listed.size = ops.size → unl ops.size listed ≤ fuel → (∀ i o, ops[i]? = some o → listed.getD i false = true → ∀ j, needs o j = true → listed.getD j false = true) →
      r ≤ sts.length → (∀ q, q < sts.length → listed.getD (sts.getD q 0) false = decide (q < r)) → wpAny P .any ops Q fuel listed (fillBy a0 ops tF listed) (W r) := by
  have hdone : ∀ (listed : Array Bool) (r : Nat), listed.size = ops.size → Region.ready .any ops listed = [] → r ≤ sts.length → (∀ q, q < sts.length → listed.getD (sts.getD q 0) false = decide (q < r)) → Q .normal (fillBy a0 ops tF listed) (W r) := by
    intro listed r hs hr hrl hq
    have key : ∀ i, i < ops.size → listed.getD i false = true := by
      intro i
      induction i using Nat.strongRecOn with
      | _ i ih =>
        intro hi
        by_cases e : listed.getD i false = true
        · exact e
        · have ho : ops[i]? = some (ops[i]'hi) := Array.getElem?_eq_getElem hi
          have := ready_of ho (by rw [getD_tf listed i (by omega)]; simpa using e) (fun x hx hbd => by
            have hlt := (storesAt hok ho).down x hx hbd
            exact ih _ hlt (by omega))
          rw [hr] at this
          cases this
    have hrR : r = sts.length := by
      by_cases e : r < sts.length
      · have h1 := hq r e
        rw [key _ (stores_chain hok e).1] at h1
        simp at h1
      · omega
    have hfa : fillBy a0 ops tF listed = { a0 with tmps := tF } := by
      unfold fillBy
      simp only [Act.mk.injEq, and_true]
      apply Array.ext_getElem?
      intro k
      rw [Array.getElem?_mapIdx]
      by_cases hk : k < a0.tmps.size
      · rw [Array.getElem?_eq_getElem hk, Option.map_some]
        by_cases h : filledAt ops listed k = true
        · rw [if_pos h]
          have hk' : k < tF.size := by omega
          simp [Array.getD, hk']
        · rw [if_neg h, htF k (fun i hi hd => h (filledAt_iff.2 ⟨i, hi, key i hi, hd⟩)), Array.getElem?_eq_getElem hk]
      · rw [Array.getElem?_eq_none (by omega), Array.getElem?_eq_none (by omega)]
        rfl
    rw [hfa, hrR]
    exact hend
  intro fuel
  induction fuel with
  | zero =>
    intro listed r hs hu hd hrl hq
    have hr0 : Region.ready .any ops listed = [] := by
      apply List.eq_nil_iff_forall_not_mem.2
      intro i hi
      obtain ⟨o, ho, hl, _⟩ := ready_spec hi
      have hiN := (Array.getElem?_eq_some_iff.1 ho).1
      have := unl_set hs hiN hl
      omega
    exact ⟨hr0, hdone listed r hs hr0 hrl hq⟩
  | succ fuel ih =>
    intro listed r hs hu hd hrl hq
    refine ⟨fun hr => hdone listed r hs hr hrl hq, fun i hi => ?_⟩
    obtain ⟨o, ho, hl, hneed⟩ := ready_spec hi
    have hiN : i < ops.size := (Array.getElem?_eq_some_iff.1 ho).1
    have H := storesAt hok ho
    obtain ⟨hp1, hp2⟩ := opPlain_spec H.plain
    have hw : Region.wanted o (yielded ops (fillBy a0 ops tF listed).tmps) = true := by simp [Region.wanted, H.guard]
    have hlf : listed.getD i false = false := by rw [getD_tf listed i (by omega)] at hl; exact hl
    have hus := unl_set hs hiN hl
    have hd' : ∀ i2 o2, ops[i2]? = some o2 → (listed.setIfInBounds i true).getD i2 false = true → ∀ j, needs o2 j = true → (listed.setIfInBounds i true).getD j false = true := by
      intro i2 o2 ho2 h2 j hj
      rw [getD_set _ _ _ _ (by omega)] at h2 ⊢
      by_cases ej : j = i
      · rw [if_pos ej]
      · rw [if_neg ej]
        by_cases e2 : i2 = i
        · subst e2
          rw [ho] at ho2
          injection ho2 with ho2
          subst ho2
          exact hneed j hj
        · rw [if_neg e2] at h2
          exact hd i2 o2 ho2 h2 j hj
    have key : ∀ k : Nat, (k < s0 ∨ ∃ j, j < ops.size ∧ dstAt ops j = some k ∧ listed.getD j false = true) → (fillBy a0 ops tF listed).tmps.getD k undef = tF.getD k undef := by
      intro k hk2
      unfold fillBy
      simp only [Array.getD_eq_getD_getElem?, Array.getElem?_mapIdx]
      rcases hk2 with e | ⟨j, hj1, hj2, hj3⟩
      · have hnd : ∀ i, i < ops.size → dstAt ops i ≠ some k := fun i hi hd => by
          have hoi : ops[i]? = some (ops[i]'hi) := Array.getElem?_eq_getElem hi
          rcases (storesAt hok hoi).dst with ⟨t, h1, h2, _⟩ | ⟨h1, _⟩
          · unfold dstAt at hd
            rw [hoi, Option.bind_some, h1] at hd
            injection hd with hd
            have h3 : s0 ≤ k := by rw [← hd]; exact h2
            omega
          · unfold dstAt at hd
            rw [hoi, Option.bind_some, h1] at hd
            cases hd
        have hnf : filledAt ops listed k = false := by
          rw [Bool.eq_false_iff]
          intro hf
          obtain ⟨i, h1, _, h3⟩ := filledAt_iff.1 hf
          exact hnd i h1 h3
        rw [htF k hnd]
        cases hk : a0.tmps[k]? with
        | none => rfl
        | some u => simp [hnf]
      · have hf : filledAt ops listed k = true := filledAt_iff.2 ⟨j, hj1, hj3, hj2⟩
        have hk := hbd j k hj2
        have hk' : k < tF.size := by rw [hsz]; exact hk
        rw [Array.getElem?_eq_getElem hk, Array.getElem?_eq_getElem hk']
        simp [hf]
    have hev : ∀ x ∈ o.op.operands, (fillBy a0 ops tF listed).eval x = ({ a0 with tmps := tF } : Act).eval x := by
      intro x hx
      cases x with
      | tmp k =>
        refine key k ?_
        rcases H.reads k hx with e | ⟨j, h1, h2, h3⟩
        · exact .inl e
        · exact .inr ⟨j, h1, h2, hneed j h3⟩
      | _ => rfl
    have hex : execOp (fillBy a0 ops tF listed).eval o = execOp ({ a0 with tmps := tF } : Act).eval o := execOp_congr o hp2 hev
    unfold wpOp
    rw [ho]
    dsimp only
    rw [if_pos hw]
    left
    unfold Oper.wp
    rw [hex]
    rcases H.dst with ⟨t, ht, hst0, hns⟩ | ⟨hdn, hin⟩
    · have hdt : dstAt ops i = some t := by unfold dstAt; rw [ho, Option.bind_some, ht]
      obtain ⟨lo, hi', hrg, hrr⟩ := H.rng
      have hokr : okAt ops sts o i r = true := by
        unfold okAt
        refine List.all_eq_true.2 fun q hq' => ?_
        have hql := List.mem_range.1 hq'
        have hlq := hq q hql
        rw [Bool.and_eq_true]
        constructor
        · by_cases e : q < r
          · rw [decide_eq_true e] at hlq
            have hso : ops[sts.getD q 0]? = some (ops[sts.getD q 0]'(stores_chain hok hql).1) := Array.getElem?_eq_getElem _
            rw [hso]
            simp only [e, decide_true, Bool.not_true, Bool.false_or, Option.map_some, Option.getD_some, Bool.not_eq_true']
            rw [Bool.eq_false_iff]
            intro hn
            have := hd _ _ hso hlq i hn
            rw [hlf] at this
            cases this
          · simp [e]
        · by_cases e : r ≤ q
          · have e2 : ¬ q < r := by omega
            rw [decide_eq_false e2] at hlq
            simp only [e, decide_true, Bool.not_true, Bool.false_or, Bool.not_eq_true']
            rw [Bool.eq_false_iff]
            intro hn
            have := hneed _ hn
            rw [hlq] at this
            cases this
          · simp [e]
      obtain ⟨hlo, hhi⟩ := hrr r hrl hokr
      obtain ⟨v, hv, hrun⟩ := hval i o t r lo hi' ho ht hrg hlo hhi
      rw [hrun, Oper.upon_value, ht, fillBy_put hiN hs hdt (hbd i t hdt) hv]
      refine ih _ r (by simpa using hs) (by omega) hd' hrl (fun q hql => ?_)
      rw [getD_set _ _ _ _ (by omega)]
      have : sts.getD q 0 ≠ i := fun e => hns (by
        rw [← e, List.getD_eq_getElem?_getD, List.getElem?_eq_getElem hql, Option.getD_some]
        exact List.getElem_mem hql)
      rw [if_neg this]
      exact hq q hql
    · obtain ⟨q, hql, hqi⟩ := List.mem_iff_getElem.1 hin
      have hqd : sts.getD q 0 = i := by rw [List.getD_eq_getElem?_getD, List.getElem?_eq_getElem hql, Option.getD_some]; exact hqi
      have hqr : q = r := by
        have h1 := hq q hql
        rw [hqd, hlf] at h1
        have h1' : ¬ q < r := by simpa using h1.symm
        by_cases e : q = r
        · exact e
        · have hq1 : q - 1 + 1 = q := by omega
          obtain ⟨s, hs1, hs2⟩ := (stores_chain hok (q := q - 1) (by omega)).2 (by omega)
          rw [hq1, hqd, ho] at hs1
          injection hs1 with hs1
          subst hs1
          have h2 := hneed _ hs2
          rw [hq (q - 1) (by omega)] at h2
          have : q - 1 < r := by simpa using h2
          omega
      subst hqr
      have hdt : dstAt ops i = none := by unfold dstAt; rw [ho, Option.bind_some, hdn]
      rw [hst q o hql (by rw [hqd]; exact ho), Oper.upon_skip, hdn, fillBy_none hiN hs hdt]
      refine ih _ (q + 1) (by simpa using hs) (by omega) hd' (by omega) (fun q2 hq2 => ?_)
      rw [getD_set _ _ _ _ (by omega)]
      by_cases e : sts.getD q2 0 = i
      · rw [if_pos e]
        have h2 := hq q2 hq2
        rw [e, hlf] at h2
        have hnl : ¬ q2 < q := by simpa using h2.symm
        -- the store i comes once
        by_cases e2 : q2 = q
        · subst e2; simp
        · have hq1 : q2 - 1 + 1 = q2 := by omega
          obtain ⟨s, hs1, hs2⟩ := (stores_chain hok (q := q2 - 1) (by omega)).2 (by omega)
          rw [hq1, e, ho] at hs1
          injection hs1 with hs1
          subst hs1
          have h3 := hneed _ hs2
          rw [hq (q2 - 1) (by omega)] at h3
          have : q2 - 1 < q := by simpa using h3
          omega
      · rw [if_neg e, hq q2 hq2]
        by_cases e2 : q2 = q
        · subst e2; exact absurd hqd e
        · have : (q2 < q) ↔ (q2 < q + 1) := by omega
          simp [this]
/-- The whole region. -/
theorem wp_region_stores {P : Program} {id : Nat} {ops : Array Oper} {Q : Exit → Act → World → Prop} {a0 : Act} {w : World} (s0 : Nat) (sts : List Nat) (rg : List (Nat × Nat)) (W : Nat → World) (tF : Array Value) (hm : P.follows .mixedOrders = true) (hok : storesOk s0 ops sts rg = true) (hW : W 0 = w.drew) (hsz : tF.size = a0.tmps.size)
    (hbd : ∀ (i : Nat) (t : Tmp), dstAt ops i = some t → t < a0.tmps.size) (htF : ∀ k, (∀ i, i < ops.size → dstAt ops i ≠ some k) → tF[k]? = a0.tmps[k]?)
    (hval : ∀ (i : Nat) (o : Oper) (t : Tmp) (r lo hi : Nat), ops[i]? = some o → o.dst = some t → rg[i]? = some (lo, hi) → lo ≤ r → r ≤ hi → ∃ v, tF[t]? = some v ∧ (execOp ({ a0 with tmps := tF } : Act).eval o).run P (W r) = .ok (.value v) (W r))
    (hst : ∀ (q : Nat) (o : Oper), q < sts.length → ops[sts.getD q 0]? = some o → (execOp ({ a0 with tmps := tF } : Act).eval o).run P (W q) = .ok .skip (W (q + 1)))
    (hend : Q .normal { a0 with tmps := tF } (W sts.length)) : (Code.region id ops true).wp P Q a0 w := by
  refine wp_region_any hm ?_
  have h := wpAny_stores s0 sts rg W tF hok hsz hbd htF hval hst hend ops.size (Array.replicate ops.size false) 0 (by simp) ?_ ?_ (Nat.zero_le _) ?_
  · have e : fillBy a0 ops tF (Array.replicate ops.size false) = a0 := by
      have hnf : ∀ k, filledAt ops (Array.replicate ops.size false) k = false := fun k => by
        rw [Bool.eq_false_iff]
        intro hf
        obtain ⟨i, h1, h2, _⟩ := filledAt_iff.1 hf
        simp only [Array.getD_eq_getD_getElem?, Array.getElem?_replicate] at h2
        split at h2 <;> cases h2
      unfold fillBy
      cases a0 with
      | mk tmps defers =>
        simp only [Act.mk.injEq, and_true]
        apply Array.ext_getElem?
        intro k
        rw [Array.getElem?_mapIdx]
        simp [hnf]
    rw [e, hW] at h
    exact h
  · have := List.countP_le_length (p := fun i => !(Array.replicate ops.size false).getD i true) (l := List.range ops.size)
    simpa [unl] using this
  · intro i o _ h
    simp only [Array.getD_eq_getD_getElem?, Array.getElem?_replicate] at h
    split at h <;> cases h
  · intro q hq
    simp only [Array.getD_eq_getD_getElem?, Array.getElem?_replicate]
    split <;> simp
def setAll (ps : List (Nat × Value)) (t : Array Value) : Array Value := ps.foldl (fun t p => t.setIfInBounds p.1 p.2) t
theorem setAll_size : ∀ (ps : List (Nat × Value)) (t : Array Value), (setAll ps t).size = t.size
  | [], t => rfl
  | p :: ps, t => by
    show (setAll ps (t.setIfInBounds p.1 p.2)).size = t.size
    rw [setAll_size ps]
    simp
theorem setAll_off : ∀ (ps : List (Nat × Value)) (t : Array Value) (k : Nat), (∀ p, p ∈ ps → p.1 ≠ k) → (setAll ps t)[k]? = t[k]?
  | [], t, k, _ => rfl
  | p :: ps, t, k, h => by
    show (setAll ps (t.setIfInBounds p.1 p.2))[k]? = t[k]?
    rw [setAll_off ps _ k (fun q hq => h q (.tail _ hq)), Array.getElem?_setIfInBounds, if_neg (h p (.head _))]
def slotsOk (N : Nat) (ops : Array Oper) (slots : List Nat) : Bool :=
  ((List.range ops.size).all fun i => match dstAt ops i with | none => true | some t => decide (t < N)) && slots.all fun s => (List.range ops.size).any fun i => dstAt ops i == some s
/-- The whole region; the temporaries that it leaves are reckoned. -/
theorem wp_region_stores' {P : Program} {id : Nat} {ops : Array Oper} {Q : Exit → Act → World → Prop} {a0 : Act} {w : World} (s0 N : Nat) (sts slots : List Nat) (rg : List (Nat × Nat)) (vs : List Value) (W : Nat → World) {tF : Array Value} (hm : P.follows .mixedOrders = true) (hok : storesOk s0 ops sts rg = true) (hsl : slotsOk N ops slots = true) (hN : a0.tmps.size = N) (hW : W 0 = w.drew)
    (hF : setAll (slots.zip vs) a0.tmps = tF)
    (hval : ∀ (i : Nat) (o : Oper) (t : Tmp) (r lo hi : Nat), ops[i]? = some o → o.dst = some t → rg[i]? = some (lo, hi) → lo ≤ r → r ≤ hi → ∃ v, tF[t]? = some v ∧ (execOp ({ a0 with tmps := tF } : Act).eval o).run P (W r) = .ok (.value v) (W r))
    (hst : ∀ (q : Nat) (o : Oper), q < sts.length → ops[sts.getD q 0]? = some o → (execOp ({ a0 with tmps := tF } : Act).eval o).run P (W q) = .ok .skip (W (q + 1)))
    (hend : Q .normal { a0 with tmps := tF } (W sts.length)) : (Code.region id ops true).wp P Q a0 w := by
  subst hF
  unfold slotsOk at hsl
  obtain ⟨h1, h2⟩ := Bool.and_eq_true_iff.1 hsl
  refine wp_region_stores s0 sts rg W _ hm hok hW (setAll_size _ _) (fun i t hd => ?_) (fun k hk => ?_) hval hst hend
  · have hi : i < ops.size := by
      unfold dstAt at hd
      cases ho : ops[i]? with
      | none => rw [ho] at hd; cases hd
      | some o => exact (Array.getElem?_eq_some_iff.1 ho).1
    have := List.all_eq_true.1 h1 i (List.mem_range.2 hi)
    rw [hd] at this
    rw [hN]
    simpa using this
  · refine setAll_off _ _ k (fun p hp e => ?_)
    have hps : p.1 ∈ slots := (List.of_mem_zip hp).1
    have := List.all_eq_true.1 h2 p.1 hps
    obtain ⟨i, hi, hd⟩ := List.any_eq_true.1 this
    exact hk i (List.mem_range.1 hi) (by rw [← e]; simpa using hd)
end Go.Proofs.Ytelobbigpgfobaa
