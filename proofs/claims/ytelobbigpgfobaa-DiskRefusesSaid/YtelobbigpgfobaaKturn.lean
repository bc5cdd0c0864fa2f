/-
  The walk of the disk laws' turn: a disk and what is known of it turn alike. Conditions: the disk is as New makes it, what is known is true of it, and the objects lie apart.
-/
import Derived.Test.YtelobbigpgfobaaKnown
namespace Go.Proofs.Ytelobbigpgfobaa
open Go.RowKit
set_option linter.unusedVariables false
def mvB (b c : BitVec 8) : List (BitVec 8) := (List.range (c.toNat % 8)).map fun j => b + BitVec.ofNat 8 j
theorem mvB_length (b c : BitVec 8) : (mvB b c).length = c.toNat % 8 := by simp [mvB]
theorem mvB_take (b c : BitVec 8) (j : Nat) (h : j < c.toNat % 8) : (mvB b c).take (j + 1) = (mvB b c).take j ++ [b + BitVec.ofNat 8 j] := by
  rw [take_snoc _ j (by rw [mvB_length]; exact h)]
  simp [mvB]
def mvK (b c : BitVec 8) : List Int := [((b.toNat % 4 : Nat) : Int), ((c.toNat % 4 : Nat) : Int)]
/-- What a turn makes of a disk. -/
def turnD (n : Nat) (D : Nat → SlotD) (a s b c : BitVec 8) : Nat → SlotD :=
  if a.toNat % 8 < 5 then appD D (s.toNat % n) (mvB b c) else if a.toNat % 8 = 5 then syncD D (s.toNat % n) else if a.toNat % 8 = 6 then eraseD D (s.toNat % n) else crashD (mvK b c) D
def turnV (a s b c : BitVec 8) : Value := .agg #[.int .u8 (n8 a), .int .u8 (n8 s), .int .u8 (n8 b), .int .u8 (n8 c)]
def turnC (a s b c : BitVec 8) : Array Value := #[.int .u8 (n8 a), .int .u8 (n8 s), .int .u8 (n8 b), .int .u8 (n8 c)]
section
variable {B : Nat} {w0 w w' : World} {os : List Ob} {d n size k gb gd : Nat} {rb : Option Nat} {lay : Lay} {D : Nat → SlotD} {S : Nat → Prop}
/-- A disk and what is known of it. -/
abbrev KSep (B : Nat) (w0 w : World) (d : Nat) (rb : Option Nat) (lay : Lay) (S : Nat → Prop) (k gb gd size n : Nat) (D : Nat → SlotD) (os : List Ob) : Prop := Sep B w0 w (diskOb d rb n lay D :: knownOb S k gb gd d size n D :: os)
theorem Sep.known {x : Ob} (h : Sep B w0 w (x :: knownOb S k gb gd d size n D :: os)) : IsKnown w S k gb gd d size n D := h.get (.tail _ (.head _))
theorem Sep.knownTo {x : Ob} {D' : Nat → SlotD} {S' : Nat → Prop} (h : Sep B w0 w (x :: knownOb S k gb gd d size n D :: os)) (hc : Chg (kfoot S k gb gd) w w') (hk : IsKnown w' S' k gb gd d size n D') (hF : ∀ q, S' q → S q ∨ w.heap.size ≤ q) : Sep B w0 w' (x :: knownOb S' k gb gd d size n D' :: os) :=
  h.step1 (a' := knownOb S' k gb gd d size n D') hc hk (fun q hq => by
    rcases hq with hq | hq | hq | hq
    · exact .inl (.inl hq)
    · exact .inl (.inr (.inl hq))
    · exact .inl (.inr (.inr (.inl hq)))
    · rcases hF q hq with e | e
      · exact .inl (.inr (.inr (.inr e)))
      · exact .inr e)
set_option maxRecDepth 100000 in
set_option maxHeartbeats 8000000 in
theorem turn_app (h : KSep B w0 w d rb lay S k gb gd size n D os) (hn : 0 < n) (hm34 : n ≤ 65536) (a s b c : BitVec 8) (ha : a.toNat % 8 < 5) :
    Calls Try.prog 12 #[.pointer (some ⟨k, 0, none⟩), turnV a s b c] w fun e w' => e = .returned (.bool true) ∧ ∃ lay' S', KSep B w0 w' d rb lay' S' k gb gd size n (appD D (s.toNat % n) (mvB b c)) os := by
  obtain ⟨i0, hi0, hz0, hz1, hz2⟩ := info_parts u8_info
  obtain ⟨i, hi⟩ : ∃ i, s.toNat % n = i := ⟨_, rfl⟩
  have hin : i < n := by rw [← hi]; exact Nat.mod_lt _ hn
  have hrem : Int.tmod (n8 s) (n : Int) = (i : Int) := by rw [n8_nat, Int.tmod_eq_emod_of_nonneg (by omega)]; omega
  obtain ⟨ka, hka⟩ : ∃ ka : Nat, n8 a % 8 = (ka : Int) := ⟨a.toNat % 8, by rw [n8_nat]; omega⟩
  have hka5 : ka < 5 := by rw [n8_nat] at hka; omega
  obtain ⟨m, hm⟩ : ∃ m : Nat, n8 c % 8 = (m : Int) := ⟨c.toNat % 8, by rw [n8_nat]; omega⟩
  have hmc : c.toNat % 8 = m := by rw [n8_nat] at hm; omega
  have hm8 : m < 8 := by omega
  obtain ⟨ha1, ha2⟩ := n8_bd a
  obtain ⟨hb1, hb2⟩ := n8_bd b
  obtain ⟨hc1, hc2⟩ := n8_bd c
  obtain ⟨hs1, hs2⟩ := n8_bd s
  have HMC := Lib.hid hmc
  rw [hi]
  clear hi ha hmc
  obtain ⟨w1, hw1⟩ : ∃ w1 : World, w1 = w.alloc (.cells (turnC a s b c) 28) := ⟨_, rfl⟩
  have h1 : KSep B w0 w1 d rb lay S k gb gd size n D os := by rw [hw1]; exact h.alloc _
  have hbk : Blk w1 w.heap.size 28 (turnC a s b c) := by rw [hw1]; exact Blk.new w _ _
  have hlt1 : w.heap.size < w1.heap.size := hbk.lt
  have H1 := Lib.hid h1
  have HBK := Lib.hid hbk
  have HW1 := Lib.hid hw1
  have HT : Hid (∀ W, Below w1.heap.size w1 W → W.cell? ⟨w.heap.size, 0, none⟩ = some (.int .u8 (n8 a)) ∧ W.cell? ⟨w.heap.size, 1, none⟩ = some (.int .u8 (n8 s)) ∧ W.cell? ⟨w.heap.size, 2, none⟩ = some (.int .u8 (n8 b)) ∧ W.cell? ⟨w.heap.size, 3, none⟩ = some (.int .u8 (n8 c))) := fun W hW => by
    have := hbk.below hW hbk.lt
    exact ⟨this.cell 0, this.cell 1, this.cell 2, this.cell 3⟩
  obtain ⟨t0, t1, t2, t3⟩ := HT.out w1 (Below.refl _ _)
  obtain ⟨k0, k1, k2, k3⟩ := h1.known.cells
  unfold turnV
  unfold turnC at HW1
  clear h h1 hbk hw1 HBK
  go_enter Try.func12, Try.ntmps12
  go_wp2_with fail
  rw [← HW1.out]
  go_quiet (fail)
  have hbq : Below w1.heap.size w1 (w1.drewN nq) := bel_drewN' _ _
  have H2 : Hid (KSep B w0 (w1.drewN nq) d rb lay S k gb gd size n D os) := H1.out.below hbq
  generalize w1.drewN nq = w2 at hbq H2 ⊢
  have HB2 := Lib.hid hbq
  have hs2' : w1.heap.size ≤ w2.heap.size := hbq.size
  clear t0 t1 t2 t3 k0 k1 k2 k3 hbq
  obtain ⟨t0, -, -, -⟩ := HT.out w2 HB2.out
  have d5 : decide ((ka : Int) < 5) = true := by simp; omega
  go_wp2_with fail
  rw [hka]
  go_loopg [6, 7] m (fun q v6 v7 wr => ∃ j : Nat, j + q = m ∧ v7 = .int .i64 j ∧ wr.ownsRow w2.heap.size 5 1 v6 j (u8s ((mvB b c).take j)) ∧ Below w2.heap.size w2 wr)
  case atStart => exact ⟨0, by omega, rfl, World.ownsRow_nil _ _ _ _, Below.refl _ _⟩
  case round =>
    obtain ⟨j, hj, rfl, ho, hb⟩ := hrel
    have hj' : j ≤ m := by omega
    have HJ := Lib.hid hj
    have HO := Lib.hid ho
    have HB := Lib.hid hb
    obtain ⟨A6, c6, rfl, hA6, hc6, _⟩ := own_slice ho
    obtain ⟨-, -, q2, q3⟩ := HT.out wr (bt HB2.out hb)
    have hszr := hb.size
    unfold maxLen at hc6
    clear t0
    by_cases hlt : j < m
    · obtain ⟨z, hz⟩ : ∃ z, (n8 b + (j : Int)) % (256 : Int) = z := ⟨_, rfl⟩
      have HZ : Hid (z = n8 (b + BitVec.ofNat 8 j)) := by rw [← hz]; exact n8_add b j (by omega)
      have HN : Hid (Reads (wr.alloc (.cells #[.int .u8 z] 5)) (wr.heap.size + 1) 1 (some ⟨wr.heap.size, 0, none⟩) 1 (u8s [b + BitVec.ofNat 8 j])) := reads_new wr _ _ (0, 0) [b + BitVec.ofNat 8 j] 1 rfl (by rw [HZ.out]; rfl)
      have hw8 : IntKind.u8.wrap (j : Int) = (j : Int) := by simp [IntKind.wrap, IntKind.bits, IntKind.signed]; omega
      have hlt2 : decide ((j : Int) < (m : Int)) = true := by simp; omega
      clear hj ho hb
      go_wp2_with (at_builtin
                   refine wpList_append_any _ rfl (.tmp 34) (.tmp 40) _ rfl w2.heap.size 5 i0 _ 1 1 Try.underlying36 hi0 hz0 hz1 hz2 rfl (by omega) (.slice A6 j c6) j _ rfl
                     (HO.out.alloc _) _ _ 1 1 _ rfl HN.out (u8s_one _) (by simp only [maxLen]; omega) (by omega) (by simp; omega) ?_
                   intro v1 w4 hown1 hg1 hat1
                   rw [u8s_append, ← mvB_take b c j (by rw [HMC.out]; exact hlt)] at hown1
                   have HO1 := Lib.hid hown1
                   have HB4 := Lib.hid ((HB.out.alloc HB.out.size (.cells #[.int .u8 z] 5)).grown hg1 (by simp; omega) (fun q hq => (HO.out.lt q hq).1))
                   clear hown1 hg1 hat1)
      go_roundg (gk - 1)
      case measure => have := HJ.out; omega
      case rel => exact ⟨j + 1, by have := HJ.out; omega, by go_num, HO1.out, HB4.out⟩
    · have e8 : j = m := by omega
      subst e8
      have hmv : (mvB b c).take j = mvB b c := List.take_of_length_le (by rw [mvB_length, HMC.out]; exact Nat.le_refl _)
      have hmvl : (mvB b c).length = j := by rw [mvB_length, HMC.out]
      rw [hmv] at ho
      have HV := Lib.hid (Holds.of_own ho)
      have H3 : Hid (Sep B w0 wr (diskOb d rb n lay D :: knownOb S k gb gd d size n D :: rowOb 5 1 (.slice A6 j c6) j (u8s (mvB b c)) :: os)) :=
        (H2.out.add (a := rowOb 5 1 (.slice A6 j c6) j (u8s (mvB b c))) hb (own_base ho (fun _ _ => Nat.zero_le _)) (fun q hq => (ho.lt q hq).1)).perm ((List.Perm.swap _ _ _).trans ((List.Perm.swap _ _ _).cons _))
      obtain ⟨k0, k1, k2, k3⟩ := H3.out.known.cells
      have HMV := Lib.hid hmvl
      clear hj ho hb hmv hmvl HO
      go_wp2_with fail
      refine (sep_dappend H3.out hn i hin HV.out).mono ?_
      rintro e w5 ⟨rfl, lay5, hs⟩
      have H5 := Lib.hid hs
      obtain ⟨r0, r1, r2, r3⟩ := hs.known.cells
      obtain ⟨Bk, ck, e1, e2, e3, e4, e5⟩ := hs.known.slot i hin
      obtain ⟨u1, u2, u3⟩ := hs.known.nums i hin
      obtain ⟨z1, z2⟩ := hs.known.sz
      obtain ⟨gne1, gne2, gne3⟩ := hs.known.ne
      have hkn := hs.known
      have HKN := Lib.hid hkn
      have HE5 := Lib.hid e5
      have hcl := e5.1
      have hcm := e5.2.1
      obtain ⟨L, hL⟩ : ∃ L, (D i).bytes.length = L := ⟨_, rfl⟩
      have HLL := Lib.hid hL
      have hrow : w5.ownsRow 0 5 1 (.slice A6 j c6) j (u8s (mvB b c)) := hs.get (.tail _ (.tail _ (.head _)))
      have HRV5 := Lib.hid (Reads.of_own hrow)
      rw [hL] at e1 u1 u2 hcl
      have hgb : gb < w5.heap.size := hkn.lt gb (.inr (.inl rfl))
      have hgd : gd < w5.heap.size := hkn.lt gd (.inr (.inr (.inl rfl)))
      have hkl : k < w5.heap.size := hkn.lt k (.inl rfl)
      unfold maxLen at hcm
      clear k0 k1 k2 k3 hs hL e5 hkn hrow
      by_cases hf : L + j ≤ size
      · have HAE : Hid (appE D i (mvB b c) = 0) := by show appE _ _ _ = _; unfold appE; rw [HLL.out, HMV.out, u3, if_pos hf]
        rw [HAE.out]
        go_wp2_with fail
        go_quiet (fail)
        have hb6 : Below w5.heap.size w5 (w5.drewN nq) := bel_drewN' _ _
        have H6 := Lib.hid (H5.out.below hb6)
        have HRV6 := Lib.hid ((HRV5.out.below hb6).more hb6.size)
        have HKN6 := Lib.hid (HKN.out.below hb6)
        have HE6 : Hid (BytesAt (w5.drewN nq) S Bk ck (D i).bytes) := HE5.out.chg HKN.out.cel.lt (Chg.of_below (F := fun _ => False) hb6) (fun _ _ h => h)
        obtain ⟨p0, p1, p2, p3⟩ := HKN6.out.cells
        have e1' : (w5.drewN nq).cell? ⟨gb, i, none⟩ = some (.slice Bk L ck) := e1
        have e3' : (w5.drewN nq).frozen? ⟨gb, i, none⟩ = false := e3
        have hsz6 : (w5.drewN nq).heap.size = w5.heap.size := rfl
        rw [← hsz6] at hgb hgd hkl
        generalize w5.drewN nq = w6 at hb6 H6 HRV6 HKN6 HE6 p0 p1 p2 p3 e1' e3' hgb hgd hkl ⊢
        clear hsz6 hb6 r0 r1 r2 r3 e1 e2 e3 e4
        have HO := Lib.hid (made0b w6)
        have HRA : Hid (Reads (w6.alloc (.cells #[] 5)) w6.heap.size 1 Bk L (u8s (D i).bytes)) := by
          have := (HE6.out.reads HKN6.out.cel.lt).alloc (Nat.le_refl _) (.cells #[] 5)
          rwa [HLL.out] at this
        go_wp2_with fail
        go_region_law (first
          | (refine step_append_any _ (by rfl) (.tmp 72) (.tmp 79) _ (by rfl) w6.heap.size 5 i0 _ 1 1 Try.underlying36 hi0 hz0 hz1 hz2 (by rfl) (by omega) (.slice (some ⟨w6.heap.size, 0, none⟩) 0 0) 0 [] (by rfl)
               HO.out w6.heap.size Bk L ck (u8s (D i).bytes) (by rfl) HRA.out (u8s_one _) (by simp only [maxLen]; omega) (by omega) (by simp) ?_; intro v7 w7 hown1 hg1 hat1
             rw [Nat.zero_add, List.nil_append] at hown1
             have HB7 := Lib.hid ((((Below.refl w6.heap.size w6).alloc (Nat.le_refl _) (.cells #[] 5)).drew).grown hg1 (by simp) (by intro q hq; simp [Value.ownBlock] at hq; omega))
             obtain ⟨A7, c7, rfl, hA7, hc7, _⟩ := own_slice hown1
             have HO7 := Lib.hid hown1
             have HR7 := Lib.hid (HRV6.out.below HB7.out)
             have hs7 : w6.heap.size ≤ w7.heap.size := HB7.out.size
             have p27 : w7.cell? ⟨k, 2, none⟩ = some (.slice (some ⟨gb, 0, none⟩) n n) := (HB7.out.cell (p := ⟨k, 2, none⟩) hkl).trans p2
             clear hown1 hg1 hat1)
          | (refine step_append_any _ (by rfl) (.tmp 80) (.tmp 81) _ (by rfl) w6.heap.size 5 i0 _ 1 1 Try.underlying36 hi0 hz0 hz1 hz2 (by rfl) (by omega) (.slice A7 L c7) L (u8s (D i).bytes) (by rfl)
               HO7.out w6.heap.size A6 j c6 (u8s (mvB b c)) (by rfl) HR7.out (u8s_one _) (by simp only [maxLen]; omega) (by omega) hs7 ?_; intro v8 w8 hown2 hg2 hat2
             rw [u8s_append] at hown2
             have HB8 := Lib.hid (HB7.out.grown hg2 hs7 (fun q hq => (HO7.out.lt q hq).1))
             obtain ⟨A8, c8, rfl, hA8, hc8, _⟩ := own_slice hown2
             have HO8 := Lib.hid hown2
             have p28 : w8.cell? ⟨k, 2, none⟩ = some (.slice (some ⟨gb, 0, none⟩) n n) := (HB8.out.cell (p := ⟨k, 2, none⟩) hkl).trans p2
             have g8 : w8.cell? ⟨gb, i, none⟩ = some (.slice Bk L ck) := (HB8.out.cell (p := ⟨gb, i, none⟩) hgb).trans e1'
             have f8 : w8.frozen? ⟨gb, i, none⟩ = false := (World.frozen?_of_block (HB8.out.block gb hgb)).trans e3'
             clear hown2 hg2 hat2))
        all_goals
          go_wp2_with fail
          go_ret
          have hxl : ((D i).bytes ++ mvB b c).length = L + j := by rw [List.length_append, HLL.out, HMV.out]
          have hO := HO8.out
          have hlt8 := hO.lt
          have hKN8 : IsKnown w8 (fun q => S q ∨ (Value.slice A8 (L + j) c8).ownBlock = some q) k gb gd d size n D := by
            have hk8 := HKN6.out.below HB8.out
            obtain ⟨ns1, ns2, ns3⟩ := hk8.ns
            refine hk8.more (fun q hq => .inl hq) ⟨?_, ?_, ?_⟩ (hk8.cel.or (own_cells hO))
            · rintro (e | e)
              · exact ns1 e
              · have := (hlt8 _ e).1; omega
            · rintro (e | e)
              · exact ns2 e
              · have := (hlt8 _ e).1; omega
            · rintro (e | e)
              · exact ns3 e
              · have := (hlt8 _ e).1; omega
          have hBA : BytesAt w8 (fun q => S q ∨ (Value.slice A8 (L + j) c8).ownBlock = some q) A8 c8 ((D i).bytes ++ mvB b c) := by
            rw [← hxl] at hO ⊢
            exact BytesAt.own hO (fun q hq => .inr hq)
          have hup := hKN8.updB hin ⟨(D i).size, (D i).bytes ++ mvB b c, (D i).dur⟩ A8 c8 rfl hBA ⟨by simp only; rw [hxl]; omega, by simp only; rw [hxl]; omega, u3⟩
          have hAD : appD D i (mvB b c) = updF D i ⟨(D i).size, (D i).bytes ++ mvB b c, (D i).dur⟩ := by unfold appD; rw [HLL.out, HMV.out, u3, if_pos hf]
          have h9 := H6.out
          rw [hAD] at h9 ⊢
          simp only at hup
          rw [hxl] at hup
          refine ⟨rfl, lay5, _, ((h9.knownTo (((Chg.of_below (F := kfoot S k gb gd) HB8.out)).setCell (p := ⟨gb, i, none⟩) (.inl (.inr (.inl rfl))) _) hup (fun q hq => hq.imp id (fun e => (hlt8 q e).1)))).sub (((List.sublist_cons_self _ _).cons_cons _).cons_cons _)⟩
      · have HAE : Hid (appE D i (mvB b c) = 4) := by show appE _ _ _ = _; unfold appE; rw [HLL.out, HMV.out, u3, if_neg hf]
        have HAD : Hid (appD D i (mvB b c) = D) := by show appD _ _ _ = _; unfold appD; rw [HLL.out, HMV.out, u3, if_neg hf]
        rw [HAE.out]
        go_wp2_with fail
        go_quiet (fail)
        have hb6 : Below w5.heap.size w5 (w5.drewN nq) := bel_drewN' _ _
        have H6 := Lib.hid (H5.out.below hb6)
        have HRV6 := Lib.hid ((HRV5.out.below hb6).more hb6.size)
        have HKN6 := Lib.hid (HKN.out.below hb6)
        have HE6 : Hid (BytesAt (w5.drewN nq) S Bk ck (D i).bytes) := HE5.out.chg HKN.out.cel.lt (Chg.of_below (F := fun _ => False) hb6) (fun _ _ h => h)
        obtain ⟨p0, p1, p2, p3⟩ := HKN6.out.cells
        have e1' : (w5.drewN nq).cell? ⟨gb, i, none⟩ = some (.slice Bk L ck) := e1
        have e3' : (w5.drewN nq).frozen? ⟨gb, i, none⟩ = false := e3
        have hsz6 : (w5.drewN nq).heap.size = w5.heap.size := rfl
        rw [← hsz6] at hgb hgd hkl
        generalize w5.drewN nq = w6 at hb6 H6 HRV6 HKN6 HE6 p0 p1 p2 p3 e1' e3' hgb hgd hkl ⊢
        clear hsz6 hb6 r0 r1 r2 r3 e1 e2 e3 e4
        go_wp2_with fail
        go_ret
        rw [HAD.out] at H6 ⊢
        exact ⟨rfl, lay5, S, H6.out.sub (((List.sublist_cons_self _ _).cons_cons _).cons_cons _)⟩
end
end Go.Proofs.Ytelobbigpgfobaa
