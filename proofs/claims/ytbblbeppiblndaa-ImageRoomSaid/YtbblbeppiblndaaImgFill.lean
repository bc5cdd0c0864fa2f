/-
  The walk of the image laws' filled: an image behind at most 60 moves, its bytes, how many are durable. Condition: the moves can be read.
-/
import Derived.Test.YtbblbeppiblndaaImgLaw
import Derived.Test.YtbblbeppiblndaaImgWorks
import Derived.Test.YtbblbeppiblndaaArgs
import Derived.Test.YtbblbeppiblndaaLaws
namespace Go.Proofs.Ytbblbeppiblndaa
open Go.RowKit
set_option linter.unusedVariables false
theorem results_tmp4 {fn : Func} {t u v x : Tmp} (h : fn.results = #[.tmp t, .tmp u, .tmp v, .tmp x]) (tmps : Array Value) (P : Program) (w : World) :
    (results fn tmps).run P w = .ok (.tuple #[tmps.getD t undef, tmps.getD u undef, tmps.getD v undef, tmps.getD x undef]) w := by simp [results, h]
theorem wpList_load_at {P : Program} {ops : Array Oper} {rest : List Oper} {o : Oper} {a : Act} {w : World} {Q : Exit → Act → World → Prop} (hgd : o.guard = none) (ty : TypeId) (x : Operand) (ho : o.op = .load ty x)
    (ad : Addr) (hx : a.eval x = .pointer (some ad)) (cs : List Value) (d : TypeDesc) (hc : ∀ j v, cs[j]? = some v → w.cell? (ad.add j) = some v)
    (hu : P.underlying ty = some d) (hd : (match d with | .struct _ | .array _ _ => true | _ => false) = true) (hi : (P.info? ty).map (·.size) = some cs.length)
    (h : wpList P ops Q rest (a.put o.dst (.agg cs.toArray)) w) : wpList P ops Q (o :: rest) a w := by
  refine wpList_plain hgd fun K hK => ?_
  have hK' := hK _ _ h
  have hl : (loadCells ad cs.length).run P w = .ok cs.toArray w := run_loadCells_list (P := P) w ad cs hc
  have hv : (loadVar ty ad).run P w = .ok (.agg cs.toArray) w := by
    cases hq : P.info? ty with
    | none => simp [hq] at hi
    | some i =>
      have hs : i.size = cs.length := by simpa [hq] using hi
      have hagg : (isAgg ty).run P w = .ok true w := by
        unfold isAgg
        rw [Sem.run_bind, run_underlying hu w]
        cases d <;> simp_all
      simp [loadVar, Sem.run_bind, hagg, sizeOf, typeInfo, hq, hs, hl]
  unfold Oper.wp execOp
  simp only [ho, hx, Instr.loadAt, Instr.sureAddr, Sem.run_bind, Sem.run_pure, Result.andThen_ok, hv]
  exact hK'
/-- The cells of a move. -/
def moveCells (m : BitVec 8 × BitVec 8 × BitVec 8) : List Value := [.int .u8 (n8 m.1), .int .u8 (n8 m.2.1), .int .u8 (n8 m.2.2)]
/-- A slice of moves. -/
def MovesAt (w : World) (B : Nat) (A : Option Addr) (n : Nat) : Prop :=
  ∃ ms : Nat → BitVec 8 × BitVec 8 × BitVec 8, ∀ i, i < n → ∃ ad, A = some ad ∧ ad.block < B ∧ ∀ j v, (moveCells (ms i))[j]? = some v → w.cell? ((ad.add (i * 3)).add j) = some v
theorem MovesAt.keep {w w' : World} {B : Nat} {A : Option Addr} {n : Nat} (h : MovesAt w B A n) (hb : Below B w w') : MovesAt w' B A n := by
  obtain ⟨ms, h⟩ := h
  refine ⟨ms, fun i hi => ?_⟩
  obtain ⟨ad, e, hb1, hc⟩ := h i hi
  exact ⟨ad, e, hb1, fun j v hj => by rw [hb.cell (by rw [block_of_add, block_of_add]; exact hb1)]; exact hc j v hj⟩
theorem moves_arg {w : World} {v : Value} (h : ArgIn Try.prog w 22 v) : ∃ A n c, v = .slice A n c ∧ n ≤ c ∧ c ≤ maxLen ∧ MovesAt w w.heap.size A n := by
  obtain ⟨A, n, c, xs, rfl, h1, h2, h3, h4⟩ := h.slice (e := 62) rfl (by decide +kernel)
  refine ⟨A, n, c, rfl, h1, h2, ?_⟩
  have hC : Try.prog.cellsOf 62 = 3 := by kernel_rfl
  have hC1 : Try.prog.cellsOf 5 = 1 := by kernel_rfl
  rw [hC] at h3 h4
  have key : ∀ i, i < n → ∃ m : BitVec 8 × BitVec 8 × BitVec 8, (xs.drop (i * 3)).take 3 = moveCells m := by
    intro i hi
    obtain ⟨hl, hf⟩ := Rd.struct Try.underlying62 (h4 i hi)
    rw [hC] at hl
    generalize (xs.drop (i * 3)).take 3 = cs at *
    obtain ⟨c0, c1, c2, rfl⟩ : ∃ a b c, cs = [a, b, c] := by
      match cs, hl with
      | [a, b, c], _ => exact ⟨a, b, c, rfl⟩
    have g0 : Rd Try.prog w 5 [c0] := by simpa [hC1] using hf 0 _ rfl
    have g1 : Rd Try.prog w 5 [c1] := by simpa [hC1] using hf 1 _ rfl
    have g2 : Rd Try.prog w 5 [c2] := by simpa [hC1] using hf 2 _ rfl
    obtain ⟨x0, e0, w0⟩ := Rd.int (k := .u8) Try.underlying5 g0
    obtain ⟨x1, e1, w1⟩ := Rd.int (k := .u8) Try.underlying5 g1
    obtain ⟨x2, e2, w2⟩ := Rd.int (k := .u8) Try.underlying5 g2
    obtain ⟨b0, rfl⟩ := u8_of_wf w0
    obtain ⟨b1, rfl⟩ := u8_of_wf w1
    obtain ⟨b2, rfl⟩ := u8_of_wf w2
    refine ⟨(b0, b1, b2), ?_⟩
    have e0' : c0 = .int .u8 (n8 b0) := by simpa using e0
    have e1' : c1 = .int .u8 (n8 b1) := by simpa using e1
    have e2' : c2 = .int .u8 (n8 b2) := by simpa using e2
    subst e0' e1' e2'
    rfl
  refine ⟨fun i => if hi : i < n then (key i hi).choose else (0, 0, 0), fun i hi => ?_⟩
  obtain ⟨ad, e, hb, hc⟩ := h3.2 (by omega)
  refine ⟨ad, e, hb, fun j v hj => ?_⟩
  simp only [dif_pos hi] at hj
  rw [← (key i hi).choose_spec] at hj
  rw [add_of_add]
  have hj3 : j < 3 := by
    have := (List.getElem?_eq_some_iff.1 hj).1
    rw [List.length_take] at this; omega
  rw [List.getElem?_take, if_pos hj3, List.getElem?_drop] at hj
  exact hc _ _ hj
theorem St.appended {B : Nat} {w0 w w' : World} {g : Nat} {fb : Option Nat} {l : List (BitVec 8)} {size dur : Nat} {v v1 : Value} {m md : List (BitVec 8)} (h : St B w0 w g fb l size dur [(v, m)]) (ho : Own8 w' B v1 md) (hg : w.grownBy w' v.ownBlock)
    (hat : v1.ownBlock = v.ownBlock ∨ v1.ownBlock = some w.heap.size) : St B w0 w' g fb l size dur [(v1, md)] := by
  have hv := (h.held _ (.head _)).2
  have ho0 := (h.held _ (.head _)).1
  have hc : Chg (fun k => v.ownBlock = some k) w w' := (Chg.refl _ w).grown hg (fun q hq => .inl hq)
  refine ⟨h.img.chg hc (fun k hk e => hv k e hk), h.base, ?_, Nat.le_trans h.big hc.size, fun p hp => ?_⟩
  · exact h.bel.trans ⟨hc.os, hc.tape, hc.output, hc.size, fun k hk => hc.block k (by have := h.big; omega) (fun e => by have := (ho0.lt k e).1; omega)⟩
  · rcases List.mem_cons.1 hp with rfl | hp
    · refine ⟨ho, fun k hk hf => ?_⟩
      rcases hat with e | e
      · exact hv k (e ▸ hk) hf
      · rw [e] at hk; injection hk with hk; have := h.img.lt k hf; omega
    · cases hp
set_option maxHeartbeats 1000000 in
theorem filled_any {w : World} {A : Option Addr} {n c : Nat} (hm : MovesAt w w.heap.size A n) (hn : n ≤ c) (hc : c ≤ maxLen) :
    Calls Try.prog 10 #[.slice A n c] w fun e w' => ∃ g fb l, ∃ dur : Nat, ∃ v, e = .returned (.tuple #[.pointer (some ⟨g, 0, none⟩), v, .int .i64 (dur : Int), .bool true]) ∧ St w.heap.size w w' g fb l 300 dur [(v, l)] := by
  obtain ⟨m, hmin⟩ : ∃ m : Nat, (if (60 : Int) < (n : Int) then (60 : Int) else (n : Int)) = (m : Int) := by
    split
    · exact ⟨60, rfl⟩
    · exact ⟨n, rfl⟩
  have hmn : m ≤ n ∧ m ≤ 60 := by split at hmin <;> omega
  obtain ⟨ms, hms⟩ := hm
  have HMS := Lib.hid hms
  have HMIN := Lib.hid hmin
  unfold maxLen at hc
  clear hms hmin
  obtain ⟨i0, hi0, hz0, hz1, hz2⟩ := info_parts u8_info
  go_enter Try.func10, Try.ntmps10
  go_wp2_with fail
  refine (st_new w 300 (by omega) (by omega)).mono ?_
  rintro e w1 ⟨g, rfl, hs⟩
  have H := Lib.hid (hs.add (v := .slice none 0 0) (m := []) (World.ownsRow_nil _ _ _ _) (fun k hk => by cases hk))
  clear hs
  go_wp2_with (with_reducible refine wpList_min rfl _ _ _ _ _ _ _ rfl rfl rfl HMIN.out ?_)
  go_loopg [8, 9, 29] m (fun q v8 v9 v29 wr => ∃ (j : Nat) (fb : Option Nat) (l : List (BitVec 8)) (dur : Nat), j + q = m ∧ v29 = .int .i64 j ∧ v9 = .int .i64 dur ∧ St w.heap.size w wr g fb l 300 dur [(v8, l)])
  case atStart => exact ⟨0, none, [], 0, by omega, rfl, rfl, H.out⟩
  case round =>
    obtain ⟨j, fb, l, dur, hj, rfl, rfl, hs⟩ := hrel
    have hj' : j ≤ m := by omega
    have HJ := Lib.hid hj
    have HS := Lib.hid hs
    clear hj hs
    by_cases hlt : j < m
    · obtain ⟨ad, rfl, hadb, hcells⟩ := HMS.out j (by omega)
      generalize ms j = mv at hcells
      obtain ⟨k, nn, b⟩ := mv
      have hcell : ∀ q v, (moveCells (k, nn, b))[q]? = some v → wr.cell? ((ad.add (j * 3)).add q) = some v := fun q v hq => by rw [HS.out.bel.cell (by rw [block_of_add, block_of_add]; exact hadb)]; exact hcells q v hq
      have c0 : wr.cell? (ad.add (j * 3)) = some (.int .u8 (n8 k)) := by have := hcell 0 _ rfl; rwa [add_of_add, Nat.add_zero] at this
      have c1 : wr.cell? ⟨(ad.add (j * 3)).block, (ad.add (j * 3)).off + 1, none⟩ = some (.int .u8 (n8 nn)) := hcell 1 _ rfl
      have c2 : wr.cell? ⟨(ad.add (j * 3)).block, (ad.add (j * 3)).off + 2, none⟩ = some (.int .u8 (n8 b)) := hcell 2 _ rfl
      clear hcells hcell
      obtain ⟨A8, c8, rfl, hA8, hc8, hr8⟩ := own_slice (HS.out.get (.head _))
      have HLT := Lib.hid HS.out.img.lt
      have HBB := Lib.hid (Blk.new wr 62 #[.int .u8 (n8 k), .int .u8 (n8 nn), .int .u8 (n8 b)])
      by_cases hk : 192 ≤ n8 k
      · have d1 : decide (192 ≤ n8 k) = true := by simpa using hk
        go_wp2_with fail
        refine (st_sync (HS.out.alloc _)).mono ?_
        rintro e w2 ⟨rfl, hs, hch⟩
        have HS2 := Lib.hid hs
        clear hs hch
        go_wp2_with fail
        go_roundg (gk - 1)
        case measure => have := HJ.out; omega
        case rel => exact ⟨j + 1, fb, l, l.length, by have := HJ.out; omega, by go_num, rfl, HS2.out⟩
      · have d1 : decide (192 ≤ n8 k) = false := by simpa using hk
        go_wp2_with fail
        refine (data_any k nn b _).mono ?_
        rintro e w2 ⟨v2, rfl, ho, hb⟩
        have HS2 := Lib.hid ((HS.out.alloc (.cells #[.int .u8 (n8 k), .int .u8 (n8 nn), .int .u8 (n8 b)] 62)).below hb)
        have HO2 := Lib.hid ho
        have HB2 := Lib.hid (HBB.out.below hb (by simp))
        have hsz2 : wr.heap.size + 1 ≤ w2.heap.size := by have := hb.size; simpa using this
        clear ho hb
        go_wp2_with fail
        by_cases hfit : l.length + (moveData nn b).length ≤ 300
        · refine (st_append HS2.out HO2.out.holds hfit).mono ?_
          rintro e w3 ⟨rfl, fb3, hs, hch, hfb⟩
          have HS3 := Lib.hid hs
          have HB3 := Lib.hid (HB2.out.chg hch (fun h => by have := HLT.out _ h; omega))
          have hsz3 : w2.heap.size ≤ w3.heap.size := hch.size
          clear hs hch hfb
          have q0 : w3.cell? ⟨wr.heap.size, 0, none⟩ = some (.int .u8 (n8 k)) := by rw [HB3.out.cell]; rfl
          have q1 : w3.cell? ⟨wr.heap.size, 1, none⟩ = some (.int .u8 (n8 nn)) := by rw [HB3.out.cell]; rfl
          have q2 : w3.cell? ⟨wr.heap.size, 2, none⟩ = some (.int .u8 (n8 b)) := by rw [HB3.out.cell]; rfl
          have hl3 := HS3.out.img.nums
          go_wp2_with fail
          refine (data_any k nn b _).mono ?_
          rintro e w4 ⟨v4, rfl, ho, hb⟩
          obtain ⟨A4, c4, rfl, hA4, hc4, hr4⟩ := own_slice ho
          have HS4 := Lib.hid (HS3.out.below hb)
          have HB4 := Lib.hid (HB3.out.below hb (by omega))
          have hsz4 : w3.heap.size ≤ w4.heap.size := hb.size
          clear ho hb hr4 q0 q1 q2
          have q0 : w4.cell? ⟨wr.heap.size, 0, none⟩ = some (.int .u8 (n8 k)) := by rw [HB4.out.cell]; rfl
          have q1 : w4.cell? ⟨wr.heap.size, 1, none⟩ = some (.int .u8 (n8 nn)) := by rw [HB4.out.cell]; rfl
          have q2 : w4.cell? ⟨wr.heap.size, 2, none⟩ = some (.int .u8 (n8 b)) := by rw [HB4.out.cell]; rfl
          have d2 : decide ((l.length : Int) + ((moveData nn b).length : Int) ≤ 300) = true := by simp; omega
          go_wp2_with fail
          refine (data_any k nn b _).mono ?_
          rintro e w5 ⟨v5, rfl, ho, hb⟩
          obtain ⟨A5, c5, rfl, hA5, hc5, hr5⟩ := own_slice ho
          have HS5 := Lib.hid (HS4.out.below hb)
          have HR5 := Lib.hid hr5
          clear ho hb hr5 q0 q1 q2
          have hm40 : (moveData nn b).length < 40 := by rw [moveData_length]; omega
          go_wp2_with (at_builtin
                       refine wpList_append_g _ rfl (.tmp 64) (.tmp 66) _ rfl w.heap.size 5 i0 _ 1 1 Try.underlying25 hi0 hz0 hz1 hz2 rfl (by omega) (.slice A8 l.length c8) l.length (u8s l) rfl
                         (HS5.out.get (.head _)) w5.heap.size A5 _ c5 (u8s (moveData nn b)) rfl HR5.out (u8s_one _) (by simp only [maxLen]; omega) (by omega) HS5.out.big ?_
                       intro v1 w6 hown1 hg1 hat1
                       rw [u8s_append] at hown1
                       have HS6 := Lib.hid (HS5.out.appended (Own8.of hown1).1 hg1 hat1)
                       clear hown1 hg1 hat1)
          go_roundg (gk - 1)
          case measure => have := HJ.out; omega
          case rel => exact ⟨j + 1, fb3, _, dur, by have := HJ.out; omega, by go_num, rfl, HS6.out⟩
        · refine (st_append_full HS2.out HO2.out.holds (by omega)).mono ?_
          rintro e w3 ⟨rfl, hs, hbe⟩
          have HS3 := Lib.hid hs
          have HB3 := Lib.hid (HB2.out.below hbe (by omega))
          have hsz3 : w2.heap.size ≤ w3.heap.size := hbe.size
          clear hs hbe
          have q0 : w3.cell? ⟨wr.heap.size, 0, none⟩ = some (.int .u8 (n8 k)) := by rw [HB3.out.cell]; rfl
          have q1 : w3.cell? ⟨wr.heap.size, 1, none⟩ = some (.int .u8 (n8 nn)) := by rw [HB3.out.cell]; rfl
          have q2 : w3.cell? ⟨wr.heap.size, 2, none⟩ = some (.int .u8 (n8 b)) := by rw [HB3.out.cell]; rfl
          have hl3 := HS3.out.img.nums
          go_wp2_with fail
          refine (data_any k nn b _).mono ?_
          rintro e w4 ⟨v4, rfl, ho, hb⟩
          obtain ⟨A4, c4, rfl, hA4, hc4, hr4⟩ := own_slice ho
          have HS4 := Lib.hid (HS3.out.below hb)
          clear ho hb hr4 q0 q1 q2
          have d2 : decide ((l.length : Int) + ((moveData nn b).length : Int) ≤ 300) = false := by simp; omega
          have hm40 : (moveData nn b).length < 40 := by rw [moveData_length]; omega
          go_wp2_with fail
          go_roundg (gk - 1)
          case measure => have := HJ.out; omega
          case rel => exact ⟨j + 1, fb, l, dur, by have := HJ.out; omega, by go_num, rfl, HS4.out⟩
    · have e8 : j = m := by omega
      subst e8
      go_wp2_with fail
      refine bodyPost_ret (results_tmp4 rfl _ _ _) rfl ?_
      exact ⟨g, fb, l, dur, _, rfl, HS.out⟩
end Go.Proofs.Ytbblbeppiblndaa
