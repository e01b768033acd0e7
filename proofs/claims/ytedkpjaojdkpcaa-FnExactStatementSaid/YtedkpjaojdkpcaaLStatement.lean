/- Statement: what an account has, line by line. Conditions: none. -/
import Derived.Test.YtedkpjaojdkpcaaLG
import Derived.Test.YtedkpjaojdkpcaaLT
import Derived.Test.YtedkpjaojdkpcaaLLine
namespace Go.Proofs.Ytedkpjaojdkpcaa
open Go.BL Go.RowKit
set_option linter.unusedVariables false
set_option linter.unusedSimpArgs false
set_option maxRecDepth 100000
attribute [local go_sem] accountC balC lotC tradeC booksC booksA lineC
def mkLine (b : Books) (a : Int) (x : Bal) : Line := if (kindOf b.instrs x.instr == 2) = true then ⟨x.instr, x.amount, sumC (ownL b.lots a x.instr), divV (sumC (ownL b.lots a x.instr)) x.amount, wrap64 (sumC (ownL b.lots a x.instr) - wrap64 (divV (sumC (ownL b.lots a x.instr)) x.amount * x.amount))⟩ else ⟨x.instr, x.amount, 0, 0, 0⟩
def linesTo (b : Books) (a : Int) (i : Nat) : List Line := ((b.bals.take i).filter fun x => x.account == a).map (mkLine b a)
theorem lines_s (b : Books) (a : Int) (i : Nat) (hi : i < b.bals.length) : linesTo b a (i + 1) = linesTo b a i ++ (if (b.bals[i].account == a) = true then [mkLine b a b.bals[i]] else []) := by
  rw [linesTo, List.take_succ_eq_append_getElem hi, List.filter_append, List.map_append, linesTo]
  congr 1
  rw [List.filter_cons, List.filter_nil]
  split <;> rfl
theorem lines_len (b : Books) (a : Int) (i : Nat) : (linesTo b a i).length ≤ i := by
  rw [linesTo, List.length_map]
  refine Nat.le_trans (List.length_filter_le _ _) ?_
  rw [List.length_take]; omega
theorem line_room {s : List Line} (h : s.length ≤ 1000000000) (x : List CV) : ((s.map lineC).length + [x].length) * 40 ≤ 140737488355328 := by simp; omega
def stmtR (b : Books) (a : Int) : Option (List Line) := if (booksOk b && !(kindOf b.accounts a == 0)) = true then some (linesTo b a b.bals.length) else none
theorem c_impl_Statement (b : Books) (a : Int) (hs : Small b) (K : AV → AH → Prop) (hk : K (.tup [.one (.sl 0 0 0 ((stmtR b a).getD []).length), (.one (.c (.bool ((stmtR b a).isSome))))]) [.own 0 84 5 none (((stmtR b a).getD []).map lineC)]) : ACalls Try.prog 21 [.agg (booksC b), (.one (.c (.int .i64 (a))))] [] K := by
  have hsb := hs.hb
  refine acall_c Try.f21.results.toList mixed Try.func21 rfl rfl (by kernel_rfl) ?_
  intro Q hQ hQO
  simp only [go_sem]
  cases hok : booksOk b with
  | false =>
    have hr : stmtR b a = none := by rw [stmtR, hok]; rfl
    rw [hr] at hk
    (try simp only [go_sem, hok]); repeat' (first | (with_reducible refine c_split (fun hb => ?_) (fun hb => ?_) <;> try simp only [go_sem, hb, hok]) | (with_reducible refine w_split (fun hb => ?_) (fun hb => ?_) <;> try simp only [go_sem, hb, hok]) | (refine call_c (c_impl_BooksOk b hs _ ?_) <;> try simp only [go_sem, hok]) | (fail))
    refine hQO [1] _ _ (GC.step (Ghost.nlr 4 (by simp only [go_sem]) 84 5) (GC.now ?_)) <;> simp only [Try.f21, go_sem, List.nodup_cons, List.nodup_nil, List.mem_cons, List.not_mem_nil, or_false, not_false_eq_true, List.idxOf?_cons, List.idxOf?_nil, Option.map_none]
    exact hk
  | true =>
    obtain ⟨p1, p2, p3, p4, p5⟩ := booksOk_parts hok
    cases hz : (kindOf b.accounts a == 0) with
    | true =>
      have hr : stmtR b a = none := by rw [stmtR, hok, hz]; rfl
      rw [hr] at hk
      (try simp only [go_sem, hok, hz]); repeat' (first | (with_reducible refine c_split (fun hb => ?_) (fun hb => ?_) <;> try simp only [go_sem, hb, hok, hz]) | (with_reducible refine w_split (fun hb => ?_) (fun hb => ?_) <;> try simp only [go_sem, hb, hok, hz]) | (refine call_c (c_impl_BooksOk b hs _ ?_) <;> try simp only [go_sem, hok, hz]) | (refine call_c (c_accountKind _ _ hs.ha _ ?_) <;> try simp only [go_sem, hok, hz]) | (fail))
      refine hQO [1] _ _ (GC.step (Ghost.nlr 4 (by simp only [go_sem]) 84 5) (GC.now ?_)) <;> simp only [Try.f21, go_sem, List.nodup_cons, List.nodup_nil, List.mem_cons, List.not_mem_nil, or_false, not_false_eq_true, List.idxOf?_cons, List.idxOf?_nil, Option.map_none]
      exact hk
    | false =>
      have hr : stmtR b a = some (linesTo b a b.bals.length) := by rw [stmtR, hok, hz]; rfl
      rw [hr] at hk
      (try simp only [go_sem, hok, hz]); repeat' (first | (with_reducible refine c_split (fun hb => ?_) (fun hb => ?_) <;> try simp only [go_sem, hb, hok, hz]) | (with_reducible refine w_split (fun hb => ?_) (fun hb => ?_) <;> try simp only [go_sem, hb, hok, hz]) | (refine call_c (c_impl_BooksOk b hs _ ?_) <;> try simp only [go_sem, hok, hz]) | (refine call_c (c_accountKind _ _ hs.ha _ ?_) <;> try simp only [go_sem, hok, hz]) | (fail))
      refine while_at (α := Nat × Nat × Option Nat) (fun ⟨j, g, cap⟩ => b.bals.length - j) [1, 2, 22, 23] (fun ⟨j, g, cap⟩ f h => f 24 = (.one (.c (.int .i64 ((j : Int))))) ∧ f 6 = .one (.sl 1 g 0 (linesTo b a j).length) ∧ h = [.own 0 38 6 (some 1) [booksC b], .own g 84 5 cap ((linesTo b a j).map lineC)] ∧ j ≤ b.bals.length) (0, 0, some 0) (GC.now ?_) ?_
      · simp only [go_sem, nc_0, true_and]
        exact ⟨rfl, rfl, Nat.zero_le _⟩
      · rintro ⟨j, g, cap⟩ f h J hA ⟨e24, e6, rfl, hP⟩ hJ
        simp only [go_sem] at hA
        try dsimp only at hJ
        simp only [go_sem, hA, e24, e6]
        have hlen := lines_len b a j
        have hcap : (linesTo b a j).length ≤ 1000000000 := Nat.le_trans hlen (Nat.le_trans hP hsb)
        by_cases hj : j < b.bals.length
        · have hdl : decide ((j : Int) < (b.bals.length : Int)) = true := decide_eq_true (by omega)
          have hg2 : b.bals[j]? = some b.bals[j] := List.getElem?_eq_getElem hj
          have hil2 : (j : Int) < (b.bals.length : Int) := Int.ofNat_lt.2 hj
          have hsn := lines_s b a j hj
          have hw : wrap64 ((j : Int) + 1) = ((j + 1 : Nat) : Int) := wrap_nat j (by omega)
          have hdec : b.bals.length - (j + 1) < b.bals.length - j := Nat.sub_lt_sub_left hj (Nat.lt_succ_self j)
          cases c1 : (b.bals[j].account == a) with
          | false =>
            rw [c1, if_neg (by decide), List.append_nil] at hsn
            (try simp only [go_sem, hA, e24, e6, hdl, hg2, hil2, c1]); repeat' (first | (with_reducible refine c_split (fun hb => ?_) (fun hb => ?_) <;> try simp only [go_sem, hb, hA, e24, e6, hdl, hg2, hil2, c1]) | (with_reducible refine w_split (fun hb => ?_) (fun hb => ?_) <;> try simp only [go_sem, hb, hA, e24, e6, hdl, hg2, hil2, c1]) | (fail))
            refine gc_trim 2 (by decide) (by simp only [go_sem]) (by simp only [go_sem, hw, hsn]) (hJ (j + 1, g, cap) _ _ (by exact hdec) (by simp only [go_sem, hA, e24, e6]) ⟨?_, ?_, ?_, ?_⟩) <;> try simp only [go_sem, hA, e24, e6, hw, hsn]
            exact hj
          | true =>
            rw [c1, if_pos rfl, mkLine] at hsn
            cases c2 : (kindOf b.instrs b.bals[j].instr == 2) with
            | false =>
              rw [c2, if_neg (by decide)] at hsn
              (try simp only [go_sem, hA, e24, e6, hdl, hg2, hil2, c1, c2]); repeat' (first | (with_reducible refine c_split (fun hb => ?_) (fun hb => ?_) <;> try simp only [go_sem, hb, hA, e24, e6, hdl, hg2, hil2, c1, c2]) | (with_reducible refine w_split (fun hb => ?_) (fun hb => ?_) <;> try simp only [go_sem, hb, hA, e24, e6, hdl, hg2, hil2, c1, c2]) | (refine call_c (c_instrKind _ _ hs.hi _ ?_) <;> try simp only [go_sem, hA, e24, e6, hdl, hg2, hil2, c1, c2]) | (fail))
              refine ap_end rfl (List.length_map ..).symm (line_room hcap _) ?_
              simp only [go_sem, hA, e24, e6]
              (try simp only [go_sem, hA, e24, e6]); repeat' (first | (with_reducible refine c_split (fun hb => ?_) (fun hb => ?_) <;> try simp only [go_sem, hb, hA, e24, e6]) | (with_reducible refine w_split (fun hb => ?_) (fun hb => ?_) <;> try simp only [go_sem, hb, hA, e24, e6]) | (fail))
              refine gc_trim 2 (by decide) (by simp only [go_sem]) (by simp only [go_sem, hw, hsn]) (hJ (j + 1, g + 1, none) _ _ (by exact hdec) (by simp only [go_sem, hA, e24, e6]) ⟨?_, ?_, ?_, ?_⟩) <;> try simp only [go_sem, hA, e24, e6, hw, hsn]
              exact hj
            | true =>
              rw [c2, if_pos rfl] at hsn
              (try simp only [go_sem, hA, e24, e6, hdl, hg2, hil2, c1, c2]); repeat' (first | (with_reducible refine c_split (fun hb => ?_) (fun hb => ?_) <;> try simp only [go_sem, hb, hA, e24, e6, hdl, hg2, hil2, c1, c2]) | (with_reducible refine w_split (fun hb => ?_) (fun hb => ?_) <;> try simp only [go_sem, hb, hA, e24, e6, hdl, hg2, hil2, c1, c2]) | (refine call_c (c_instrKind _ _ hs.hi _ ?_) <;> try simp only [go_sem, hA, e24, e6, hdl, hg2, hil2, c1, c2]) | (refine call_c (c_impl_LotsCost _ _ _ hs.hl p4 _ ?_) <;> try simp only [go_sem, hA, e24, e6, hdl, hg2, hil2, c1, c2]) | (refine call_c (c_impl_DivFloor _ _ _ ?_) <;> try simp only [go_sem, hA, e24, e6, hdl, hg2, hil2, c1, c2]) | (fail))
              refine ap_end rfl (List.length_map ..).symm (line_room hcap _) ?_
              simp only [go_sem, hA, e24, e6]
              (try simp only [go_sem, hA, e24, e6]); repeat' (first | (with_reducible refine c_split (fun hb => ?_) (fun hb => ?_) <;> try simp only [go_sem, hb, hA, e24, e6]) | (with_reducible refine w_split (fun hb => ?_) (fun hb => ?_) <;> try simp only [go_sem, hb, hA, e24, e6]) | (fail))
              refine gc_trim 2 (by decide) (by simp only [go_sem]) (by simp only [go_sem, hw, hsn]) (hJ (j + 1, g + 1, none) _ _ (by exact hdec) (by simp only [go_sem, hA, e24, e6]) ⟨?_, ?_, ?_, ?_⟩) <;> try simp only [go_sem, hA, e24, e6, hw, hsn]
              exact hj
        · have hjl : j = b.bals.length := by omega
          have hdl : decide ((j : Int) < (b.bals.length : Int)) = false := decide_eq_false (by omega)
          rw [← hjl] at hk
          (try simp only [go_sem, hA, e24, e6, hdl]); repeat' (first | (with_reducible refine c_split (fun hb => ?_) (fun hb => ?_) <;> try simp only [go_sem, hb, hA, e24, e6, hdl]) | (with_reducible refine w_split (fun hb => ?_) (fun hb => ?_) <;> try simp only [go_sem, hb, hA, e24, e6, hdl]) | (fail))
          have htk : (List.map lineC (linesTo b a j)).take (linesTo b a j).length = List.map lineC (linesTo b a j) := List.take_of_length_le (by simp)
          refine hQO [1] _ _ (GC.step (Ghost.cut (l := 1) rfl (linesTo b a j).length) (GC.now ?_)) <;> simp only [Try.f21, go_sem, List.nodup_cons, List.nodup_nil, List.mem_cons, List.not_mem_nil, or_false, not_false_eq_true, List.idxOf?_cons, List.idxOf?_nil, Option.map_none, htk]
          exact hk
theorem c_spec_Statement (b : Books) (a : Int) (hs : Small b) (K : AV → AH → Prop) (hk : K (.tup [(.one (.im (((stmtR b a).getD []).map lineC))), (.one (.c (.bool ((stmtR b a).isSome))))]) []) : ACalls Try.prog 20 [.agg (booksC b), (.one (.c (.int .i64 (a))))] [] K := by
  have hsb := hs.hb
  refine acall_c Try.f20.results.toList mixed Try.func20 rfl rfl (by kernel_rfl) ?_
  intro Q hQ hQO
  simp only [go_sem]
  cases hok : booksOk b with
  | false =>
    have hr : stmtR b a = none := by rw [stmtR, hok]; rfl
    rw [hr] at hk
    (try simp only [go_sem, hok]); repeat' (first | (with_reducible refine c_split (fun hb => ?_) (fun hb => ?_) <;> try simp only [go_sem, hb, hok]) | (with_reducible refine w_split (fun hb => ?_) (fun hb => ?_) <;> try simp only [go_sem, hb, hok]) | (refine call_c (c_BooksOk b hs _ ?_) <;> try simp only [go_sem, hok]) | (with_reducible refine hQ _ _ ?_ <;> simp only [Try.f20, go_sem, hok]))
    exact hk
  | true =>
    obtain ⟨p1, p2, p3, p4, p5⟩ := booksOk_parts hok
    cases hz : (kindOf b.accounts a == 0) with
    | true =>
      have hr : stmtR b a = none := by rw [stmtR, hok, hz]; rfl
      rw [hr] at hk
      (try simp only [go_sem, hok, hz]); repeat' (first | (with_reducible refine c_split (fun hb => ?_) (fun hb => ?_) <;> try simp only [go_sem, hb, hok, hz]) | (with_reducible refine w_split (fun hb => ?_) (fun hb => ?_) <;> try simp only [go_sem, hb, hok, hz]) | (refine call_c (c_BooksOk b hs _ ?_) <;> try simp only [go_sem, hok, hz]) | (refine call_c (c_AccountKind _ _ hs.ha p1 _ ?_) <;> try simp only [go_sem, hok, hz]) | (with_reducible refine hQ _ _ ?_ <;> simp only [Try.f20, go_sem, hok, hz]))
      exact hk
    | false =>
      have hr : stmtR b a = some (linesTo b a b.bals.length) := by rw [stmtR, hok, hz]; rfl
      rw [hr] at hk
      (try simp only [go_sem, hok, hz]); repeat' (first | (with_reducible refine c_split (fun hb => ?_) (fun hb => ?_) <;> try simp only [go_sem, hb, hok, hz]) | (with_reducible refine w_split (fun hb => ?_) (fun hb => ?_) <;> try simp only [go_sem, hb, hok, hz]) | (refine call_c (c_BooksOk b hs _ ?_) <;> try simp only [go_sem, hok, hz]) | (refine call_c (c_AccountKind _ _ hs.ha p1 _ ?_) <;> try simp only [go_sem, hok, hz]) | (fail))
      refine while_at (α := Nat × Nat × Option Nat) (fun ⟨j, g, cap⟩ => b.bals.length - j) [1, 2] (fun ⟨j, g, cap⟩ f h => f 7 = (.one (.c (.int .i64 ((j : Int))))) ∧ f 6 = .one (.sl 1 g 0 (linesTo b a j).length) ∧ h = [.own 0 38 6 (some 1) [booksC b], .own g 84 5 cap ((linesTo b a j).map lineC)] ∧ j ≤ b.bals.length) (0, 0, some 0) (GC.now ?_) ?_
      · simp only [go_sem, nc_0, true_and]
        exact ⟨rfl, rfl, Nat.zero_le _⟩
      · rintro ⟨j, g, cap⟩ f h J hA ⟨e7, e6, rfl, hP⟩ hJ
        simp only [go_sem] at hA
        try dsimp only at hJ
        simp only [go_sem, hA, e7, e6]
        have hlen := lines_len b a j
        have hcap : (linesTo b a j).length ≤ 1000000000 := Nat.le_trans hlen (Nat.le_trans hP hsb)
        by_cases hj : j < b.bals.length
        · have hdl : decide ((j : Int) < (b.bals.length : Int)) = true := decide_eq_true (by omega)
          have hg2 : b.bals[j]? = some b.bals[j] := List.getElem?_eq_getElem hj
          have hil2 : (j : Int) < (b.bals.length : Int) := Int.ofNat_lt.2 hj
          have hsn := lines_s b a j hj
          have hw : wrap64 ((j : Int) + 1) = ((j + 1 : Nat) : Int) := wrap_nat j (by omega)
          have hdec : b.bals.length - (j + 1) < b.bals.length - j := Nat.sub_lt_sub_left hj (Nat.lt_succ_self j)
          cases c1 : (b.bals[j].account == a) with
          | false =>
            rw [c1, if_neg (by decide), List.append_nil] at hsn
            (try simp only [go_sem, hA, e7, e6, hdl, hg2, hil2, c1]); repeat' (first | (with_reducible refine c_split (fun hb => ?_) (fun hb => ?_) <;> try simp only [go_sem, hb, hA, e7, e6, hdl, hg2, hil2, c1]) | (with_reducible refine w_split (fun hb => ?_) (fun hb => ?_) <;> try simp only [go_sem, hb, hA, e7, e6, hdl, hg2, hil2, c1]) | (fail))
            refine gc_trim 2 (by decide) (by simp only [go_sem]) (by simp only [go_sem, hw, hsn]) (hJ (j + 1, g, cap) _ _ (by exact hdec) (by simp only [go_sem, hA, e7, e6]) ⟨?_, ?_, ?_, ?_⟩) <;> try simp only [go_sem, hA, e7, e6, hw, hsn]
            exact hj
          | true =>
            rw [c1, if_pos rfl, mkLine] at hsn
            cases c2 : (kindOf b.instrs b.bals[j].instr == 2) with
            | false =>
              rw [c2, if_neg (by decide)] at hsn
              (try simp only [go_sem, hA, e7, e6, hdl, hg2, hil2, c1, c2]); repeat' (first | (with_reducible refine c_split (fun hb => ?_) (fun hb => ?_) <;> try simp only [go_sem, hb, hA, e7, e6, hdl, hg2, hil2, c1, c2]) | (with_reducible refine w_split (fun hb => ?_) (fun hb => ?_) <;> try simp only [go_sem, hb, hA, e7, e6, hdl, hg2, hil2, c1, c2]) | (refine call_c (c_InstrKind _ _ hs.hi p2 _ ?_) <;> try simp only [go_sem, hA, e7, e6, hdl, hg2, hil2, c1, c2]) | (fail))
              refine ap_end rfl (List.length_map ..).symm (line_room hcap _) ?_
              simp only [go_sem, hA, e7, e6]
              (try simp only [go_sem, hA, e7, e6]); repeat' (first | (with_reducible refine c_split (fun hb => ?_) (fun hb => ?_) <;> try simp only [go_sem, hb, hA, e7, e6]) | (with_reducible refine w_split (fun hb => ?_) (fun hb => ?_) <;> try simp only [go_sem, hb, hA, e7, e6]) | (fail))
              refine gc_trim 2 (by decide) (by simp only [go_sem]) (by simp only [go_sem, hw, hsn]) (hJ (j + 1, g + 1, none) _ _ (by exact hdec) (by simp only [go_sem, hA, e7, e6]) ⟨?_, ?_, ?_, ?_⟩) <;> try simp only [go_sem, hA, e7, e6, hw, hsn]
              exact hj
            | true =>
              rw [c2, if_pos rfl] at hsn
              (try simp only [go_sem, hA, e7, e6, hdl, hg2, hil2, c1, c2]); repeat' (first | (with_reducible refine c_split (fun hb => ?_) (fun hb => ?_) <;> try simp only [go_sem, hb, hA, e7, e6, hdl, hg2, hil2, c1, c2]) | (with_reducible refine w_split (fun hb => ?_) (fun hb => ?_) <;> try simp only [go_sem, hb, hA, e7, e6, hdl, hg2, hil2, c1, c2]) | (refine call_c (c_InstrKind _ _ hs.hi p2 _ ?_) <;> try simp only [go_sem, hA, e7, e6, hdl, hg2, hil2, c1, c2]) | (refine call_c (c_l5Split _ _ _ hs.hl _ ?_) <;> try simp only [go_sem, hA, e7, e6, hdl, hg2, hil2, c1, c2]) | (refine call_c (c_l5Cost _ ((lots_fine p4).own _ _) _ ?_) <;> try simp only [go_sem, hA, e7, e6, hdl, hg2, hil2, c1, c2]) | (refine call_c (c_spec_DivFloor _ _ _ ?_) <;> try simp only [go_sem, hA, e7, e6, hdl, hg2, hil2, c1, c2]) | (fail))
              refine ap_end rfl (List.length_map ..).symm (line_room hcap _) ?_
              simp only [go_sem, hA, e7, e6]
              (try simp only [go_sem, hA, e7, e6]); repeat' (first | (with_reducible refine c_split (fun hb => ?_) (fun hb => ?_) <;> try simp only [go_sem, hb, hA, e7, e6]) | (with_reducible refine w_split (fun hb => ?_) (fun hb => ?_) <;> try simp only [go_sem, hb, hA, e7, e6]) | (fail))
              refine gc_trim 2 (by decide) (by simp only [go_sem]) (by simp only [go_sem, hw, hsn]) (hJ (j + 1, g + 1, none) _ _ (by exact hdec) (by simp only [go_sem, hA, e7, e6]) ⟨?_, ?_, ?_, ?_⟩) <;> try simp only [go_sem, hA, e7, e6, hw, hsn]
              exact hj
        · have hjl : j = b.bals.length := by omega
          have hdl : decide ((j : Int) < (b.bals.length : Int)) = false := decide_eq_false (by omega)
          rw [← hjl] at hk
          (try simp only [go_sem, hA, e7, e6, hdl]); repeat' (first | (with_reducible refine c_split (fun hb => ?_) (fun hb => ?_) <;> try simp only [go_sem, hb, hA, e7, e6, hdl]) | (with_reducible refine w_split (fun hb => ?_) (fun hb => ?_) <;> try simp only [go_sem, hb, hA, e7, e6, hdl]) | (with_reducible refine hQ _ _ ?_ <;> simp only [Try.f20, go_sem, hA, e7, e6, hdl]))
          exact hk
theorem stmtR_len {b : Books} (a : Int) (hs : Small b) : ((stmtR b a).getD []).length ≤ 1000000000 := by
  unfold stmtR
  split
  · exact Nat.le_trans (lines_len b a _) hs.hb
  · simp
theorem c_FnExactStatement (b : Books) (a : Int) (h : Large b) (K : AV → AH → Prop) (hk : K (.one (.c (.bool (true)))) []) : ACalls Try.prog 6 [.agg (booksC b), (.one (.c (.int .i64 (a))))] [] K := by
  refine acall_c Try.f6.results.toList mixed Try.func6 rfl rfl (by kernel_rfl) ?_
  intro Q hQ hQO
  simp only [go_sem]
  (try simp only [go_sem]); repeat' (first | (with_reducible refine c_split (fun hb => ?_) (fun hb => ?_) <;> try simp only [go_sem, hb]) | (with_reducible refine w_split (fun hb => ?_) (fun hb => ?_) <;> try simp only [go_sem, hb]) | (with_reducible refine tw_split (fun hb => ?_) (fun hb => ?_) <;> try simp only [go_sem, hb]) | (with_reducible refine draw_at 0 45 (by with_unfolding_all rfl) [(0, true, true), (1, false, false), (2, false, false), (3, false, true), (4, false, true)] (by kernel_rfl) ?_ <;> try simp only [go_sem]) | (refine call_c (c_szBooks b h _ (fun r hr => ?_)) <;> try simp only [go_sem]) | (fail))
  · (try simp only [go_sem]); repeat' (first | (with_reducible refine c_split (fun hb => ?_) (fun hb => ?_) <;> try simp only [go_sem, hb]) | (with_reducible refine w_split (fun hb => ?_) (fun hb => ?_) <;> try simp only [go_sem, hb]) | (with_reducible refine tw_split (fun hb => ?_) (fun hb => ?_) <;> try simp only [go_sem, hb]) | (with_reducible refine draw_at 0 45 (by with_unfolding_all rfl) [(0, true, true), (1, false, false), (2, false, false), (3, false, true), (4, false, true)] (by kernel_rfl) ?_ <;> try simp only [go_sem]) | (with_reducible refine hQ _ _ ?_ <;> simp only [Try.f6, go_sem]))
    exact hk
  have hs : Small b := hr (by have := of_decide_eq_false hb; omega)
  clear hb
  have hn := stmtR_len a hs
  have c_own := fun K' hk' => c_impl_Statement b a hs K' hk'
  have c_its := fun K' hk' => c_spec_Statement b a hs K' hk'
  generalize (stmtR b a).getD [] = l at hn c_own c_its
  generalize (stmtR b a).isSome = z at c_own c_its
  have e1 : decide (markN b 1 < 0) = false := decide_eq_false (by unfold markN; omega)
  have e2 : decide ((1 : Int) + 5 * l.length < 0) = false := decide_eq_false (by omega)
  have htk : (List.map lineC l).take l.length = List.map lineC l := List.take_of_length_le (by simp)
  (try simp only [go_sem, BEq.rfl, bne_self_eq_false, htk, marksLine_len, marksLine_tk, e1, e2]); repeat' (first | (with_reducible refine c_split (fun hb => ?_) (fun hb => ?_) <;> try simp only [go_sem, hb, BEq.rfl, bne_self_eq_false, htk, marksLine_len, marksLine_tk, e1, e2]) | (with_reducible refine w_split (fun hb => ?_) (fun hb => ?_) <;> try simp only [go_sem, hb, BEq.rfl, bne_self_eq_false, htk, marksLine_len, marksLine_tk, e1, e2]) | (with_reducible refine tw_split (fun hb => ?_) (fun hb => ?_) <;> try simp only [go_sem, hb, BEq.rfl, bne_self_eq_false, htk, marksLine_len, marksLine_tk, e1, e2]) | (with_reducible refine draw_at 0 45 (by with_unfolding_all rfl) [(0, true, true), (1, false, false), (2, false, false), (3, false, true), (4, false, true)] (by kernel_rfl) ?_ <;> try simp only [go_sem, BEq.rfl, bne_self_eq_false, htk, marksLine_len, marksLine_tk, e1, e2]) | (refine call_c (c_toBooks b hs _ ?_) <;> try simp only [go_sem, BEq.rfl, bne_self_eq_false, htk, marksLine_len, marksLine_tk, e1, e2]) | (refine call_c (c_its _ ?_) <;> try simp only [go_sem, BEq.rfl, bne_self_eq_false, htk, marksLine_len, marksLine_tk, e1, e2]) | (refine call_c (c_own _ ?_) <;> try simp only [go_sem, BEq.rfl, bne_self_eq_false, htk, marksLine_len, marksLine_tk, e1, e2]) | (refine call_c (c_eqLineS l hn _ ?_) <;> try simp only [go_sem, BEq.rfl, bne_self_eq_false, htk, marksLine_len, marksLine_tk, e1, e2]) | (refine call_c (c_eqBooks b hs _ ?_) <;> try simp only [go_sem, BEq.rfl, bne_self_eq_false, htk, marksLine_len, marksLine_tk, e1, e2]) | (refine call_h (c_markBooks b hs 1 6 7 8 9 10 0 0 0 0 0 _ _ _ _ _ _ rfl rfl rfl rfl rfl (by decide) (by decide) (by decide) (by decide) (by decide) (by decide) (by decide) (by decide) (by decide) (by decide) (by decide) (by decide) _ ?_) <;> try simp only [go_sem, BEq.rfl, bne_self_eq_false, htk, marksLine_len, marksLine_tk, e1, e2]) | (refine call_h (c_markLineS l 1 12 0 _ _ rfl hn (by decide) (by decide) _ ?_) <;> try simp only [go_sem, BEq.rfl, bne_self_eq_false, htk, marksLine_len, marksLine_tk, e1, e2]) | (refine call_c (c_heldLineS l.length 1 hn (by decide) (by decide) _ ?_) <;> try simp only [go_sem, BEq.rfl, bne_self_eq_false, htk, marksLine_len, marksLine_tk, e1, e2]) | (with_reducible refine hQ _ _ ?_ <;> simp only [Try.f6, go_sem, BEq.rfl, bne_self_eq_false, htk, marksLine_len, marksLine_tk, e1, e2]))
  exact hk
end Go.Proofs.Ytedkpjaojdkpcaa
