/- Totals: what holders have and others lack of an instrument. Conditions: none. -/
import Derived.Test.YtedkpjaojdkpcaaLG
import Derived.Test.YtedkpjaojdkpcaaLT
import Derived.Test.YtedkpjaojdkpcaaLBooksLaw
namespace Go.Proofs.Ytedkpjaojdkpcaa
open Go.BL Go.RowKit
set_option linter.unusedVariables false
set_option linter.unusedSimpArgs false
set_option maxRecDepth 100000
attribute [local go_sem] accountC balC lotC tradeC booksC booksA
def totS (b : Books) (n : Int) (s : Int × Int) (x : Bal) : Int × Int := if (x.instr == n) = true then (if (kindOf b.accounts x.account == 1) = true then (s.1 + x.amount, s.2) else (s.1, s.2 - x.amount)) else s
def tot (b : Books) (n : Int) (i : Nat) : Int × Int := (b.bals.take i).foldl (totS b n) (0, 0)
theorem tot_s (b : Books) (n : Int) (i : Nat) (hi : i < b.bals.length) : tot b n (i + 1) = totS b n (tot b n i) b.bals[i] := by
  rw [tot, List.take_succ_eq_append_getElem hi, List.foldl_append]; rfl
theorem tot_le {b : Books} (h : balsOk b.bals = true) (n : Int) : ∀ i, i ≤ b.bals.length → (-(1000000000000000 * (i : Int)) ≤ (tot b n i).1 ∧ (tot b n i).1 ≤ 1000000000000000 * (i : Int)) ∧ -(1000000000000000 * (i : Int)) ≤ (tot b n i).2 ∧ (tot b n i).2 ≤ 1000000000000000 * (i : Int)
  | 0, _ => by simp [tot]
  | i + 1, hi => by
    have ih := tot_le h n i (by omega)
    have hx : -1000000000000000 ≤ b.bals[i].amount ∧ b.bals[i].amount ≤ 1000000000000000 := of_decide_eq_true ((balsOk_amt h).1 _ (List.getElem_mem (by omega)))
    rw [tot_s b n i (by omega), totS]
    split
    · split
      · simp only; omega
      · simp only; omega
    · omega
theorem tot_w {b : Books} (h : balsOk b.bals = true) (n : Int) {i : Nat} (hi : i < b.bals.length) : wrap64 ((tot b n i).1 + b.bals[i].amount) = (tot b n i).1 + b.bals[i].amount ∧ wrap64 ((tot b n i).2 - b.bals[i].amount) = (tot b n i).2 - b.bals[i].amount := by
  have h1 := tot_le h n i (by omega)
  have h2 := (balsOk_amt h).2
  have hx : -1000000000000000 ≤ b.bals[i].amount ∧ b.bals[i].amount ≤ 1000000000000000 := of_decide_eq_true ((balsOk_amt h).1 _ (List.getElem_mem hi))
  exact ⟨wrap_id _ (by omega) (by omega), wrap_id _ (by omega) (by omega)⟩
theorem booksOk_parts {b : Books} (h : booksOk b = true) : accountsOk b.accounts = true ∧ instrsOk b.instrs = true ∧ balsOk b.bals = true ∧ lotsOk b.lots = true ∧ tradesOk b.trades = true := by
  simp only [booksOk, listsOk, Bool.and_eq_true] at h
  obtain ⟨⟨⟨⟨⟨⟨⟨⟨h1, h2⟩, h3⟩, h4⟩, h5⟩, _⟩, _⟩, _⟩, _⟩ := h
  exact ⟨h1, h2, h3, h4, h5⟩
theorem not_tf {b : Bool} (h : (!b) = false) : b = true := by simpa using h
def totR (b : Books) (n : Int) : AV := if (booksOk b && !(kindOf b.instrs n == 0)) = true then (if (amtOk (tot b n b.bals.length).1 && amtOk (tot b n b.bals.length).2) = true then .tup [(.one (.c (.int .i64 ((tot b n b.bals.length).1)))), (.one (.c (.int .i64 ((tot b n b.bals.length).2)))), (.one (.c (.bool (true))))] else .tup [(.one (.c (.int .i64 (0)))), (.one (.c (.int .i64 (0)))), (.one (.c (.bool (false))))]) else .tup [(.one (.c (.int .i64 (0)))), (.one (.c (.int .i64 (0)))), (.one (.c (.bool (false))))]
theorem c_impl_Totals (b : Books) (n : Int) (hs : Small b) (K : AV → AH → Prop) (hk : K (totR b n) []) : ACalls Try.prog 10 [.agg (booksC b), (.one (.c (.int .i64 (n))))] [] K := by
  have hsb := hs.hb
  refine acall_c Try.f10.results.toList mixed Try.func10 rfl rfl (by kernel_rfl) ?_
  intro Q hQ hQO
  simp only [go_sem]
  cases hok : booksOk b with
  | false =>
    rw [totR, hok, Bool.false_and, if_neg (by decide)] at hk
    (try simp only [go_sem, hok]); repeat' (first | (with_reducible refine c_split (fun hb => ?_) (fun hb => ?_) <;> try simp only [go_sem, hb, hok]) | (with_reducible refine w_split (fun hb => ?_) (fun hb => ?_) <;> try simp only [go_sem, hb, hok]) | (refine call_c (c_impl_BooksOk b hs _ ?_) <;> try simp only [go_sem, hok]) | (with_reducible refine hQ _ _ ?_ <;> simp only [Try.f10, go_sem, hok]))
    exact hk
  | true =>
    obtain ⟨p1, p2, p3, p4, p5⟩ := booksOk_parts hok
    cases hz : (kindOf b.instrs n == 0) with
    | true =>
      rw [totR, hok, hz, if_neg (by decide)] at hk
      (try simp only [go_sem, hok, hz]); repeat' (first | (with_reducible refine c_split (fun hb => ?_) (fun hb => ?_) <;> try simp only [go_sem, hb, hok, hz]) | (with_reducible refine w_split (fun hb => ?_) (fun hb => ?_) <;> try simp only [go_sem, hb, hok, hz]) | (refine call_c (c_impl_BooksOk b hs _ ?_) <;> try simp only [go_sem, hok, hz]) | (refine call_c (c_instrKind _ _ hs.hi _ ?_) <;> try simp only [go_sem, hok, hz]) | (with_reducible refine hQ _ _ ?_ <;> simp only [Try.f10, go_sem, hok, hz]))
      exact hk
    | false =>
      rw [totR, hok, hz, if_pos (by decide)] at hk
      (try simp only [go_sem, hok, hz]); repeat' (first | (with_reducible refine c_split (fun hb => ?_) (fun hb => ?_) <;> try simp only [go_sem, hb, hok, hz]) | (with_reducible refine w_split (fun hb => ?_) (fun hb => ?_) <;> try simp only [go_sem, hb, hok, hz]) | (refine call_c (c_impl_BooksOk b hs _ ?_) <;> try simp only [go_sem, hok, hz]) | (refine call_c (c_instrKind _ _ hs.hi _ ?_) <;> try simp only [go_sem, hok, hz]) | (fail))
      refine for_at (b.bals.length) [1, 2, 22, 23] (fun i f h => f 7 = (.one (.c (.int .i64 ((tot b n i).1)))) ∧ f 8 = (.one (.c (.int .i64 ((tot b n i).2)))) ∧ f 24 = (.one (.c (.int .i64 (i)))) ∧ h = [.own 0 38 6 (some 1) [booksC b]]) (GC.now ?_) ?_
      · simp only [go_sem, nc_0, true_and]
        exact ⟨rfl, rfl⟩
      · rintro i f h J hi hA ⟨e7, e8, e24, rfl⟩ hJ
        simp only [go_sem] at hA
        simp only [go_sem, hA, e7, e8, e24]
        refine c_split (fun hb => ?_) (fun hb => ?_)
        rotate_left
        · simp only [go_sem, hb, hA, e7, e8, e24]
          obtain rfl := ge_len hb hi
          (try simp only [go_sem, hA, e7, e8, e24]); repeat' (first | (with_reducible refine c_split (fun hb => ?_) (fun hb => ?_) <;> try simp only [go_sem, hb, hA, e7, e8, e24]) | (with_reducible refine w_split (fun hb => ?_) (fun hb => ?_) <;> try simp only [go_sem, hb, hA, e7, e8, e24]) | (refine call_c (c_impl_AmountOk _ _ ?_) <;> try simp only [go_sem, hA, e7, e8, e24]) | (with_reducible refine hQ _ _ ?_ <;> simp only [Try.f10, go_sem, hA, e7, e8, e24]))
          · rw [not_tt hb, Bool.false_and, if_neg (by decide)] at hk
            exact hk
          · rename_i hb1
            rw [not_tt hb, Bool.and_false, if_neg (by decide)] at hk
            exact hk
          · rename_i hb1
            rw [not_tf hb1, not_tf hb, if_pos (by decide)] at hk
            exact hk
        have hi := lt_len hb
        have hw := wrap_nat i (by omega)
        have hil : (i : Int) < ((b.bals.length : Nat) : Int) := Int.ofNat_lt.2 hi
        have hg0 : (b.bals)[i]? = some ((b.bals)[i]) := List.getElem?_eq_getElem (by omega)
        simp only [go_sem, hb, hA, e7, e8, e24, hg0]
        try simp only [go_sem, hA, e7, e8, e24, hil, hg0]
        have hts := tot_s b n i hi
        rw [totS] at hts
        obtain ⟨w1, w2⟩ := tot_w p3 n hi
        cases k1 : (b.bals[i].instr == n) with
        | false =>
          rw [k1, if_neg (by decide)] at hts
          (try simp only [go_sem, hA, e7, e8, e24, hil, hg0, k1]); repeat' (first | (with_reducible refine c_split (fun hb => ?_) (fun hb => ?_) <;> try simp only [go_sem, hb, hA, e7, e8, e24, hil, hg0, k1]) | (with_reducible refine w_split (fun hb => ?_) (fun hb => ?_) <;> try simp only [go_sem, hb, hA, e7, e8, e24, hil, hg0, k1]) | (fail))
          refine gc_trim 1 (by decide) (by simp only [go_sem]) (by simp only [go_sem]) (hJ _ _ hi (by simp only [go_sem, hA, e7, e8, e24]) ⟨?_, ?_, ?_, ?_⟩) <;> try simp only [go_sem, hA, e7, e8, e24, hw, hts]
        | true =>
          rw [k1, if_pos rfl] at hts
          cases k2 : (kindOf b.accounts b.bals[i].account == 1) with
          | true =>
            rw [k2, if_pos rfl] at hts
            (try simp only [go_sem, hA, e7, e8, e24, hil, hg0, k1, k2, w1]); repeat' (first | (with_reducible refine c_split (fun hb => ?_) (fun hb => ?_) <;> try simp only [go_sem, hb, hA, e7, e8, e24, hil, hg0, k1, k2, w1]) | (with_reducible refine w_split (fun hb => ?_) (fun hb => ?_) <;> try simp only [go_sem, hb, hA, e7, e8, e24, hil, hg0, k1, k2, w1]) | (refine call_c (c_accountKind _ _ hs.ha _ ?_) <;> try simp only [go_sem, hA, e7, e8, e24, hil, hg0, k1, k2, w1]) | (fail))
            refine gc_trim 1 (by decide) (by simp only [go_sem]) (by simp only [go_sem]) (hJ _ _ hi (by simp only [go_sem, hA, e7, e8, e24]) ⟨?_, ?_, ?_, ?_⟩) <;> try simp only [go_sem, hA, e7, e8, e24, hw, hts]
          | false =>
            rw [k2, if_neg (by decide)] at hts
            (try simp only [go_sem, hA, e7, e8, e24, hil, hg0, k1, k2, w2]); repeat' (first | (with_reducible refine c_split (fun hb => ?_) (fun hb => ?_) <;> try simp only [go_sem, hb, hA, e7, e8, e24, hil, hg0, k1, k2, w2]) | (with_reducible refine w_split (fun hb => ?_) (fun hb => ?_) <;> try simp only [go_sem, hb, hA, e7, e8, e24, hil, hg0, k1, k2, w2]) | (refine call_c (c_accountKind _ _ hs.ha _ ?_) <;> try simp only [go_sem, hA, e7, e8, e24, hil, hg0, k1, k2, w2]) | (fail))
            refine gc_trim 1 (by decide) (by simp only [go_sem]) (by simp only [go_sem]) (hJ _ _ hi (by simp only [go_sem, hA, e7, e8, e24]) ⟨?_, ?_, ?_, ?_⟩) <;> try simp only [go_sem, hA, e7, e8, e24, hw, hts]
theorem c_spec_Totals (b : Books) (n : Int) (hs : Small b) (K : AV → AH → Prop) (hk : K (totR b n) []) : ACalls Try.prog 8 [.agg (booksC b), (.one (.c (.int .i64 (n))))] [] K := by
  have hsb := hs.hb
  refine acall_c Try.f8.results.toList mixed Try.func8 rfl rfl (by kernel_rfl) ?_
  intro Q hQ hQO
  simp only [go_sem]
  cases hok : booksOk b with
  | false =>
    rw [totR, hok, Bool.false_and, if_neg (by decide)] at hk
    (try simp only [go_sem, hok]); repeat' (first | (with_reducible refine c_split (fun hb => ?_) (fun hb => ?_) <;> try simp only [go_sem, hb, hok]) | (with_reducible refine w_split (fun hb => ?_) (fun hb => ?_) <;> try simp only [go_sem, hb, hok]) | (refine call_c (c_BooksOk b hs _ ?_) <;> try simp only [go_sem, hok]) | (with_reducible refine hQ _ _ ?_ <;> simp only [Try.f8, go_sem, hok]))
    exact hk
  | true =>
    obtain ⟨p1, p2, p3, p4, p5⟩ := booksOk_parts hok
    cases hz : (kindOf b.instrs n == 0) with
    | true =>
      rw [totR, hok, hz, if_neg (by decide)] at hk
      (try simp only [go_sem, hok, hz]); repeat' (first | (with_reducible refine c_split (fun hb => ?_) (fun hb => ?_) <;> try simp only [go_sem, hb, hok, hz]) | (with_reducible refine w_split (fun hb => ?_) (fun hb => ?_) <;> try simp only [go_sem, hb, hok, hz]) | (refine call_c (c_BooksOk b hs _ ?_) <;> try simp only [go_sem, hok, hz]) | (refine call_c (c_InstrKind _ _ hs.hi p2 _ ?_) <;> try simp only [go_sem, hok, hz]) | (with_reducible refine hQ _ _ ?_ <;> simp only [Try.f8, go_sem, hok, hz]))
      exact hk
    | false =>
      rw [totR, hok, hz, if_pos (by decide)] at hk
      (try simp only [go_sem, hok, hz]); repeat' (first | (with_reducible refine c_split (fun hb => ?_) (fun hb => ?_) <;> try simp only [go_sem, hb, hok, hz]) | (with_reducible refine w_split (fun hb => ?_) (fun hb => ?_) <;> try simp only [go_sem, hb, hok, hz]) | (refine call_c (c_BooksOk b hs _ ?_) <;> try simp only [go_sem, hok, hz]) | (refine call_c (c_InstrKind _ _ hs.hi p2 _ ?_) <;> try simp only [go_sem, hok, hz]) | (fail))
      refine for_at (b.bals.length) [1, 2] (fun i f h => f 7 = (.one (.c (.int .i64 ((tot b n i).1)))) ∧ f 8 = (.one (.c (.int .i64 ((tot b n i).2)))) ∧ f 9 = (.one (.c (.int .i64 (i)))) ∧ h = [.own 0 38 6 (some 1) [booksC b]]) (GC.now ?_) ?_
      · simp only [go_sem, nc_0, true_and]
        exact ⟨rfl, rfl⟩
      · rintro i f h J hi hA ⟨e7, e8, e9, rfl⟩ hJ
        simp only [go_sem] at hA
        simp only [go_sem, hA, e7, e8, e9]
        refine c_split (fun hb => ?_) (fun hb => ?_)
        rotate_left
        · simp only [go_sem, hb, hA, e7, e8, e9]
          obtain rfl := ge_len hb hi
          (try simp only [go_sem, hA, e7, e8, e9]); repeat' (first | (with_reducible refine c_split (fun hb => ?_) (fun hb => ?_) <;> try simp only [go_sem, hb, hA, e7, e8, e9]) | (with_reducible refine w_split (fun hb => ?_) (fun hb => ?_) <;> try simp only [go_sem, hb, hA, e7, e8, e9]) | (refine call_c (c_spec_AmountOk _ _ ?_) <;> try simp only [go_sem, hA, e7, e8, e9]) | (with_reducible refine hQ _ _ ?_ <;> simp only [Try.f8, go_sem, hA, e7, e8, e9]))
          · rw [not_tt hb, Bool.false_and, if_neg (by decide)] at hk
            exact hk
          · rename_i hb1
            rw [not_tt hb, Bool.and_false, if_neg (by decide)] at hk
            exact hk
          · rename_i hb1
            rw [not_tf hb1, not_tf hb, if_pos (by decide)] at hk
            exact hk
        have hi := lt_len hb
        have hw := wrap_nat i (by omega)
        have hil : (i : Int) < ((b.bals.length : Nat) : Int) := Int.ofNat_lt.2 hi
        have hg0 : (b.bals)[i]? = some ((b.bals)[i]) := List.getElem?_eq_getElem (by omega)
        simp only [go_sem, hb, hA, e7, e8, e9, hg0]
        try simp only [go_sem, hA, e7, e8, e9, hil, hg0]
        have hts := tot_s b n i hi
        rw [totS] at hts
        obtain ⟨w1, w2⟩ := tot_w p3 n hi
        cases k1 : (b.bals[i].instr == n) with
        | false =>
          rw [k1, if_neg (by decide)] at hts
          (try simp only [go_sem, hA, e7, e8, e9, hil, hg0, k1]); repeat' (first | (with_reducible refine c_split (fun hb => ?_) (fun hb => ?_) <;> try simp only [go_sem, hb, hA, e7, e8, e9, hil, hg0, k1]) | (with_reducible refine w_split (fun hb => ?_) (fun hb => ?_) <;> try simp only [go_sem, hb, hA, e7, e8, e9, hil, hg0, k1]) | (fail))
          refine gc_trim 1 (by decide) (by simp only [go_sem]) (by simp only [go_sem]) (hJ _ _ hi (by simp only [go_sem, hA, e7, e8, e9]) ⟨?_, ?_, ?_, ?_⟩) <;> try simp only [go_sem, hA, e7, e8, e9, hw, hts]
        | true =>
          rw [k1, if_pos rfl] at hts
          cases k2 : (kindOf b.accounts b.bals[i].account == 1) with
          | true =>
            rw [k2, if_pos rfl] at hts
            (try simp only [go_sem, hA, e7, e8, e9, hil, hg0, k1, k2, w1]); repeat' (first | (with_reducible refine c_split (fun hb => ?_) (fun hb => ?_) <;> try simp only [go_sem, hb, hA, e7, e8, e9, hil, hg0, k1, k2, w1]) | (with_reducible refine w_split (fun hb => ?_) (fun hb => ?_) <;> try simp only [go_sem, hb, hA, e7, e8, e9, hil, hg0, k1, k2, w1]) | (refine call_c (c_AccountKind _ _ hs.ha p1 _ ?_) <;> try simp only [go_sem, hA, e7, e8, e9, hil, hg0, k1, k2, w1]) | (fail))
            refine gc_trim 1 (by decide) (by simp only [go_sem]) (by simp only [go_sem]) (hJ _ _ hi (by simp only [go_sem, hA, e7, e8, e9]) ⟨?_, ?_, ?_, ?_⟩) <;> try simp only [go_sem, hA, e7, e8, e9, hw, hts]
          | false =>
            rw [k2, if_neg (by decide)] at hts
            (try simp only [go_sem, hA, e7, e8, e9, hil, hg0, k1, k2, w2]); repeat' (first | (with_reducible refine c_split (fun hb => ?_) (fun hb => ?_) <;> try simp only [go_sem, hb, hA, e7, e8, e9, hil, hg0, k1, k2, w2]) | (with_reducible refine w_split (fun hb => ?_) (fun hb => ?_) <;> try simp only [go_sem, hb, hA, e7, e8, e9, hil, hg0, k1, k2, w2]) | (refine call_c (c_AccountKind _ _ hs.ha p1 _ ?_) <;> try simp only [go_sem, hA, e7, e8, e9, hil, hg0, k1, k2, w2]) | (fail))
            refine gc_trim 1 (by decide) (by simp only [go_sem]) (by simp only [go_sem]) (hJ _ _ hi (by simp only [go_sem, hA, e7, e8, e9]) ⟨?_, ?_, ?_, ?_⟩) <;> try simp only [go_sem, hA, e7, e8, e9, hw, hts]
theorem c_FnExactTotals (b : Books) (n : Int) (h : Large b) (K : AV → AH → Prop) (hk : K (.one (.c (.bool (true)))) []) : ACalls Try.prog 3 [.agg (booksC b), (.one (.c (.int .i64 (n))))] [] K := by
  refine acall_c Try.f3.results.toList mixed Try.func3 rfl rfl (by kernel_rfl) ?_
  intro Q hQ hQO
  simp only [go_sem]
  (try simp only [go_sem]); repeat' (first | (with_reducible refine c_split (fun hb => ?_) (fun hb => ?_) <;> try simp only [go_sem, hb]) | (with_reducible refine w_split (fun hb => ?_) (fun hb => ?_) <;> try simp only [go_sem, hb]) | (with_reducible refine tw_split (fun hb => ?_) (fun hb => ?_) <;> try simp only [go_sem, hb]) | (with_reducible refine draw_at 0 48 (by with_unfolding_all rfl) [(0, true, true), (1, false, false), (2, false, false), (3, false, true), (4, false, true)] (by kernel_rfl) ?_ <;> try simp only [go_sem]) | (refine call_c (c_szBooks b h _ (fun r hr => ?_)) <;> try simp only [go_sem]) | (fail))
  · (try simp only [go_sem]); repeat' (first | (with_reducible refine c_split (fun hb => ?_) (fun hb => ?_) <;> try simp only [go_sem, hb]) | (with_reducible refine w_split (fun hb => ?_) (fun hb => ?_) <;> try simp only [go_sem, hb]) | (with_reducible refine tw_split (fun hb => ?_) (fun hb => ?_) <;> try simp only [go_sem, hb]) | (with_reducible refine draw_at 0 48 (by with_unfolding_all rfl) [(0, true, true), (1, false, false), (2, false, false), (3, false, true), (4, false, true)] (by kernel_rfl) ?_ <;> try simp only [go_sem]) | (with_reducible refine hQ _ _ ?_ <;> simp only [Try.f3, go_sem]))
    exact hk
  have hs : Small b := hr (by have := of_decide_eq_false hb; omega)
  clear hb
  obtain ⟨x, y, z, e⟩ : ∃ x y z, totR b n = .tup [(.one (.c (.int .i64 (x)))), (.one (.c (.int .i64 (y)))), (.one (.c (.bool (z))))] := by
    unfold totR
    split
    · split
      · exact ⟨_, _, _, rfl⟩
      · exact ⟨_, _, _, rfl⟩
    · exact ⟨_, _, _, rfl⟩
  (try simp only [go_sem, e, BEq.rfl]); repeat' (first | (with_reducible refine c_split (fun hb => ?_) (fun hb => ?_) <;> try simp only [go_sem, hb, e, BEq.rfl]) | (with_reducible refine w_split (fun hb => ?_) (fun hb => ?_) <;> try simp only [go_sem, hb, e, BEq.rfl]) | (with_reducible refine tw_split (fun hb => ?_) (fun hb => ?_) <;> try simp only [go_sem, hb, e, BEq.rfl]) | (with_reducible refine draw_at 0 48 (by with_unfolding_all rfl) [(0, true, true), (1, false, false), (2, false, false), (3, false, true), (4, false, true)] (by kernel_rfl) ?_ <;> try simp only [go_sem, e, BEq.rfl]) | (refine call_c (c_toBooks b hs _ ?_) <;> try simp only [go_sem, e, BEq.rfl]) | (refine call_c (c_spec_Totals b n hs _ ?_) <;> try simp only [go_sem, e, BEq.rfl]) | (refine call_c (c_impl_Totals b n hs _ ?_) <;> try simp only [go_sem, e, BEq.rfl]) | (refine call_c (c_eqBooks b hs _ ?_) <;> try simp only [go_sem, e, BEq.rfl]) | (with_reducible refine hQ _ _ ?_ <;> simp only [Try.f3, go_sem, e, BEq.rfl]))
  exact hk
end Go.Proofs.Ytedkpjaojdkpcaa
