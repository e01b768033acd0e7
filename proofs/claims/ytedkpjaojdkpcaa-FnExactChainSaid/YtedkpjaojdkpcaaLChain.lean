/- Chain: who bought on what a trade gave, as the program and as the specification tells it. Conditions: none. -/
import Derived.Test.YtedkpjaojdkpcaaLG
import Derived.Test.YtedkpjaojdkpcaaLT
import Derived.Test.YtedkpjaojdkpcaaLTrade
import Derived.Test.YtedkpjaojdkpcaaLRecM
namespace Go.Proofs.Ytedkpjaojdkpcaa
open Go.BL Go.RowKit
set_option linter.unusedVariables false
set_option linter.unusedSimpArgs false
set_option maxRecDepth 100000
attribute [local go_sem] accountC balC lotC tradeC booksC booksA
def lastI (s : List Int) : Int := s[s.length - 1]?.getD 0
def chainS (f : Trade) (s : List Int) (t : Trade) : List Int := if (t.state == 2 && t.paper == f.paper && t.seller == lastI s) = true then s ++ [t.buyer] else s
def chainTo (ts : List Trade) (f : Trade) (k i : Nat) : List Int := ((ts.drop (k + 1)).take i).foldl (chainS f) [f.seller, f.buyer]
theorem chain_s {ts : List Trade} (f : Trade) (k i : Nat) (hi : k + 1 + i < ts.length) : chainTo ts f k (i + 1) = chainS f (chainTo ts f k i) ts[k + 1 + i] := by
  have h : i < (ts.drop (k + 1)).length := by rw [List.length_drop]; omega
  rw [chainTo, List.take_succ_eq_append_getElem h, List.foldl_append, List.foldl_cons, List.foldl_nil, List.getElem_drop]; rfl
theorem chainS_len (f : Trade) (s : List Int) (t : Trade) : s.length ≤ (chainS f s t).length ∧ (chainS f s t).length ≤ s.length + 1 := by
  unfold chainS; split
  · simp
  · omega
theorem chain_len {ts : List Trade} (f : Trade) (k : Nat) : ∀ i, k + 1 + i ≤ ts.length → 2 ≤ (chainTo ts f k i).length ∧ (chainTo ts f k i).length ≤ i + 2
  | 0, _ => by simp [chainTo]
  | i + 1, hi => by
    have ih := chain_len (ts := ts) f k i (by omega)
    rw [chain_s (ts := ts) f k i (by omega)]
    have := chainS_len f (chainTo ts f k i) (ts[k + 1 + i]'(by omega))
    omega
def chainR (b : Books) (no : Int) : Option (List Int) := if booksOk b = true ∧ 0 ≤ findG (trIs no) b.trades then (match b.trades[(findG (trIs no) b.trades).toNat]? with
  | some f => if f.state = 2 then some (chainTo b.trades f (findG (trIs no) b.trades).toNat (b.trades.length - ((findG (trIs no) b.trades).toNat + 1))) else none
  | none => none) else none
def chainV : Option (List Int) → AV
  | some l => .tup [(.one (.im (l.map intC))), (.one (.c (.bool (true))))]
  | none => .tup [(.one (.im ([]))), (.one (.c (.bool (false))))]
theorem chainR_at {b : Books} {no : Int} {k : Nat} (hok : booksOk b = true) (e1 : findG (trIs no) b.trades = k) (hi : k < b.trades.length) : chainR b no = if b.trades[k].state = 2 then some (chainTo b.trades b.trades[k] k (b.trades.length - (k + 1))) else none := by
  rw [chainR, if_pos ⟨hok, by rw [e1]; omega⟩, e1, Int.toNat_natCast, List.getElem?_eq_getElem hi]
theorem last_at {s : List Int} (h : 0 < s.length) : (s.map intC)[s.length - 1]? = some [.c (.int .i64 (lastI s))] := by
  have h1 : s[s.length - 1]? = some s[s.length - 1] := List.getElem?_eq_getElem (by omega)
  rw [List.getElem?_map, lastI, h1]; rfl
theorem last_ix {n : Nat} (h : 0 < n) (h2 : n ≤ 1000000000) : wrap64 ((n : Int) - 1) = ((n - 1 : Nat) : Int) := by rw [wrap_id _ (by omega) (by omega)]; omega
theorem last_lt {n : Nat} (h : 0 < n) : (((n - 1 : Nat) : Int) < (n : Int)) = True := eq_true (by omega)
theorem c_spec_Chain (b : Books) (no : Int) (hs : Small b) (K : AV → AH → Prop) (hk : K (chainV (chainR b no)) []) : ACalls Try.prog 14 [.agg (booksC b), (.one (.c (.int .i64 (no))))] [] K := by
  have hst := hs.ht
  refine acall_c Try.f14.results.toList mixed Try.func14 rfl rfl (by kernel_rfl) ?_
  intro Q hQ hQO
  simp only [go_sem]
  rcases findO_cases (trIs no) b.trades with ⟨k, hi, e1, e2⟩ | ⟨e1, e2⟩
  · have hg : b.trades[k]? = some b.trades[k] := List.getElem?_eq_getElem hi
    have hil : (k : Int) < (b.trades.length : Int) := Int.ofNat_lt.2 hi
    have hneg : decide ((k : Int) < 0) = false := decide_eq_false (by omega)
    have hw0 : wrap64 ((k : Int) + 1) = ((k + 1 + 0 : Nat) : Int) := by rw [wrap_id _ (by omega) (by omega)]; omega
    cases hok : booksOk b with
    | true =>
      rw [chainR_at hok e1 hi] at hk
      (try simp only [go_sem, e1, hok, hneg, hg, hil, hw0]); repeat' (first | (with_reducible refine c_split (fun hb => ?_) (fun hb => ?_) <;> try simp only [go_sem, hb, e1, hok, hneg, hg, hil, hw0]) | (with_reducible refine w_split (fun hb => ?_) (fun hb => ?_) <;> try simp only [go_sem, hb, e1, hok, hneg, hg, hil, hw0]) | (with_reducible refine tw_split (fun hb => ?_) (fun hb => ?_) <;> try simp only [go_sem, hb, e1, hok, hneg, hg, hil, hw0]) | (with_reducible refine draw_at 0 55 (by with_unfolding_all rfl) [(0, false, true), (1, false, true), (2, false, true), (3, false, true), (4, true, true), (5, true, true), (6, false, false), (7, false, false), (8, false, true), (9, false, true), (10, false, true), (11, true, true), (12, true, true), (13, true, false), (14, false, false), (15, false, false), (16, false, false), (17, false, false), (18, false, false), (19, false, false), (20, false, false)] (by kernel_rfl) ?_ <;> try simp only [go_sem, e1, hok, hneg, hg, hil, hw0]) | (refine call_c (c_l7Find b no hs _ ?_) <;> try simp only [go_sem, e1, hok, hneg, hg, hil, hw0]) | (refine call_c (c_BooksOk b hs _ ?_) <;> try simp only [go_sem, e1, hok, hneg, hg, hil, hw0]) | (fail))
      · rw [if_neg (by simpa using hb)] at hk
        (try simp only [go_sem]); repeat' (first | (with_reducible refine c_split (fun hb => ?_) (fun hb => ?_) <;> try simp only [go_sem, hb]) | (with_reducible refine w_split (fun hb => ?_) (fun hb => ?_) <;> try simp only [go_sem, hb]) | (with_reducible refine tw_split (fun hb => ?_) (fun hb => ?_) <;> try simp only [go_sem, hb]) | (with_reducible refine draw_at 0 55 (by with_unfolding_all rfl) [(0, false, true), (1, false, true), (2, false, true), (3, false, true), (4, true, true), (5, true, true), (6, false, false), (7, false, false), (8, false, true), (9, false, true), (10, false, true), (11, true, true), (12, true, true), (13, true, false), (14, false, false), (15, false, false), (16, false, false), (17, false, false), (18, false, false), (19, false, false), (20, false, false)] (by kernel_rfl) ?_ <;> try simp only [go_sem]) | (with_reducible refine hQ _ _ ?_ <;> simp only [Try.f14, go_sem]))
        exact hk
      · rw [if_pos (by simpa using hb)] at hk
        clear hb
        refine while_at (α := Nat × Nat × Option Nat) (fun ⟨j, g, cap⟩ => b.trades.length - j) [2, 7] (fun ⟨j, g, cap⟩ f h => f 9 = (.one (.c (.int .i64 (((k + 1 + j : Nat) : Int))))) ∧ f 8 = .one (.sl 2 g 0 (chainTo b.trades b.trades[k] k j).length) ∧ h = [.own 0 38 6 (some 1) [booksC b], .own 0 76 8 (some 1) [tradeC b.trades[k]], .own g 3 1 cap ((chainTo b.trades b.trades[k] k j).map intC)] ∧ k + 1 + j ≤ b.trades.length) (0, 0, some 2) (GC.now ?_) ?_
        · simp only [go_sem, nc_0, true_and]
          exact ⟨rfl, rfl, by omega⟩
        · rintro ⟨j, g, cap⟩ f h J hA ⟨e9, e8, rfl, hP⟩ hJ
          simp only [go_sem] at hA
          try dsimp only at hJ
          simp only [go_sem, hA, e9, e8]
          have hlen := chain_len b.trades[k] k j hP
          by_cases hj : k + 1 + j < b.trades.length
          · have hdl : decide (((k + 1 + j : Nat) : Int) < (b.trades.length : Int)) = true := decide_eq_true (by omega)
            have hg2 : b.trades[k + 1 + j]? = some b.trades[k + 1 + j] := List.getElem?_eq_getElem hj
            have hil2 : ((k + 1 + j : Nat) : Int) < (b.trades.length : Int) := Int.ofNat_lt.2 hj
            have hsn := chain_s b.trades[k] k j hj
            have hla := last_at (s := chainTo b.trades b.trades[k] k j) (by omega)
            have hlx := last_ix (n := (chainTo b.trades b.trades[k] k j).length) (by omega) (by omega)
            have hll := last_lt (n := (chainTo b.trades b.trades[k] k j).length) (by omega)
            have hw : wrap64 (((k + 1 + j : Nat) : Int) + 1) = ((k + 1 + (j + 1) : Nat) : Int) := wrap_nat (k + 1 + j) (by omega)
            have hdec : b.trades.length - (j + 1) < b.trades.length - j := by omega
            rw [chainS] at hsn
            cases c1 : (b.trades[k + 1 + j].state == 2) with
            | false =>
              rw [c1, Bool.false_and, Bool.false_and, if_neg (by decide)] at hsn
              (try simp only [go_sem, hA, e9, e8, hdl, hg2, hil2, c1]); repeat' (first | (with_reducible refine c_split (fun hb => ?_) (fun hb => ?_) <;> try simp only [go_sem, hb, hA, e9, e8, hdl, hg2, hil2, c1]) | (with_reducible refine w_split (fun hb => ?_) (fun hb => ?_) <;> try simp only [go_sem, hb, hA, e9, e8, hdl, hg2, hil2, c1]) | (with_reducible refine tw_split (fun hb => ?_) (fun hb => ?_) <;> try simp only [go_sem, hb, hA, e9, e8, hdl, hg2, hil2, c1]) | (with_reducible refine draw_at 0 55 (by with_unfolding_all rfl) [(0, false, true), (1, false, true), (2, false, true), (3, false, true), (4, true, true), (5, true, true), (6, false, false), (7, false, false), (8, false, true), (9, false, true), (10, false, true), (11, true, true), (12, true, true), (13, true, false), (14, false, false), (15, false, false), (16, false, false), (17, false, false), (18, false, false), (19, false, false), (20, false, false)] (by kernel_rfl) ?_ <;> try simp only [go_sem, hA, e9, e8, hdl, hg2, hil2, c1]) | (fail))
              refine gc_trim 3 (by decide) (by simp only [go_sem]) (by simp only [go_sem, hw, hsn]) (hJ (j + 1, g, cap) _ _ (by exact hdec) (by simp only [go_sem, hA, e9, e8]) ⟨?_, ?_, ?_, ?_⟩) <;> try simp only [go_sem, hA, e9, e8, hw, hsn]
              exact hj
            | true =>
              cases c2 : (b.trades[k + 1 + j].paper == b.trades[k].paper) with
              | false =>
                rw [c1, c2, Bool.and_false, Bool.false_and, if_neg (by decide)] at hsn
                (try simp only [go_sem, hA, e9, e8, hdl, hg2, hil2, c1, c2]); repeat' (first | (with_reducible refine c_split (fun hb => ?_) (fun hb => ?_) <;> try simp only [go_sem, hb, hA, e9, e8, hdl, hg2, hil2, c1, c2]) | (with_reducible refine w_split (fun hb => ?_) (fun hb => ?_) <;> try simp only [go_sem, hb, hA, e9, e8, hdl, hg2, hil2, c1, c2]) | (with_reducible refine tw_split (fun hb => ?_) (fun hb => ?_) <;> try simp only [go_sem, hb, hA, e9, e8, hdl, hg2, hil2, c1, c2]) | (with_reducible refine draw_at 0 55 (by with_unfolding_all rfl) [(0, false, true), (1, false, true), (2, false, true), (3, false, true), (4, true, true), (5, true, true), (6, false, false), (7, false, false), (8, false, true), (9, false, true), (10, false, true), (11, true, true), (12, true, true), (13, true, false), (14, false, false), (15, false, false), (16, false, false), (17, false, false), (18, false, false), (19, false, false), (20, false, false)] (by kernel_rfl) ?_ <;> try simp only [go_sem, hA, e9, e8, hdl, hg2, hil2, c1, c2]) | (fail))
                refine gc_trim 3 (by decide) (by simp only [go_sem]) (by simp only [go_sem, hw, hsn]) (hJ (j + 1, g, cap) _ _ (by exact hdec) (by simp only [go_sem, hA, e9, e8]) ⟨?_, ?_, ?_, ?_⟩) <;> try simp only [go_sem, hA, e9, e8, hw, hsn]
                exact hj
              | true =>
                cases c3 : (b.trades[k + 1 + j].seller == lastI (chainTo b.trades b.trades[k] k j)) with
                | false =>
                  rw [c1, c2, c3, Bool.and_false, if_neg (by decide)] at hsn
                  (try simp only [go_sem, hA, e9, e8, hdl, hg2, hil2, c1, c2, c3, hla, hlx, hll]); repeat' (first | (with_reducible refine c_split (fun hb => ?_) (fun hb => ?_) <;> try simp only [go_sem, hb, hA, e9, e8, hdl, hg2, hil2, c1, c2, c3, hla, hlx, hll]) | (with_reducible refine w_split (fun hb => ?_) (fun hb => ?_) <;> try simp only [go_sem, hb, hA, e9, e8, hdl, hg2, hil2, c1, c2, c3, hla, hlx, hll]) | (with_reducible refine tw_split (fun hb => ?_) (fun hb => ?_) <;> try simp only [go_sem, hb, hA, e9, e8, hdl, hg2, hil2, c1, c2, c3, hla, hlx, hll]) | (with_reducible refine draw_at 0 55 (by with_unfolding_all rfl) [(0, false, true), (1, false, true), (2, false, true), (3, false, true), (4, true, true), (5, true, true), (6, false, false), (7, false, false), (8, false, true), (9, false, true), (10, false, true), (11, true, true), (12, true, true), (13, true, false), (14, false, false), (15, false, false), (16, false, false), (17, false, false), (18, false, false), (19, false, false), (20, false, false)] (by kernel_rfl) ?_ <;> try simp only [go_sem, hA, e9, e8, hdl, hg2, hil2, c1, c2, c3, hla, hlx, hll]) | (fail))
                  refine gc_trim 3 (by decide) (by simp only [go_sem]) (by simp only [go_sem, hw, hsn]) (hJ (j + 1, g, cap) _ _ (by exact hdec) (by simp only [go_sem, hA, e9, e8]) ⟨?_, ?_, ?_, ?_⟩) <;> try simp only [go_sem, hA, e9, e8, hw, hsn]
                  exact hj
                | true =>
                  rw [c1, c2, c3, if_pos (by decide)] at hsn
                  (try simp only [go_sem, hA, e9, e8, hdl, hg2, hil2, c1, c2, c3, hla, hlx, hll]); repeat' (first | (with_reducible refine c_split (fun hb => ?_) (fun hb => ?_) <;> try simp only [go_sem, hb, hA, e9, e8, hdl, hg2, hil2, c1, c2, c3, hla, hlx, hll]) | (with_reducible refine w_split (fun hb => ?_) (fun hb => ?_) <;> try simp only [go_sem, hb, hA, e9, e8, hdl, hg2, hil2, c1, c2, c3, hla, hlx, hll]) | (with_reducible refine tw_split (fun hb => ?_) (fun hb => ?_) <;> try simp only [go_sem, hb, hA, e9, e8, hdl, hg2, hil2, c1, c2, c3, hla, hlx, hll]) | (with_reducible refine draw_at 0 55 (by with_unfolding_all rfl) [(0, false, true), (1, false, true), (2, false, true), (3, false, true), (4, true, true), (5, true, true), (6, false, false), (7, false, false), (8, false, true), (9, false, true), (10, false, true), (11, true, true), (12, true, true), (13, true, false), (14, false, false), (15, false, false), (16, false, false), (17, false, false), (18, false, false), (19, false, false), (20, false, false)] (by kernel_rfl) ?_ <;> try simp only [go_sem, hA, e9, e8, hdl, hg2, hil2, c1, c2, c3, hla, hlx, hll]) | (fail))
                  refine ap_end rfl (by simp) (by simp; omega) ?_
                  simp only [go_sem, hA, e9, e8]
                  (try simp only [go_sem, hA, e9, e8]); repeat' (first | (with_reducible refine c_split (fun hb => ?_) (fun hb => ?_) <;> try simp only [go_sem, hb, hA, e9, e8]) | (with_reducible refine w_split (fun hb => ?_) (fun hb => ?_) <;> try simp only [go_sem, hb, hA, e9, e8]) | (with_reducible refine tw_split (fun hb => ?_) (fun hb => ?_) <;> try simp only [go_sem, hb, hA, e9, e8]) | (with_reducible refine draw_at 0 55 (by with_unfolding_all rfl) [(0, false, true), (1, false, true), (2, false, true), (3, false, true), (4, true, true), (5, true, true), (6, false, false), (7, false, false), (8, false, true), (9, false, true), (10, false, true), (11, true, true), (12, true, true), (13, true, false), (14, false, false), (15, false, false), (16, false, false), (17, false, false), (18, false, false), (19, false, false), (20, false, false)] (by kernel_rfl) ?_ <;> try simp only [go_sem, hA, e9, e8]) | (fail))
                  refine gc_trim 3 (by decide) (by simp only [go_sem]) (by simp only [go_sem, hw, hsn]) (hJ (j + 1, g + 1, none) _ _ (by exact hdec) (by simp only [go_sem, hA, e9, e8]) ⟨?_, ?_, ?_, ?_⟩) <;> try simp only [go_sem, hA, e9, e8, hw, hsn]
                  exact hj
          · have hjl : j = b.trades.length - (k + 1) := by omega
            have hdl : decide (((k + 1 + j : Nat) : Int) < (b.trades.length : Int)) = false := decide_eq_false (by omega)
            rw [← hjl] at hk
            (try simp only [go_sem, hA, e9, e8, hdl]); repeat' (first | (with_reducible refine c_split (fun hb => ?_) (fun hb => ?_) <;> try simp only [go_sem, hb, hA, e9, e8, hdl]) | (with_reducible refine w_split (fun hb => ?_) (fun hb => ?_) <;> try simp only [go_sem, hb, hA, e9, e8, hdl]) | (with_reducible refine tw_split (fun hb => ?_) (fun hb => ?_) <;> try simp only [go_sem, hb, hA, e9, e8, hdl]) | (with_reducible refine draw_at 0 55 (by with_unfolding_all rfl) [(0, false, true), (1, false, true), (2, false, true), (3, false, true), (4, true, true), (5, true, true), (6, false, false), (7, false, false), (8, false, true), (9, false, true), (10, false, true), (11, true, true), (12, true, true), (13, true, false), (14, false, false), (15, false, false), (16, false, false), (17, false, false), (18, false, false), (19, false, false), (20, false, false)] (by kernel_rfl) ?_ <;> try simp only [go_sem, hA, e9, e8, hdl]) | (with_reducible refine hQ _ _ ?_ <;> simp only [Try.f14, go_sem, hA, e9, e8, hdl]))
            exact hk
    | false =>
      have hk2 : K (chainV none) [] := by rw [chainR, if_neg (fun q => by rw [hok] at q; cases q.1)] at hk; exact hk
      (try simp only [go_sem, e1, hok, hneg]); repeat' (first | (with_reducible refine c_split (fun hb => ?_) (fun hb => ?_) <;> try simp only [go_sem, hb, e1, hok, hneg]) | (with_reducible refine w_split (fun hb => ?_) (fun hb => ?_) <;> try simp only [go_sem, hb, e1, hok, hneg]) | (with_reducible refine tw_split (fun hb => ?_) (fun hb => ?_) <;> try simp only [go_sem, hb, e1, hok, hneg]) | (with_reducible refine draw_at 0 55 (by with_unfolding_all rfl) [(0, false, true), (1, false, true), (2, false, true), (3, false, true), (4, true, true), (5, true, true), (6, false, false), (7, false, false), (8, false, true), (9, false, true), (10, false, true), (11, true, true), (12, true, true), (13, true, false), (14, false, false), (15, false, false), (16, false, false), (17, false, false), (18, false, false), (19, false, false), (20, false, false)] (by kernel_rfl) ?_ <;> try simp only [go_sem, e1, hok, hneg]) | (refine call_c (c_l7Find b no hs _ ?_) <;> try simp only [go_sem, e1, hok, hneg]) | (refine call_c (c_BooksOk b hs _ ?_) <;> try simp only [go_sem, e1, hok, hneg]) | (with_reducible refine hQ _ _ ?_ <;> simp only [Try.f14, go_sem, e1, hok, hneg]))
      exact hk2
  · have hk2 : K (chainV none) [] := by rw [chainR, if_neg (fun q => by have := q.2; omega)] at hk; exact hk
    (try simp only [go_sem, e1, m1_neg]); repeat' (first | (with_reducible refine c_split (fun hb => ?_) (fun hb => ?_) <;> try simp only [go_sem, hb, e1, m1_neg]) | (with_reducible refine w_split (fun hb => ?_) (fun hb => ?_) <;> try simp only [go_sem, hb, e1, m1_neg]) | (with_reducible refine tw_split (fun hb => ?_) (fun hb => ?_) <;> try simp only [go_sem, hb, e1, m1_neg]) | (with_reducible refine draw_at 0 55 (by with_unfolding_all rfl) [(0, false, true), (1, false, true), (2, false, true), (3, false, true), (4, true, true), (5, true, true), (6, false, false), (7, false, false), (8, false, true), (9, false, true), (10, false, true), (11, true, true), (12, true, true), (13, true, false), (14, false, false), (15, false, false), (16, false, false), (17, false, false), (18, false, false), (19, false, false), (20, false, false)] (by kernel_rfl) ?_ <;> try simp only [go_sem, e1, m1_neg]) | (refine call_c (c_l7Find b no hs _ ?_) <;> try simp only [go_sem, e1, m1_neg]) | (with_reducible refine hQ _ _ ?_ <;> simp only [Try.f14, go_sem, e1, m1_neg]))
    exact hk2
theorem ap_room {s : List Int} (h : s.length ≤ 1000000001) (x : List CV) : ((s.map intC).length + [x].length) * 8 ≤ 140737488355328 := by simp; omega
theorem chain_cap {ts : List Trade} (f : Trade) (k i : Nat) (h : k + 1 + i ≤ ts.length) (h2 : ts.length ≤ 1000000000) : (chainTo ts f k i).length ≤ 1000000001 := by
  have := chain_len (ts := ts) f k i h
  omega
theorem chain_rs {ts rs : List Trade} (f : Trade) (k : Nat) (h : rs = ts.drop (k + 1)) (i : Nat) (hi : i < rs.length) : chainTo ts f k (i + 1) = chainS f (chainTo ts f k i) rs[i] := by
  subst h
  rw [chainTo, List.take_succ_eq_append_getElem hi, List.foldl_append]; rfl
theorem c_impl_Chain (b : Books) (no : Int) (hs : Small b) (K : AV → AH → Prop) (hk : K (.tup [.one (.sl 0 0 0 ((chainR b no).getD []).length), (.one (.c (.bool ((chainR b no).isSome))))]) [.own 0 3 1 none (((chainR b no).getD []).map intC)]) : ACalls Try.prog 15 [.agg (booksC b), (.one (.c (.int .i64 (no))))] [] K := by
  have hst := hs.ht
  refine acall_c Try.f15.results.toList mixed Try.func15 rfl rfl (by kernel_rfl) ?_
  intro Q hQ hQO
  simp only [go_sem]
  rcases findO_cases (trIs no) b.trades with ⟨k, hi, e1, e2⟩ | ⟨e1, e2⟩
  · have hg : b.trades[k]? = some b.trades[k] := List.getElem?_eq_getElem hi
    have hil : (k : Int) < (b.trades.length : Int) := Int.ofNat_lt.2 hi
    have hneg : decide ((k : Int) < 0) = false := decide_eq_false (by omega)
    have hw0 : wrap64 ((k : Int) + 1) = ((k + 1 : Nat) : Int) := by rw [wrap_id _ (by omega) (by omega)]; omega
    cases hok : booksOk b with
    | true =>
      rw [chainR_at hok e1 hi] at hk
      (try simp only [go_sem, e1, hok, hneg, hg, hil, hw0]); repeat' (first | (with_reducible refine c_split (fun hb => ?_) (fun hb => ?_) <;> try simp only [go_sem, hb, e1, hok, hneg, hg, hil, hw0]) | (with_reducible refine w_split (fun hb => ?_) (fun hb => ?_) <;> try simp only [go_sem, hb, e1, hok, hneg, hg, hil, hw0]) | (with_reducible refine tw_split (fun hb => ?_) (fun hb => ?_) <;> try simp only [go_sem, hb, e1, hok, hneg, hg, hil, hw0]) | (with_reducible refine draw_at 0 50 (by with_unfolding_all rfl) [(0, false, true), (1, false, true), (2, false, true), (3, false, true), (4, true, true), (5, true, true), (6, false, false), (7, false, false), (8, false, true), (9, false, true), (10, false, true), (11, true, true), (12, true, true), (13, true, false), (14, false, false), (15, false, false), (16, false, false), (17, false, false), (18, false, false), (19, false, false), (20, false, false)] (by kernel_rfl) ?_ <;> try simp only [go_sem, e1, hok, hneg, hg, hil, hw0]) | (refine call_c (c_tradeAt b no hs _ ?_) <;> try simp only [go_sem, e1, hok, hneg, hg, hil, hw0]) | (refine call_c (c_impl_BooksOk b hs _ ?_) <;> try simp only [go_sem, e1, hok, hneg, hg, hil, hw0]) | (fail))
      · rw [if_neg (by simpa using hb)] at hk
        (try simp only [go_sem]); repeat' (first | (with_reducible refine c_split (fun hb => ?_) (fun hb => ?_) <;> try simp only [go_sem, hb]) | (with_reducible refine w_split (fun hb => ?_) (fun hb => ?_) <;> try simp only [go_sem, hb]) | (with_reducible refine tw_split (fun hb => ?_) (fun hb => ?_) <;> try simp only [go_sem, hb]) | (with_reducible refine draw_at 0 50 (by with_unfolding_all rfl) [(0, false, true), (1, false, true), (2, false, true), (3, false, true), (4, true, true), (5, true, true), (6, false, false), (7, false, false), (8, false, true), (9, false, true), (10, false, true), (11, true, true), (12, true, true), (13, true, false), (14, false, false), (15, false, false), (16, false, false), (17, false, false), (18, false, false), (19, false, false), (20, false, false)] (by kernel_rfl) ?_ <;> try simp only [go_sem]) | (fail))
        refine hQO [1] _ _ (GC.step (Ghost.nlr 4 (by simp only [go_sem]) 3 1) (GC.now ?_)) <;> simp only [Try.f15, go_sem, List.nodup_cons, List.nodup_nil, List.mem_cons, List.not_mem_nil, or_false, not_false_eq_true, List.idxOf?_cons, List.idxOf?_nil, Option.map_none]
        exact hk
      · rw [if_pos (by simpa using hb)] at hk
        clear hb
        refine ⟨by omega, ?_⟩
        obtain ⟨rs, hrs⟩ : ∃ rs, rs = b.trades.drop (k + 1) := ⟨_, rfl⟩
        have hrl : rs.length = b.trades.length - (k + 1) := by rw [hrs, List.length_drop]
        have htd : List.take (b.trades.length - (k + 1)) (List.drop (k + 1) (List.map tradeC b.trades)) = List.map tradeC rs := by
          rw [← List.map_drop, ← hrs, List.take_of_length_le (by rw [List.length_map, hrl]; exact Nat.le_refl _)]
        rw [← hrl] at hk
        rw [htd, List.length_map]
        refine while_at (α := Nat × Nat × Option Nat) (fun ⟨j, g, cap⟩ => rs.length - j) [7, 44, 45] (fun ⟨j, g, cap⟩ f h => f 46 = (.one (.c (.int .i64 ((j : Int))))) ∧ f 8 = .one (.sl 2 g 0 (chainTo b.trades b.trades[k] k j).length) ∧ h = [.own 0 38 6 (some 1) [booksC b], .own 0 76 8 (some 1) [tradeC b.trades[k]], .own g 3 1 cap ((chainTo b.trades b.trades[k] k j).map intC)] ∧ j ≤ rs.length) (0, 0, some 2) (GC.now ?_) ?_
        · simp only [go_sem, nc_0, true_and]
          exact ⟨rfl, rfl, by omega⟩
        · rintro ⟨j, g, cap⟩ f h J hA ⟨e46, e8, rfl, hP⟩ hJ
          simp only [go_sem] at hA
          try dsimp only at hJ
          simp only [go_sem, hA, e46, e8]
          have hlen := chain_len (ts := b.trades) b.trades[k] k j (by clear hJ; omega)
          have hcap := chain_cap (ts := b.trades) b.trades[k] k j (by clear hJ; omega) hst
          by_cases hj : j < rs.length
          · have hdl : decide ((j : Int) < (rs.length : Int)) = true := decide_eq_true (by omega)
            have hg2 : rs[j]? = some rs[j] := List.getElem?_eq_getElem hj
            have hil2 : (j : Int) < (rs.length : Int) := Int.ofNat_lt.2 hj
            have hsn := chain_rs b.trades[k] k hrs j hj
            have hla := last_at (s := chainTo b.trades b.trades[k] k j) (by omega)
            have hlx := last_ix (n := (chainTo b.trades b.trades[k] k j).length) (by omega) (by omega)
            have hll := last_lt (n := (chainTo b.trades b.trades[k] k j).length) (by omega)
            have hw : wrap64 ((j : Int) + 1) = ((j + 1 : Nat) : Int) := wrap_nat j (by omega)
            have hdec : rs.length - (j + 1) < rs.length - j := Nat.sub_lt_sub_left hj (Nat.lt_succ_self j)
            rw [chainS] at hsn
            cases c1 : (rs[j].state == 2) with
            | false =>
              rw [c1, Bool.false_and, Bool.false_and, if_neg (by decide)] at hsn
              (try simp only [go_sem, hA, e46, e8, hdl, hg2, hil2, c1]); repeat' (first | (with_reducible refine c_split (fun hb => ?_) (fun hb => ?_) <;> try simp only [go_sem, hb, hA, e46, e8, hdl, hg2, hil2, c1]) | (with_reducible refine w_split (fun hb => ?_) (fun hb => ?_) <;> try simp only [go_sem, hb, hA, e46, e8, hdl, hg2, hil2, c1]) | (with_reducible refine tw_split (fun hb => ?_) (fun hb => ?_) <;> try simp only [go_sem, hb, hA, e46, e8, hdl, hg2, hil2, c1]) | (with_reducible refine draw_at 0 50 (by with_unfolding_all rfl) [(0, false, true), (1, false, true), (2, false, true), (3, false, true), (4, true, true), (5, true, true), (6, false, false), (7, false, false), (8, false, true), (9, false, true), (10, false, true), (11, true, true), (12, true, true), (13, true, false), (14, false, false), (15, false, false), (16, false, false), (17, false, false), (18, false, false), (19, false, false), (20, false, false)] (by kernel_rfl) ?_ <;> try simp only [go_sem, hA, e46, e8, hdl, hg2, hil2, c1]) | (fail))
              refine gc_trim 3 (by decide) (by simp only [go_sem]) (by simp only [go_sem, hw, hsn]) (hJ (j + 1, g, cap) _ _ (by exact hdec) (by simp only [go_sem, hA, e46, e8]) ⟨?_, ?_, ?_, ?_⟩) <;> try simp only [go_sem, hA, e46, e8, hw, hsn]
              exact hj
            | true =>
              cases c2 : (rs[j].paper == b.trades[k].paper) with
              | false =>
                rw [c1, c2, Bool.and_false, Bool.false_and, if_neg (by decide)] at hsn
                (try simp only [go_sem, hA, e46, e8, hdl, hg2, hil2, c1, c2]); repeat' (first | (with_reducible refine c_split (fun hb => ?_) (fun hb => ?_) <;> try simp only [go_sem, hb, hA, e46, e8, hdl, hg2, hil2, c1, c2]) | (with_reducible refine w_split (fun hb => ?_) (fun hb => ?_) <;> try simp only [go_sem, hb, hA, e46, e8, hdl, hg2, hil2, c1, c2]) | (with_reducible refine tw_split (fun hb => ?_) (fun hb => ?_) <;> try simp only [go_sem, hb, hA, e46, e8, hdl, hg2, hil2, c1, c2]) | (with_reducible refine draw_at 0 50 (by with_unfolding_all rfl) [(0, false, true), (1, false, true), (2, false, true), (3, false, true), (4, true, true), (5, true, true), (6, false, false), (7, false, false), (8, false, true), (9, false, true), (10, false, true), (11, true, true), (12, true, true), (13, true, false), (14, false, false), (15, false, false), (16, false, false), (17, false, false), (18, false, false), (19, false, false), (20, false, false)] (by kernel_rfl) ?_ <;> try simp only [go_sem, hA, e46, e8, hdl, hg2, hil2, c1, c2]) | (fail))
                refine gc_trim 3 (by decide) (by simp only [go_sem]) (by simp only [go_sem, hw, hsn]) (hJ (j + 1, g, cap) _ _ (by exact hdec) (by simp only [go_sem, hA, e46, e8]) ⟨?_, ?_, ?_, ?_⟩) <;> try simp only [go_sem, hA, e46, e8, hw, hsn]
                exact hj
              | true =>
                cases c3 : (rs[j].seller == lastI (chainTo b.trades b.trades[k] k j)) with
                | false =>
                  rw [c1, c2, c3, Bool.and_false, if_neg (by decide)] at hsn
                  (try simp only [go_sem, hA, e46, e8, hdl, hg2, hil2, c1, c2, c3, hla, hlx, hll]); repeat' (first | (with_reducible refine c_split (fun hb => ?_) (fun hb => ?_) <;> try simp only [go_sem, hb, hA, e46, e8, hdl, hg2, hil2, c1, c2, c3, hla, hlx, hll]) | (with_reducible refine w_split (fun hb => ?_) (fun hb => ?_) <;> try simp only [go_sem, hb, hA, e46, e8, hdl, hg2, hil2, c1, c2, c3, hla, hlx, hll]) | (with_reducible refine tw_split (fun hb => ?_) (fun hb => ?_) <;> try simp only [go_sem, hb, hA, e46, e8, hdl, hg2, hil2, c1, c2, c3, hla, hlx, hll]) | (with_reducible refine draw_at 0 50 (by with_unfolding_all rfl) [(0, false, true), (1, false, true), (2, false, true), (3, false, true), (4, true, true), (5, true, true), (6, false, false), (7, false, false), (8, false, true), (9, false, true), (10, false, true), (11, true, true), (12, true, true), (13, true, false), (14, false, false), (15, false, false), (16, false, false), (17, false, false), (18, false, false), (19, false, false), (20, false, false)] (by kernel_rfl) ?_ <;> try simp only [go_sem, hA, e46, e8, hdl, hg2, hil2, c1, c2, c3, hla, hlx, hll]) | (fail))
                  refine gc_trim 3 (by decide) (by simp only [go_sem]) (by simp only [go_sem, hw, hsn]) (hJ (j + 1, g, cap) _ _ (by exact hdec) (by simp only [go_sem, hA, e46, e8]) ⟨?_, ?_, ?_, ?_⟩) <;> try simp only [go_sem, hA, e46, e8, hw, hsn]
                  exact hj
                | true =>
                  rw [c1, c2, c3, if_pos (by decide)] at hsn
                  (try simp only [go_sem, hA, e46, e8, hdl, hg2, hil2, c1, c2, c3, hla, hlx, hll]); repeat' (first | (with_reducible refine c_split (fun hb => ?_) (fun hb => ?_) <;> try simp only [go_sem, hb, hA, e46, e8, hdl, hg2, hil2, c1, c2, c3, hla, hlx, hll]) | (with_reducible refine w_split (fun hb => ?_) (fun hb => ?_) <;> try simp only [go_sem, hb, hA, e46, e8, hdl, hg2, hil2, c1, c2, c3, hla, hlx, hll]) | (with_reducible refine tw_split (fun hb => ?_) (fun hb => ?_) <;> try simp only [go_sem, hb, hA, e46, e8, hdl, hg2, hil2, c1, c2, c3, hla, hlx, hll]) | (with_reducible refine draw_at 0 50 (by with_unfolding_all rfl) [(0, false, true), (1, false, true), (2, false, true), (3, false, true), (4, true, true), (5, true, true), (6, false, false), (7, false, false), (8, false, true), (9, false, true), (10, false, true), (11, true, true), (12, true, true), (13, true, false), (14, false, false), (15, false, false), (16, false, false), (17, false, false), (18, false, false), (19, false, false), (20, false, false)] (by kernel_rfl) ?_ <;> try simp only [go_sem, hA, e46, e8, hdl, hg2, hil2, c1, c2, c3, hla, hlx, hll]) | (fail))
                  refine ap_end rfl (List.length_map ..).symm (ap_room hcap _) ?_
                  simp only [go_sem, hA, e46, e8]
                  (try simp only [go_sem, hA, e46, e8]); repeat' (first | (with_reducible refine c_split (fun hb => ?_) (fun hb => ?_) <;> try simp only [go_sem, hb, hA, e46, e8]) | (with_reducible refine w_split (fun hb => ?_) (fun hb => ?_) <;> try simp only [go_sem, hb, hA, e46, e8]) | (with_reducible refine tw_split (fun hb => ?_) (fun hb => ?_) <;> try simp only [go_sem, hb, hA, e46, e8]) | (with_reducible refine draw_at 0 50 (by with_unfolding_all rfl) [(0, false, true), (1, false, true), (2, false, true), (3, false, true), (4, true, true), (5, true, true), (6, false, false), (7, false, false), (8, false, true), (9, false, true), (10, false, true), (11, true, true), (12, true, true), (13, true, false), (14, false, false), (15, false, false), (16, false, false), (17, false, false), (18, false, false), (19, false, false), (20, false, false)] (by kernel_rfl) ?_ <;> try simp only [go_sem, hA, e46, e8]) | (fail))
                  refine gc_trim 3 (by decide) (by simp only [go_sem]) (by simp only [go_sem, hw, hsn]) (hJ (j + 1, g + 1, none) _ _ (by exact hdec) (by simp only [go_sem, hA, e46, e8]) ⟨?_, ?_, ?_, ?_⟩) <;> try simp only [go_sem, hA, e46, e8, hw, hsn]
                  exact hj
          · have hjl : j = rs.length := by omega
            have hdl : decide ((j : Int) < (rs.length : Int)) = false := decide_eq_false (by omega)
            rw [← hjl] at hk
            (try simp only [go_sem, hA, e46, e8, hdl]); repeat' (first | (with_reducible refine c_split (fun hb => ?_) (fun hb => ?_) <;> try simp only [go_sem, hb, hA, e46, e8, hdl]) | (with_reducible refine w_split (fun hb => ?_) (fun hb => ?_) <;> try simp only [go_sem, hb, hA, e46, e8, hdl]) | (with_reducible refine tw_split (fun hb => ?_) (fun hb => ?_) <;> try simp only [go_sem, hb, hA, e46, e8, hdl]) | (with_reducible refine draw_at 0 50 (by with_unfolding_all rfl) [(0, false, true), (1, false, true), (2, false, true), (3, false, true), (4, true, true), (5, true, true), (6, false, false), (7, false, false), (8, false, true), (9, false, true), (10, false, true), (11, true, true), (12, true, true), (13, true, false), (14, false, false), (15, false, false), (16, false, false), (17, false, false), (18, false, false), (19, false, false), (20, false, false)] (by kernel_rfl) ?_ <;> try simp only [go_sem, hA, e46, e8, hdl]) | (fail))
            have htk : (List.map intC (chainTo b.trades b.trades[k] k j)).take (chainTo b.trades b.trades[k] k j).length = List.map intC (chainTo b.trades b.trades[k] k j) := List.take_of_length_le (by simp)
            refine hQO [2] _ _ (GC.step (Ghost.cut (l := 2) rfl (chainTo b.trades b.trades[k] k j).length) (GC.now ?_)) <;> simp only [Try.f15, go_sem, List.nodup_cons, List.nodup_nil, List.mem_cons, List.not_mem_nil, or_false, not_false_eq_true, List.idxOf?_cons, List.idxOf?_nil, Option.map_none, htk]
            exact hk
    | false =>
      have hk2 : chainR b no = none := by rw [chainR, if_neg (fun q => by rw [hok] at q; cases q.1)]
      rw [hk2] at hk
      (try simp only [go_sem, e1, hok, hneg]); repeat' (first | (with_reducible refine c_split (fun hb => ?_) (fun hb => ?_) <;> try simp only [go_sem, hb, e1, hok, hneg]) | (with_reducible refine w_split (fun hb => ?_) (fun hb => ?_) <;> try simp only [go_sem, hb, e1, hok, hneg]) | (with_reducible refine tw_split (fun hb => ?_) (fun hb => ?_) <;> try simp only [go_sem, hb, e1, hok, hneg]) | (with_reducible refine draw_at 0 50 (by with_unfolding_all rfl) [(0, false, true), (1, false, true), (2, false, true), (3, false, true), (4, true, true), (5, true, true), (6, false, false), (7, false, false), (8, false, true), (9, false, true), (10, false, true), (11, true, true), (12, true, true), (13, true, false), (14, false, false), (15, false, false), (16, false, false), (17, false, false), (18, false, false), (19, false, false), (20, false, false)] (by kernel_rfl) ?_ <;> try simp only [go_sem, e1, hok, hneg]) | (refine call_c (c_tradeAt b no hs _ ?_) <;> try simp only [go_sem, e1, hok, hneg]) | (refine call_c (c_impl_BooksOk b hs _ ?_) <;> try simp only [go_sem, e1, hok, hneg]) | (fail))
      refine hQO [1] _ _ (GC.step (Ghost.nlr 4 (by simp only [go_sem]) 3 1) (GC.now ?_)) <;> simp only [Try.f15, go_sem, List.nodup_cons, List.nodup_nil, List.mem_cons, List.not_mem_nil, or_false, not_false_eq_true, List.idxOf?_cons, List.idxOf?_nil, Option.map_none]
      exact hk
  · have hk2 : chainR b no = none := by rw [chainR, if_neg (fun q => by have := q.2; omega)]
    rw [hk2] at hk
    (try simp only [go_sem, e1, m1_neg]); repeat' (first | (with_reducible refine c_split (fun hb => ?_) (fun hb => ?_) <;> try simp only [go_sem, hb, e1, m1_neg]) | (with_reducible refine w_split (fun hb => ?_) (fun hb => ?_) <;> try simp only [go_sem, hb, e1, m1_neg]) | (with_reducible refine tw_split (fun hb => ?_) (fun hb => ?_) <;> try simp only [go_sem, hb, e1, m1_neg]) | (with_reducible refine draw_at 0 50 (by with_unfolding_all rfl) [(0, false, true), (1, false, true), (2, false, true), (3, false, true), (4, true, true), (5, true, true), (6, false, false), (7, false, false), (8, false, true), (9, false, true), (10, false, true), (11, true, true), (12, true, true), (13, true, false), (14, false, false), (15, false, false), (16, false, false), (17, false, false), (18, false, false), (19, false, false), (20, false, false)] (by kernel_rfl) ?_ <;> try simp only [go_sem, e1, m1_neg]) | (refine call_c (c_tradeAt b no hs _ ?_) <;> try simp only [go_sem, e1, m1_neg]) | (refine call_c (c_impl_BooksOk b hs _ ?_) <;> try simp only [go_sem, e1, m1_neg]) | (fail))
    · refine hQO [1] _ _ (GC.step (Ghost.nlr 4 (by simp only [go_sem]) 3 1) (GC.now ?_)) <;> simp only [Try.f15, go_sem, List.nodup_cons, List.nodup_nil, List.mem_cons, List.not_mem_nil, or_false, not_false_eq_true, List.idxOf?_cons, List.idxOf?_nil, Option.map_none]
      exact hk
    · refine hQO [1] _ _ (GC.step (Ghost.nlr 4 (by simp only [go_sem]) 3 1) (GC.now ?_)) <;> simp only [Try.f15, go_sem, List.nodup_cons, List.nodup_nil, List.mem_cons, List.not_mem_nil, or_false, not_false_eq_true, List.idxOf?_cons, List.idxOf?_nil, Option.map_none]
      exact hk
theorem chainR_len {b : Books} (no : Int) (hs : Small b) : ((chainR b no).getD []).length ≤ 1000000000 := by
  unfold chainR
  split
  · rename_i h
    have ht := okL_len (booksOk_parts h.1).2.2.2.2
    split
    · rename_i f hf
      split
      · have hlt := (List.getElem?_eq_some_iff.1 hf).1
        have := chain_len (ts := b.trades) f (findG (trIs no) b.trades).toNat (b.trades.length - ((findG (trIs no) b.trades).toNat + 1)) (by omega)
        simp only [Option.getD_some]; omega
      · simp
    · simp
  · simp
theorem c_FnExactChain (b : Books) (no : Int) (h : Large b) (K : AV → AH → Prop) (hk : K (.one (.c (.bool (true)))) []) : ACalls Try.prog 5 [.agg (booksC b), (.one (.c (.int .i64 (no))))] [] K := by
  refine acall_c Try.f5.results.toList mixed Try.func5 rfl rfl (by kernel_rfl) ?_
  intro Q hQ hQO
  simp only [go_sem]
  (try simp only [go_sem]); repeat' (first | (with_reducible refine c_split (fun hb => ?_) (fun hb => ?_) <;> try simp only [go_sem, hb]) | (with_reducible refine w_split (fun hb => ?_) (fun hb => ?_) <;> try simp only [go_sem, hb]) | (with_reducible refine tw_split (fun hb => ?_) (fun hb => ?_) <;> try simp only [go_sem, hb]) | (with_reducible refine draw_at 0 45 (by with_unfolding_all rfl) [(0, true, true), (1, false, false), (2, false, false), (3, false, true), (4, false, true)] (by kernel_rfl) ?_ <;> try simp only [go_sem]) | (refine call_c (c_szBooks b h _ (fun r hr => ?_)) <;> try simp only [go_sem]) | (fail))
  · (try simp only [go_sem]); repeat' (first | (with_reducible refine c_split (fun hb => ?_) (fun hb => ?_) <;> try simp only [go_sem, hb]) | (with_reducible refine w_split (fun hb => ?_) (fun hb => ?_) <;> try simp only [go_sem, hb]) | (with_reducible refine tw_split (fun hb => ?_) (fun hb => ?_) <;> try simp only [go_sem, hb]) | (with_reducible refine draw_at 0 45 (by with_unfolding_all rfl) [(0, true, true), (1, false, false), (2, false, false), (3, false, true), (4, false, true)] (by kernel_rfl) ?_ <;> try simp only [go_sem]) | (with_reducible refine hQ _ _ ?_ <;> simp only [Try.f5, go_sem]))
    exact hk
  have hs : Small b := hr (by have := of_decide_eq_false hb; omega)
  clear hb
  obtain ⟨l, hl⟩ : ∃ l, l = (chainR b no).getD [] := ⟨_, rfl⟩
  obtain ⟨z, hz⟩ : ∃ z, z = (chainR b no).isSome := ⟨_, rfl⟩
  have hv : chainV (chainR b no) = .tup [(.one (.im (l.map intC))), (.one (.c (.bool (z))))] := by
    subst hl hz
    cases chainR b no <;> rfl
  have hn : l.length ≤ 1000000000 := by subst hl; exact chainR_len no hs
  have e1 : decide (markN b 1 < 0) = false := decide_eq_false (by unfold markN; omega)
  have e2 : decide ((1 : Int) + l.length < 0) = false := decide_eq_false (by omega)
  have htk : (List.map intC l).take l.length = List.map intC l := List.take_of_length_le (by simp)
  have htk2 : (List.map intC (List.map (markIntS 1) (List.range l.length))).take l.length = List.map intC (List.map (markIntS 1) (List.range l.length)) := List.take_of_length_le (by simp)
  have c_own := fun K' hk' => c_impl_Chain b no hs K' hk'
  rw [← hl, ← hz] at c_own
  (try simp only [go_sem, hv, BEq.rfl, bne_self_eq_false, List.length_range, htk, htk2, e1, e2]); repeat' (first | (with_reducible refine c_split (fun hb => ?_) (fun hb => ?_) <;> try simp only [go_sem, hb, hv, BEq.rfl, bne_self_eq_false, List.length_range, htk, htk2, e1, e2]) | (with_reducible refine w_split (fun hb => ?_) (fun hb => ?_) <;> try simp only [go_sem, hb, hv, BEq.rfl, bne_self_eq_false, List.length_range, htk, htk2, e1, e2]) | (with_reducible refine tw_split (fun hb => ?_) (fun hb => ?_) <;> try simp only [go_sem, hb, hv, BEq.rfl, bne_self_eq_false, List.length_range, htk, htk2, e1, e2]) | (with_reducible refine draw_at 0 45 (by with_unfolding_all rfl) [(0, true, true), (1, false, false), (2, false, false), (3, false, true), (4, false, true)] (by kernel_rfl) ?_ <;> try simp only [go_sem, hv, BEq.rfl, bne_self_eq_false, List.length_range, htk, htk2, e1, e2]) | (refine call_c (c_toBooks b hs _ ?_) <;> try simp only [go_sem, hv, BEq.rfl, bne_self_eq_false, List.length_range, htk, htk2, e1, e2]) | (refine call_c (c_spec_Chain b no hs _ ?_) <;> try simp only [go_sem, hv, BEq.rfl, bne_self_eq_false, List.length_range, htk, htk2, e1, e2]) | (refine call_c (c_own _ ?_) <;> try simp only [go_sem, hv, BEq.rfl, bne_self_eq_false, List.length_range, htk, htk2, e1, e2]) | (refine call_c (c_eqIntS l hn _ ?_) <;> try simp only [go_sem, hv, BEq.rfl, bne_self_eq_false, List.length_range, htk, htk2, e1, e2]) | (refine call_c (c_eqBooks b hs _ ?_) <;> try simp only [go_sem, hv, BEq.rfl, bne_self_eq_false, List.length_range, htk, htk2, e1, e2]) | (refine call_h (c_markBooks b hs 1 6 7 8 9 10 0 0 0 0 0 _ _ _ _ _ _ rfl rfl rfl rfl rfl (by decide) (by decide) (by decide) (by decide) (by decide) (by decide) (by decide) (by decide) (by decide) (by decide) (by decide) (by decide) _ ?_) <;> try simp only [go_sem, hv, BEq.rfl, bne_self_eq_false, List.length_range, htk, htk2, e1, e2]) | (refine call_h (c_markIntS l 1 12 0 _ _ rfl hn (by decide) (by decide) _ ?_) <;> try simp only [go_sem, hv, BEq.rfl, bne_self_eq_false, List.length_range, htk, htk2, e1, e2]) | (refine call_c (c_heldIntS l.length 1 hn (by decide) (by decide) _ ?_) <;> try simp only [go_sem, hv, BEq.rfl, bne_self_eq_false, List.length_range, htk, htk2, e1, e2]) | (with_reducible refine hQ _ _ ?_ <;> simp only [Try.f5, go_sem, hv, BEq.rfl, bne_self_eq_false, List.length_range, htk, htk2, e1, e2]))
  exact hk
end Go.Proofs.Ytedkpjaojdkpcaa
