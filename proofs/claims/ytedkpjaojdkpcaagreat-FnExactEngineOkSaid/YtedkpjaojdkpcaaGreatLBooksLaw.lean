/- BooksLaw: a law's books: how large, copied, compared. Conditions: none. -/
import Derived.Test.YtedkpjaojdkpcaaGreatLG
import Derived.Test.YtedkpjaojdkpcaaGreatLT
import Derived.Test.YtedkpjaojdkpcaaGreatLBooks8
namespace Go.Proofs.YtedkpjaojdkpcaaGreat
open Go.BL Go.RowKit
set_option linter.unusedVariables false
set_option linter.unusedSimpArgs false
set_option maxRecDepth 100000
attribute [local go_sem] accountC balC lotC tradeC booksC
theorem c_szBooksG (b : Books) (h : Large b) (left : Int) (q0 : 0 ≤ left) (q1 : left ≤ 1048576) (K : AV → AH → Prop) (hk : ∀ r, (0 ≤ r → Small b) → K (.one (.c (.int .i64 (r)))) []) : ACalls Tryz.prog 15 [.agg (booksC b), (.one (.c (.int .i64 (left))))] [] K := by
  refine acall_c Tryz.f15.results.toList mixed Tryz.func15 rfl rfl (by kernel_rfl) ?_
  intro Q hQ hQO
  simp only [go_sem]
  (try simp only [go_sem]); repeat' (first | (with_reducible refine c_split (fun hb => ?_) (fun hb => ?_) <;> try simp only [go_sem, hb]) | (with_reducible refine w_split (fun hb => ?_) (fun hb => ?_) <;> try simp only [go_sem, hb]) | (refine call_c (c_szAccountS _ _ h.ha q0 q1 _ (fun r1 hr1 => ?_)) <;> try simp only [go_sem]) | (fail))
  · (try simp only [go_sem]); repeat' (first | (with_reducible refine c_split (fun hb => ?_) (fun hb => ?_) <;> try simp only [go_sem, hb]) | (with_reducible refine w_split (fun hb => ?_) (fun hb => ?_) <;> try simp only [go_sem, hb]) | (with_reducible refine hQ _ _ ?_ <;> simp only [Tryz.f15, go_sem]))
    exact hk _ (fun q => by omega)
  have n1 : 0 ≤ r1 := by have := of_decide_eq_false hb; omega
  have m1 := hr1 n1
  clear hb
  (try simp only [go_sem]); repeat' (first | (with_reducible refine c_split (fun hb => ?_) (fun hb => ?_) <;> try simp only [go_sem, hb]) | (with_reducible refine w_split (fun hb => ?_) (fun hb => ?_) <;> try simp only [go_sem, hb]) | (refine call_c (c_szInstrS _ _ h.hi n1 (by omega) _ (fun r2 hr2 => ?_)) <;> try simp only [go_sem]) | (fail))
  · (try simp only [go_sem]); repeat' (first | (with_reducible refine c_split (fun hb => ?_) (fun hb => ?_) <;> try simp only [go_sem, hb]) | (with_reducible refine w_split (fun hb => ?_) (fun hb => ?_) <;> try simp only [go_sem, hb]) | (with_reducible refine hQ _ _ ?_ <;> simp only [Tryz.f15, go_sem]))
    exact hk _ (fun q => by omega)
  have n2 : 0 ≤ r2 := by have := of_decide_eq_false hb; omega
  have m2 := hr2 n2
  clear hb
  (try simp only [go_sem]); repeat' (first | (with_reducible refine c_split (fun hb => ?_) (fun hb => ?_) <;> try simp only [go_sem, hb]) | (with_reducible refine w_split (fun hb => ?_) (fun hb => ?_) <;> try simp only [go_sem, hb]) | (refine call_c (c_szBalS _ _ h.hb n2 (by omega) _ (fun r3 hr3 => ?_)) <;> try simp only [go_sem]) | (fail))
  · (try simp only [go_sem]); repeat' (first | (with_reducible refine c_split (fun hb => ?_) (fun hb => ?_) <;> try simp only [go_sem, hb]) | (with_reducible refine w_split (fun hb => ?_) (fun hb => ?_) <;> try simp only [go_sem, hb]) | (with_reducible refine hQ _ _ ?_ <;> simp only [Tryz.f15, go_sem]))
    exact hk _ (fun q => by omega)
  have n3 : 0 ≤ r3 := by have := of_decide_eq_false hb; omega
  have m3 := hr3 n3
  clear hb
  (try simp only [go_sem]); repeat' (first | (with_reducible refine c_split (fun hb => ?_) (fun hb => ?_) <;> try simp only [go_sem, hb]) | (with_reducible refine w_split (fun hb => ?_) (fun hb => ?_) <;> try simp only [go_sem, hb]) | (refine call_c (c_szLotS _ _ h.hl n3 (by omega) _ (fun r4 hr4 => ?_)) <;> try simp only [go_sem]) | (fail))
  · (try simp only [go_sem]); repeat' (first | (with_reducible refine c_split (fun hb => ?_) (fun hb => ?_) <;> try simp only [go_sem, hb]) | (with_reducible refine w_split (fun hb => ?_) (fun hb => ?_) <;> try simp only [go_sem, hb]) | (with_reducible refine hQ _ _ ?_ <;> simp only [Tryz.f15, go_sem]))
    exact hk _ (fun q => by omega)
  have n4 : 0 ≤ r4 := by have := of_decide_eq_false hb; omega
  have m4 := hr4 n4
  clear hb
  (try simp only [go_sem]); repeat' (first | (with_reducible refine c_split (fun hb => ?_) (fun hb => ?_) <;> try simp only [go_sem, hb]) | (with_reducible refine w_split (fun hb => ?_) (fun hb => ?_) <;> try simp only [go_sem, hb]) | (refine call_c (c_szTradeS _ _ h.ht n4 (by omega) _ (fun r5 hr5 => ?_)) <;> try simp only [go_sem]) | (fail))
  · (try simp only [go_sem]); repeat' (first | (with_reducible refine c_split (fun hb => ?_) (fun hb => ?_) <;> try simp only [go_sem, hb]) | (with_reducible refine w_split (fun hb => ?_) (fun hb => ?_) <;> try simp only [go_sem, hb]) | (with_reducible refine hQ _ _ ?_ <;> simp only [Tryz.f15, go_sem]))
    exact hk _ (fun q => by omega)
  have n5 : 0 ≤ r5 := by have := of_decide_eq_false hb; omega
  have m5 := hr5 n5
  (try simp only [go_sem]); repeat' (first | (with_reducible refine c_split (fun hb => ?_) (fun hb => ?_) <;> try simp only [go_sem, hb]) | (with_reducible refine w_split (fun hb => ?_) (fun hb => ?_) <;> try simp only [go_sem, hb]) | (with_reducible refine hQ _ _ ?_ <;> simp only [Tryz.f15, go_sem]))
  exact hk _ (fun q => ⟨by omega, by omega, by omega, by omega, by omega⟩)
theorem c_szBooks (b : Books) (h : Large b) (K : AV → AH → Prop) (hk : ∀ r, (0 ≤ r → Small b) → K (.one (.c (.int .i64 (r)))) []) : ACalls Tryz.prog 15 [.agg (booksC b), (.one (.c (.int .i64 (1048576))))] [] K := c_szBooksG b h _ (by decide) (by decide) K hk
def booksA (b : Books) : AV := .agg [.sl 0 0 0 b.accounts.length, .sl 1 0 0 b.instrs.length, .sl 2 0 0 b.bals.length, .sl 3 0 0 b.lots.length, .sl 4 0 0 b.trades.length, .c (.int .i64 (b.lot))]
theorem c_toBooks (b : Books) (hs : Small b) (K : AV → AH → Prop) (hk : K (booksA b) [.own 0 96 2 (some b.accounts.length) (b.accounts.map accountC), .own 0 97 2 (some b.instrs.length) (b.instrs.map accountC), .own 0 99 3 (some b.bals.length) (b.bals.map balC), .own 0 101 5 (some b.lots.length) (b.lots.map lotC), .own 0 103 8 (some b.trades.length) (b.trades.map tradeC)]) : ACalls Tryz.prog 20 [.agg (booksC b)] [] K := by
  refine acall_c Tryz.f20.results.toList mixed Tryz.func20 rfl rfl (by kernel_rfl) ?_
  intro Q hQ hQO
  simp only [go_sem]
  (try simp only [go_sem]); repeat' (first | (with_reducible refine c_split (fun hb => ?_) (fun hb => ?_) <;> try simp only [go_sem, hb]) | (with_reducible refine w_split (fun hb => ?_) (fun hb => ?_) <;> try simp only [go_sem, hb]) | (refine call_c (c_toAccountS _ hs.ha _ ?_) <;> try simp only [go_sem]) | (refine call_c (c_toInstrS _ hs.hi _ ?_) <;> try simp only [go_sem]) | (refine call_c (c_toBalS _ hs.hb _ ?_) <;> try simp only [go_sem]) | (refine call_c (c_toLotS _ hs.hl _ ?_) <;> try simp only [go_sem]) | (refine call_c (c_toTradeS _ hs.ht _ ?_) <;> try simp only [go_sem]) | (fail))
  refine hQO [3, 4, 5, 6, 7] _ _ (GC.now ?_) <;> simp only [Tryz.f20, go_sem, List.nodup_cons, List.nodup_nil, List.mem_cons, List.not_mem_nil, or_false, not_false_eq_true, List.idxOf?_cons, List.idxOf?_nil, Option.map_none]
  exact hk
theorem c_eqBooks (b : Books) (hs : Small b) (K : AV → AH → Prop) (hk : K (.one (.c (.bool (true)))) []) : ACalls Tryz.prog 25 [.agg (booksC b), .agg (booksC b)] [] K := by
  refine acall_c Tryz.f25.results.toList mixed Tryz.func25 rfl rfl (by kernel_rfl) ?_
  intro Q hQ hQO
  simp only [go_sem]
  (try simp only [go_sem, BEq.rfl]); repeat' (first | (with_reducible refine c_split (fun hb => ?_) (fun hb => ?_) <;> try simp only [go_sem, hb, BEq.rfl]) | (with_reducible refine w_split (fun hb => ?_) (fun hb => ?_) <;> try simp only [go_sem, hb, BEq.rfl]) | (refine call_c (c_eqAccountS _ hs.ha _ ?_) <;> try simp only [go_sem, BEq.rfl]) | (refine call_c (c_eqInstrS _ hs.hi _ ?_) <;> try simp only [go_sem, BEq.rfl]) | (refine call_c (c_eqBalS _ hs.hb _ ?_) <;> try simp only [go_sem, BEq.rfl]) | (refine call_c (c_eqLotS _ hs.hl _ ?_) <;> try simp only [go_sem, BEq.rfl]) | (refine call_c (c_eqTradeS _ hs.ht _ ?_) <;> try simp only [go_sem, BEq.rfl]) | (with_reducible refine hQ _ _ ?_ <;> simp only [Tryz.f25, go_sem, BEq.rfl]))
  exact hk
end Go.Proofs.YtedkpjaojdkpcaaGreat
