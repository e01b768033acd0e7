/- EngineLaw: an engine as a law copies, counts, compares and marks it; the law over EngineOk. Conditions: none. -/
import Derived.Test.YtedkpjaojdkpcaaGreatLG
import Derived.Test.YtedkpjaojdkpcaaGreatLT
import Derived.Test.YtedkpjaojdkpcaaGreatLEngineOk
import Derived.Test.YtedkpjaojdkpcaaGreatLRecM
namespace Go.Proofs.YtedkpjaojdkpcaaGreat
open Go.BL Go.RowKit
set_option linter.unusedVariables false
set_option linter.unusedSimpArgs false
set_option maxRecDepth 100000
attribute [local go_sem] accountC balC lotC tradeC booksC booksA fileC diskC engC
theorem c_szEngine (e : Eng) (h : LargeE e) (K : AV → AH → Prop) (hk : ∀ r, (0 ≤ r → SmallE e) → K (.one (.c (.int .i64 (r)))) []) : ACalls Tryz.prog 10 [.agg (engC e), (.one (.c (.int .i64 (1048576))))] [] K := by
  refine acall_c Tryz.f10.results.toList mixed Tryz.func10 rfl rfl (by kernel_rfl) ?_
  intro Q hQ hQO
  simp only [go_sem]
  (try simp only [go_sem]); repeat' (first | (with_reducible refine c_split (fun hb => ?_) (fun hb => ?_) <;> try simp only [go_sem, hb]) | (with_reducible refine w_split (fun hb => ?_) (fun hb => ?_) <;> try simp only [go_sem, hb]) | (refine call_c (c_szDisk e.disk _ h.hz h.hn (by decide) (by decide) _ (fun r1 hr1 => ?_)) <;> try simp only [go_sem]) | (fail))
  · (try simp only [go_sem]); repeat' (first | (with_reducible refine c_split (fun hb => ?_) (fun hb => ?_) <;> try simp only [go_sem, hb]) | (with_reducible refine w_split (fun hb => ?_) (fun hb => ?_) <;> try simp only [go_sem, hb]) | (with_reducible refine hQ _ _ ?_ <;> simp only [Tryz.f10, go_sem]))
    exact hk _ (fun q => by omega)
  have h1 := of_decide_eq_false hb
  have h2 := hr1 (by omega)
  have h3 := roomTo_nonneg e.disk.files e.disk.files.length
  have hn : e.disk.files.length ≤ 1000000000 := by omega
  clear hb
  (try simp only [go_sem]); repeat' (first | (with_reducible refine c_split (fun hb => ?_) (fun hb => ?_) <;> try simp only [go_sem, hb]) | (with_reducible refine w_split (fun hb => ?_) (fun hb => ?_) <;> try simp only [go_sem, hb]) | (refine call_c (c_szBooksG e.books h.hb r1 (by omega) (by omega) _ (fun r2 hr2 => ?_)) <;> try simp only [go_sem]) | (fail))
  · (try simp only [go_sem]); repeat' (first | (with_reducible refine c_split (fun hb => ?_) (fun hb => ?_) <;> try simp only [go_sem, hb]) | (with_reducible refine w_split (fun hb => ?_) (fun hb => ?_) <;> try simp only [go_sem, hb]) | (with_reducible refine hQ _ _ ?_ <;> simp only [Tryz.f10, go_sem]))
    exact hk _ (fun q => by omega)
  · (try simp only [go_sem]); repeat' (first | (with_reducible refine c_split (fun hb => ?_) (fun hb => ?_) <;> try simp only [go_sem, hb]) | (with_reducible refine w_split (fun hb => ?_) (fun hb => ?_) <;> try simp only [go_sem, hb]) | (with_reducible refine hQ _ _ ?_ <;> simp only [Tryz.f10, go_sem]))
    exact hk _ (fun q => ⟨hn, hr2 q⟩)
def engA (e : Eng) : AV := .agg [.c (.bool (e.up)), .c (.int .i64 (e.disk.room)), .sl 0 0 0 e.disk.files.length, .sl 1 0 0 e.books.accounts.length, .sl 2 0 0 e.books.instrs.length, .sl 3 0 0 e.books.bals.length, .sl 4 0 0 e.books.lots.length, .sl 5 0 0 e.books.trades.length, .c (.int .i64 (e.books.lot)), .c (.int .i64 (e.seg)), .c (.int .i64 (e.count))]
theorem c_toEngine (e : Eng) (hs : SmallE e) (K : AV → AH → Prop) (hk : K (engA e) [.own 0 73 3 (some e.disk.files.length) (e.disk.files.map fileC), .own 0 96 2 (some e.books.accounts.length) (e.books.accounts.map accountC), .own 0 97 2 (some e.books.instrs.length) (e.books.instrs.map accountC), .own 0 99 3 (some e.books.bals.length) (e.books.bals.map balC), .own 0 101 5 (some e.books.lots.length) (e.books.lots.map lotC), .own 0 103 8 (some e.books.trades.length) (e.books.trades.map tradeC)]) : ACalls Tryz.prog 12 [.agg (engC e)] [] K := by
  refine acall_c Tryz.f12.results.toList mixed Tryz.func12 rfl rfl (by kernel_rfl) ?_
  intro Q hQ hQO
  simp only [go_sem]
  (try simp only [go_sem]); repeat' (first | (with_reducible refine c_split (fun hb => ?_) (fun hb => ?_) <;> try simp only [go_sem, hb]) | (with_reducible refine w_split (fun hb => ?_) (fun hb => ?_) <;> try simp only [go_sem, hb]) | (refine call_c (c_toDisk e.disk hs.hn _ ?_) <;> try simp only [go_sem]) | (refine call_c (c_toBooks e.books hs.hb _ ?_) <;> try simp only [go_sem]) | (fail))
  refine hQO [3, 4, 5, 6, 7, 8] _ _ (GC.now ?_) <;> simp only [Tryz.f12, go_sem, List.nodup_cons, List.nodup_nil, List.mem_cons, List.not_mem_nil, or_false, not_false_eq_true, List.idxOf?_cons, List.idxOf?_nil, Option.map_none]
  exact hk
theorem c_eqEngine (e : Eng) (hs : SmallE e) (K : AV → AH → Prop) (hk : K (.one (.c (.bool (true)))) []) : ACalls Tryz.prog 14 [.agg (engC e), .agg (engC e)] [] K := by
  have hu : (e.up == e.up) = true := BEq.rfl
  refine acall_c Tryz.f14.results.toList mixed Tryz.func14 rfl rfl (by kernel_rfl) ?_
  intro Q hQ hQO
  simp only [go_sem]
  (try simp only [go_sem, BEq.rfl, bne_self_eq_false, hu]); repeat' (first | (with_reducible refine c_split (fun hb => ?_) (fun hb => ?_) <;> try simp only [go_sem, hb, BEq.rfl, bne_self_eq_false, hu]) | (with_reducible refine w_split (fun hb => ?_) (fun hb => ?_) <;> try simp only [go_sem, hb, BEq.rfl, bne_self_eq_false, hu]) | (refine call_c (c_eqDisk e.disk hs.hn _ ?_) <;> try simp only [go_sem, BEq.rfl, bne_self_eq_false, hu]) | (refine call_c (c_eqBooks e.books hs.hb _ ?_) <;> try simp only [go_sem, BEq.rfl, bne_self_eq_false, hu]) | (with_reducible refine hQ _ _ ?_ <;> simp only [Tryz.f14, go_sem, BEq.rfl, bne_self_eq_false, hu]))
  exact hk
theorem c_FnExactEngineOk (e : Eng) (h : LargeE e) (K : AV → AH → Prop) (hk : K (.one (.c (.bool (true)))) []) : ACalls Tryz.prog 4 [.agg (engC e)] [] K := by
  refine acall_c Tryz.f4.results.toList mixed Tryz.func4 rfl rfl (by kernel_rfl) ?_
  intro Q hQ hQO
  simp only [go_sem]
  (try simp only [go_sem]); repeat' (first | (with_reducible refine c_split (fun hb => ?_) (fun hb => ?_) <;> try simp only [go_sem, hb]) | (with_reducible refine w_split (fun hb => ?_) (fun hb => ?_) <;> try simp only [go_sem, hb]) | (with_reducible refine tw_split (fun hb => ?_) (fun hb => ?_) <;> try simp only [go_sem, hb]) | (with_reducible refine draw_at 0 22 (by with_unfolding_all rfl) [(0, true, true), (1, false, false), (2, false, false), (3, false, true), (4, false, true)] (by kernel_rfl) ?_ <;> try simp only [go_sem]) | (refine call_c (c_szEngine e h _ (fun r hr => ?_)) <;> try simp only [go_sem]) | (fail))
  · (try simp only [go_sem]); repeat' (first | (with_reducible refine c_split (fun hb => ?_) (fun hb => ?_) <;> try simp only [go_sem, hb]) | (with_reducible refine w_split (fun hb => ?_) (fun hb => ?_) <;> try simp only [go_sem, hb]) | (with_reducible refine tw_split (fun hb => ?_) (fun hb => ?_) <;> try simp only [go_sem, hb]) | (with_reducible refine draw_at 0 22 (by with_unfolding_all rfl) [(0, true, true), (1, false, false), (2, false, false), (3, false, true), (4, false, true)] (by kernel_rfl) ?_ <;> try simp only [go_sem]) | (with_reducible refine hQ _ _ ?_ <;> simp only [Tryz.f4, go_sem]))
    exact hk
  have hs : SmallE e := hr (by have := of_decide_eq_false hb; omega)
  clear hb
  (try simp only [go_sem, BEq.rfl, bne_self_eq_false, engA]); repeat' (first | (with_reducible refine c_split (fun hb => ?_) (fun hb => ?_) <;> try simp only [go_sem, hb, BEq.rfl, bne_self_eq_false, engA]) | (with_reducible refine w_split (fun hb => ?_) (fun hb => ?_) <;> try simp only [go_sem, hb, BEq.rfl, bne_self_eq_false, engA]) | (with_reducible refine tw_split (fun hb => ?_) (fun hb => ?_) <;> try simp only [go_sem, hb, BEq.rfl, bne_self_eq_false, engA]) | (with_reducible refine draw_at 0 22 (by with_unfolding_all rfl) [(0, true, true), (1, false, false), (2, false, false), (3, false, true), (4, false, true)] (by kernel_rfl) ?_ <;> try simp only [go_sem, BEq.rfl, bne_self_eq_false, engA]) | (refine call_c (c_toEngine e hs _ ?_) <;> try simp only [go_sem, BEq.rfl, bne_self_eq_false, engA]) | (refine call_c (c_spec_EngineOk e hs _ ?_) <;> try simp only [go_sem, BEq.rfl, bne_self_eq_false, engA]) | (refine call_c (c_impl_EngineOk e hs _ ?_) <;> try simp only [go_sem, BEq.rfl, bne_self_eq_false, engA]) | (refine call_c (c_eqEngine e hs _ ?_) <;> try simp only [go_sem, BEq.rfl, bne_self_eq_false, engA]) | (with_reducible refine hQ _ _ ?_ <;> simp only [Tryz.f4, go_sem, BEq.rfl, bne_self_eq_false, engA]))
  exact hk
end Go.Proofs.YtedkpjaojdkpcaaGreat
