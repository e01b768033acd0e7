/- SavePack: a save as a text, as the program and as the specification packs it. Conditions: none. -/
import Derived.Test.YtedkpjaojdkpcaaGreatLG
import Derived.Test.YtedkpjaojdkpcaaGreatLT
import Derived.Test.YtedkpjaojdkpcaaGreatLPack
import Derived.Test.YtedkpjaojdkpcaaGreatLEngine
namespace Go.Proofs.YtedkpjaojdkpcaaGreat
open Go.BL Go.RowKit
set_option linter.unusedVariables false
set_option linter.unusedSimpArgs false
set_option maxRecDepth 100000
attribute [local go_sem] accountC balC lotC tradeC booksC booksA saveC byteC
def saveBody (s : Save) : List UInt8 := putNum s.from_ ++ packS s.books
def saveGood (s : Save) : Bool := booksOk s.books && decide (0 ≤ s.from_ ∧ s.from_ ≤ 19) && !decide (9000 < (saveBody s).length)
def saveT (s : Save) : ByteArray := if saveGood s = true then ⟨(sealS (saveBody s)).1.toArray⟩ else ⟨#[]⟩
theorem save_sealed {s : Save} (h1 : booksOk s.books = true) (h2 : decide (0 ≤ s.from_ ∧ s.from_ ≤ 19) = true) : saveGood s = (sealS (saveBody s)).2 ∧ saveT s = ⟨(sealS (saveBody s)).1.toArray⟩ := by
  unfold saveT saveGood sealS
  rw [h1, h2]
  by_cases h : 9000 < (saveBody s).length
  · simp [h]
  · simp [h]
theorem save_len {s : Save} (h1 : booksOk s.books = true) (h2 : decide (0 ≤ s.from_ ∧ s.from_ ≤ 19) = true) : (saveBody s).length ≤ 1000000 ∧ (putNum s.from_).length ≤ 10 := by
  have h3 := of_decide_eq_true h2
  have := packS_len h1
  have h4 := putN_le10 (n := s.from_) (by omega)
  rw [saveBody, List.length_append]
  omega
theorem save_room {p q : List UInt8} (h1 : p.length ≤ 10) (h2 : q.length ≤ 20000) : ((p.map byteC).length + (q.map byteC).length) * 1 ≤ 140737488355328 := by rw [List.length_map, List.length_map]; omega
theorem c_impl_SavePack (s : Save) (hs : Small s.books) (K : AV → AH → Prop) (hk : K (.tup [(.one (.c (.string (saveT s)))), (.one (.c (.bool (saveGood s))))]) []) : ACalls Tryz.prog 8 [.agg (saveC s)] [] K := by
  refine acall_c Tryz.f8.results.toList mixed Tryz.func8 rfl rfl (by kernel_rfl) ?_
  intro Q hQ hQO
  simp only [go_sem]
  cases h1 : booksOk s.books with
  | false =>
    have e : saveGood s = false := by rw [saveGood, h1]; rfl
    rw [saveT, e, if_neg (by decide)] at hk
    (try simp only [go_sem, h1]); repeat' (first | (with_reducible refine c_split (fun hb => ?_) (fun hb => ?_) <;> try simp only [go_sem, hb, h1]) | (with_reducible refine w_split (fun hb => ?_) (fun hb => ?_) <;> try simp only [go_sem, hb, h1]) | (refine call_c (c_impl_BooksPack s.books hs _ ?_) <;> try simp only [go_sem, h1]) | (with_reducible refine hQ _ _ ?_ <;> simp only [Tryz.f8, go_sem, h1]))
    exact hk
  | true =>
    cases h2 : decide (0 ≤ s.from_ ∧ s.from_ ≤ 19) with
    | false =>
      have e : saveGood s = false := by rw [saveGood, h1, h2]; rfl
      rw [saveT, e, if_neg (by decide)] at hk
      (try simp only [go_sem, h1, h2]); repeat' (first | (with_reducible refine c_split (fun hb => ?_) (fun hb => ?_) <;> try simp only [go_sem, hb, h1, h2]) | (with_reducible refine w_split (fun hb => ?_) (fun hb => ?_) <;> try simp only [go_sem, hb, h1, h2]) | (refine call_c (c_impl_BooksPack s.books hs _ ?_) <;> try simp only [go_sem, h1, h2]) | (refine call_c (c_isSeg _ _ ?_) <;> try simp only [go_sem, h1, h2]) | (with_reducible refine hQ _ _ ?_ <;> simp only [Tryz.f8, go_sem, h1, h2]))
      exact hk
    | true =>
      obtain ⟨e1, e2⟩ := save_sealed h1 h2
      obtain ⟨hl, hl2⟩ := save_len h1 h2
      have hfr := of_decide_eq_true h2
      rw [e1, e2] at hk
      have hsb : saveBody s = putNum s.from_ ++ packS s.books := rfl
      have cS := fun K' hk' => c_impl_Seal (saveBody s) (Nat.le_trans hl (by decide)) K' hk'
      rw [hsb] at cS
      have hso : strOf (List.map (fun b => (b.toNat : Int)) (sealS (saveBody s)).1) = (⟨(sealS (saveBody s)).1.toArray⟩ : ByteArray) := so_map _
      rw [hsb] at hk hso
      (try simp only [go_sem, h1, h2]); repeat' (first | (with_reducible refine c_split (fun hb => ?_) (fun hb => ?_) <;> try simp only [go_sem, hb, h1, h2]) | (with_reducible refine w_split (fun hb => ?_) (fun hb => ?_) <;> try simp only [go_sem, hb, h1, h2]) | (refine call_c (c_impl_BooksPack s.books hs _ ?_) <;> try simp only [go_sem, h1, h2]) | (refine call_c (c_isSeg _ _ ?_) <;> try simp only [go_sem, h1, h2]) | (refine call_c (c_impl_PutNum s.from_ (by omega) _ ?_) <;> try simp only [go_sem, h1, h2]) | (fail))
      refine ap_end rfl (List.length_map ..).symm (save_room hl2 (packS_len h1)) ?_
      simp only [go_sem]
      have htk : List.take ((putNum s.from_).length + (packS s.books).length) (List.map byteC (putNum s.from_) ++ List.map byteC (packS s.books)) = List.map byteC (putNum s.from_ ++ packS s.books) := by rw [← List.map_append]; exact List.take_of_length_le (by simp)
      cases hg : (sealS (putNum s.from_ ++ packS s.books)).2 with
      | false =>
        have hem : (sealS (putNum s.from_ ++ packS s.books)).1 = [] := by
          unfold sealS at hg ⊢
          split at hg
          · rename_i q; rw [if_pos q]
          · cases hg
        rw [hg, hem] at hk
        rw [hem] at hso
        (try simp only [go_sem, List.length_map, htk, sealR, hg, hem, bo_map, so_some, hso, bytesE_map]); repeat' (first | (with_reducible refine c_split (fun hb => ?_) (fun hb => ?_) <;> try simp only [go_sem, hb, List.length_map, htk, sealR, hg, hem, bo_map, so_some, hso, bytesE_map]) | (with_reducible refine w_split (fun hb => ?_) (fun hb => ?_) <;> try simp only [go_sem, hb, List.length_map, htk, sealR, hg, hem, bo_map, so_some, hso, bytesE_map]) | (refine call_c (cS _ ?_) <;> try simp only [go_sem, List.length_map, htk, sealR, hg, hem, bo_map, so_some, hso, bytesE_map]) | (with_reducible refine hQ _ _ ?_ <;> simp only [Tryz.f8, go_sem, List.length_map, htk, sealR, hg, hem, bo_map, so_some, hso, bytesE_map]))
        exact hk
      | true =>
        rw [hg] at hk
        (try simp only [go_sem, List.length_map, htk, sealR, hg, bo_map, so_some, hso, bytesE_map]); repeat' (first | (with_reducible refine c_split (fun hb => ?_) (fun hb => ?_) <;> try simp only [go_sem, hb, List.length_map, htk, sealR, hg, bo_map, so_some, hso, bytesE_map]) | (with_reducible refine w_split (fun hb => ?_) (fun hb => ?_) <;> try simp only [go_sem, hb, List.length_map, htk, sealR, hg, bo_map, so_some, hso, bytesE_map]) | (refine call_c (cS _ ?_) <;> try simp only [go_sem, List.length_map, htk, sealR, hg, bo_map, so_some, hso, bytesE_map]) | (with_reducible refine hQ _ _ ?_ <;> simp only [Tryz.f8, go_sem, List.length_map, htk, sealR, hg, bo_map, so_some, hso, bytesE_map]))
        exact hk
theorem c_spec_SavePack (s : Save) (hs : Small s.books) (K : AV → AH → Prop) (hk : K (.tup [(.one (.c (.string (saveT s)))), (.one (.c (.bool (saveGood s))))]) []) : ACalls Tryz.prog 6 [.agg (saveC s)] [] K := by
  refine acall_c Tryz.f6.results.toList mixed Tryz.func6 rfl rfl (by kernel_rfl) ?_
  intro Q hQ hQO
  simp only [go_sem]
  cases h1 : booksOk s.books with
  | false =>
    have e : saveGood s = false := by rw [saveGood, h1]; rfl
    rw [saveT, e, if_neg (by decide)] at hk
    (try simp only [go_sem, h1]); repeat' (first | (with_reducible refine c_split (fun hb => ?_) (fun hb => ?_) <;> try simp only [go_sem, hb, h1]) | (with_reducible refine w_split (fun hb => ?_) (fun hb => ?_) <;> try simp only [go_sem, hb, h1]) | (refine call_c (c_spec_BooksPack s.books hs _ ?_) <;> try simp only [go_sem, h1]) | (with_reducible refine hQ _ _ ?_ <;> simp only [Tryz.f6, go_sem, h1]))
    exact hk
  | true =>
    cases h2 : decide (0 ≤ s.from_ ∧ s.from_ ≤ 19) with
    | false =>
      have e : saveGood s = false := by rw [saveGood, h1, h2]; rfl
      rw [saveT, e, if_neg (by decide)] at hk
      (try simp only [go_sem, h1, h2]); repeat' (first | (with_reducible refine c_split (fun hb => ?_) (fun hb => ?_) <;> try simp only [go_sem, hb, h1, h2]) | (with_reducible refine w_split (fun hb => ?_) (fun hb => ?_) <;> try simp only [go_sem, hb, h1, h2]) | (refine call_c (c_spec_BooksPack s.books hs _ ?_) <;> try simp only [go_sem, h1, h2]) | (refine call_c (c_l15Seg _ _ ?_) <;> try simp only [go_sem, h1, h2]) | (with_reducible refine hQ _ _ ?_ <;> simp only [Tryz.f6, go_sem, h1, h2]))
      exact hk
    | true =>
      obtain ⟨e1, e2⟩ := save_sealed h1 h2
      obtain ⟨hl, hl2⟩ := save_len h1 h2
      have hfr := of_decide_eq_true h2
      rw [e1, e2] at hk
      have hsb : saveBody s = putNum s.from_ ++ packS s.books := rfl
      have cS := fun K' hk' => c_spec_Seal (saveBody s) (Nat.le_trans hl (by decide)) K' hk'
      rw [hsb] at cS
      have hso : strOf (List.map (fun b => (b.toNat : Int)) (sealS (saveBody s)).1) = (⟨(sealS (saveBody s)).1.toArray⟩ : ByteArray) := so_map _
      rw [hsb] at hk hso
      (try simp only [go_sem, h1, h2]); repeat' (first | (with_reducible refine c_split (fun hb => ?_) (fun hb => ?_) <;> try simp only [go_sem, hb, h1, h2]) | (with_reducible refine w_split (fun hb => ?_) (fun hb => ?_) <;> try simp only [go_sem, hb, h1, h2]) | (refine call_c (c_spec_BooksPack s.books hs _ ?_) <;> try simp only [go_sem, h1, h2]) | (refine call_c (c_l15Seg _ _ ?_) <;> try simp only [go_sem, h1, h2]) | (refine call_c (c_spec_PutNum s.from_ (by omega) _ ?_) <;> try simp only [go_sem, h1, h2]) | (fail))
      refine ap_end rfl (List.length_map ..).symm (save_room hl2 (packS_len h1)) ?_
      simp only [go_sem]
      have htk : List.take ((putNum s.from_).length + (packS s.books).length) (List.map byteC (putNum s.from_) ++ List.map byteC (packS s.books)) = List.map byteC (putNum s.from_ ++ packS s.books) := by rw [← List.map_append]; exact List.take_of_length_le (by simp)
      cases hg : (sealS (putNum s.from_ ++ packS s.books)).2 with
      | false =>
        have hem : (sealS (putNum s.from_ ++ packS s.books)).1 = [] := by
          unfold sealS at hg ⊢
          split at hg
          · rename_i q; rw [if_pos q]
          · cases hg
        rw [hg, hem] at hk
        rw [hem] at hso
        (try simp only [go_sem, List.length_map, htk, sealR, hg, hem, bo_map, so_some, hso, bytesE_map]); repeat' (first | (with_reducible refine c_split (fun hb => ?_) (fun hb => ?_) <;> try simp only [go_sem, hb, List.length_map, htk, sealR, hg, hem, bo_map, so_some, hso, bytesE_map]) | (with_reducible refine w_split (fun hb => ?_) (fun hb => ?_) <;> try simp only [go_sem, hb, List.length_map, htk, sealR, hg, hem, bo_map, so_some, hso, bytesE_map]) | (refine call_c (cS _ ?_) <;> try simp only [go_sem, List.length_map, htk, sealR, hg, hem, bo_map, so_some, hso, bytesE_map]) | (with_reducible refine hQ _ _ ?_ <;> simp only [Tryz.f6, go_sem, List.length_map, htk, sealR, hg, hem, bo_map, so_some, hso, bytesE_map]))
        exact hk
      | true =>
        rw [hg] at hk
        (try simp only [go_sem, List.length_map, htk, sealR, hg, bo_map, so_some, hso, bytesE_map]); repeat' (first | (with_reducible refine c_split (fun hb => ?_) (fun hb => ?_) <;> try simp only [go_sem, hb, List.length_map, htk, sealR, hg, bo_map, so_some, hso, bytesE_map]) | (with_reducible refine w_split (fun hb => ?_) (fun hb => ?_) <;> try simp only [go_sem, hb, List.length_map, htk, sealR, hg, bo_map, so_some, hso, bytesE_map]) | (refine call_c (cS _ ?_) <;> try simp only [go_sem, List.length_map, htk, sealR, hg, bo_map, so_some, hso, bytesE_map]) | (with_reducible refine hQ _ _ ?_ <;> simp only [Tryz.f6, go_sem, List.length_map, htk, sealR, hg, bo_map, so_some, hso, bytesE_map]))
        exact hk
theorem c_szSave (s : Save) (h : Large s.books) (K : AV → AH → Prop) (hk : ∀ r, (0 ≤ r → Small s.books) → K (.one (.c (.int .i64 (r)))) []) : ACalls Tryz.prog 5 [.agg (saveC s), (.one (.c (.int .i64 (1048576))))] [] K := by
  refine acall_c Tryz.f5.results.toList mixed Tryz.func5 rfl rfl (by kernel_rfl) ?_
  intro Q hQ hQO
  simp only [go_sem]
  (try simp only [go_sem]); repeat' (first | (with_reducible refine c_split (fun hb => ?_) (fun hb => ?_) <;> try simp only [go_sem, hb]) | (with_reducible refine w_split (fun hb => ?_) (fun hb => ?_) <;> try simp only [go_sem, hb]) | (refine call_c (c_szBooks s.books h _ (fun r hr => ?_)) <;> try simp only [go_sem]) | (fail))
  · (try simp only [go_sem]); repeat' (first | (with_reducible refine c_split (fun hb => ?_) (fun hb => ?_) <;> try simp only [go_sem, hb]) | (with_reducible refine w_split (fun hb => ?_) (fun hb => ?_) <;> try simp only [go_sem, hb]) | (with_reducible refine hQ _ _ ?_ <;> simp only [Tryz.f5, go_sem]))
    exact hk _ (fun q => by omega)
  · (try simp only [go_sem]); repeat' (first | (with_reducible refine c_split (fun hb => ?_) (fun hb => ?_) <;> try simp only [go_sem, hb]) | (with_reducible refine w_split (fun hb => ?_) (fun hb => ?_) <;> try simp only [go_sem, hb]) | (with_reducible refine hQ _ _ ?_ <;> simp only [Tryz.f5, go_sem]))
    exact hk _ hr
def saveA (s : Save) : AV := .agg [.c (.int .i64 (s.from_)), .sl 0 0 0 s.books.accounts.length, .sl 1 0 0 s.books.instrs.length, .sl 2 0 0 s.books.bals.length, .sl 3 0 0 s.books.lots.length, .sl 4 0 0 s.books.trades.length, .c (.int .i64 (s.books.lot))]
theorem c_toSave (s : Save) (hs : Small s.books) (K : AV → AH → Prop) (hk : K (saveA s) [.own 0 96 2 (some s.books.accounts.length) (s.books.accounts.map accountC), .own 0 97 2 (some s.books.instrs.length) (s.books.instrs.map accountC), .own 0 99 3 (some s.books.bals.length) (s.books.bals.map balC), .own 0 101 5 (some s.books.lots.length) (s.books.lots.map lotC), .own 0 103 8 (some s.books.trades.length) (s.books.trades.map tradeC)]) : ACalls Tryz.prog 7 [.agg (saveC s)] [] K := by
  refine acall_c Tryz.f7.results.toList mixed Tryz.func7 rfl rfl (by kernel_rfl) ?_
  intro Q hQ hQO
  simp only [go_sem]
  (try simp only [go_sem]); repeat' (first | (with_reducible refine c_split (fun hb => ?_) (fun hb => ?_) <;> try simp only [go_sem, hb]) | (with_reducible refine w_split (fun hb => ?_) (fun hb => ?_) <;> try simp only [go_sem, hb]) | (refine call_c (c_toBooks s.books hs _ ?_) <;> try simp only [go_sem]) | (fail))
  refine hQO [3, 4, 5, 6, 7] _ _ (GC.now ?_) <;> simp only [Tryz.f7, go_sem, List.nodup_cons, List.nodup_nil, List.mem_cons, List.not_mem_nil, or_false, not_false_eq_true, List.idxOf?_cons, List.idxOf?_nil, Option.map_none]
  exact hk
theorem c_eqSave (s : Save) (hs : Small s.books) (K : AV → AH → Prop) (hk : K (.one (.c (.bool (true)))) []) : ACalls Tryz.prog 9 [.agg (saveC s), .agg (saveC s)] [] K := by
  refine acall_c Tryz.f9.results.toList mixed Tryz.func9 rfl rfl (by kernel_rfl) ?_
  intro Q hQ hQO
  simp only [go_sem]
  (try simp only [go_sem, BEq.rfl]); repeat' (first | (with_reducible refine c_split (fun hb => ?_) (fun hb => ?_) <;> try simp only [go_sem, hb, BEq.rfl]) | (with_reducible refine w_split (fun hb => ?_) (fun hb => ?_) <;> try simp only [go_sem, hb, BEq.rfl]) | (refine call_c (c_eqBooks s.books hs _ ?_) <;> try simp only [go_sem, BEq.rfl]) | (with_reducible refine hQ _ _ ?_ <;> simp only [Tryz.f9, go_sem, BEq.rfl]))
  exact hk
theorem c_FnExactSavePack (s : Save) (h : Large s.books) (K : AV → AH → Prop) (hk : K (.one (.c (.bool (true)))) []) : ACalls Tryz.prog 3 [.agg (saveC s)] [] K := by
  refine acall_c Tryz.f3.results.toList mixed Tryz.func3 rfl rfl (by kernel_rfl) ?_
  intro Q hQ hQO
  simp only [go_sem]
  (try simp only [go_sem]); repeat' (first | (with_reducible refine c_split (fun hb => ?_) (fun hb => ?_) <;> try simp only [go_sem, hb]) | (with_reducible refine w_split (fun hb => ?_) (fun hb => ?_) <;> try simp only [go_sem, hb]) | (with_reducible refine tw_split (fun hb => ?_) (fun hb => ?_) <;> try simp only [go_sem, hb]) | (with_reducible refine draw_at 0 35 (by with_unfolding_all rfl) [(0, true, true), (1, false, false), (2, false, false), (3, false, true), (4, false, true)] (by kernel_rfl) ?_ <;> try simp only [go_sem]) | (refine call_c (c_szSave s h _ (fun r hr => ?_)) <;> try simp only [go_sem]) | (fail))
  · (try simp only [go_sem]); repeat' (first | (with_reducible refine c_split (fun hb => ?_) (fun hb => ?_) <;> try simp only [go_sem, hb]) | (with_reducible refine w_split (fun hb => ?_) (fun hb => ?_) <;> try simp only [go_sem, hb]) | (with_reducible refine tw_split (fun hb => ?_) (fun hb => ?_) <;> try simp only [go_sem, hb]) | (with_reducible refine draw_at 0 35 (by with_unfolding_all rfl) [(0, true, true), (1, false, false), (2, false, false), (3, false, true), (4, false, true)] (by kernel_rfl) ?_ <;> try simp only [go_sem]) | (with_reducible refine hQ _ _ ?_ <;> simp only [Tryz.f3, go_sem]))
    exact hk
  have hs : Small s.books := hr (by have := of_decide_eq_false hb; omega)
  clear hb
  generalize ht : saveT s = t
  generalize hz : saveGood s = z
  have c1 := fun K' hk' => c_spec_SavePack s hs K' hk'
  have c2 := fun K' hk' => c_impl_SavePack s hs K' hk'
  rw [ht, hz] at c1 c2
  (try simp only [go_sem, BEq.rfl, bne_self_eq_false, decide_true, saveA]); repeat' (first | (with_reducible refine c_split (fun hb => ?_) (fun hb => ?_) <;> try simp only [go_sem, hb, BEq.rfl, bne_self_eq_false, decide_true, saveA]) | (with_reducible refine w_split (fun hb => ?_) (fun hb => ?_) <;> try simp only [go_sem, hb, BEq.rfl, bne_self_eq_false, decide_true, saveA]) | (with_reducible refine tw_split (fun hb => ?_) (fun hb => ?_) <;> try simp only [go_sem, hb, BEq.rfl, bne_self_eq_false, decide_true, saveA]) | (with_reducible refine draw_at 0 35 (by with_unfolding_all rfl) [(0, true, true), (1, false, false), (2, false, false), (3, false, true), (4, false, true)] (by kernel_rfl) ?_ <;> try simp only [go_sem, BEq.rfl, bne_self_eq_false, decide_true, saveA]) | (refine call_c (c_toSave s hs _ ?_) <;> try simp only [go_sem, BEq.rfl, bne_self_eq_false, decide_true, saveA]) | (refine call_c (c1 _ ?_) <;> try simp only [go_sem, BEq.rfl, bne_self_eq_false, decide_true, saveA]) | (refine call_c (c2 _ ?_) <;> try simp only [go_sem, BEq.rfl, bne_self_eq_false, decide_true, saveA]) | (refine call_c (c_eqSave s hs _ ?_) <;> try simp only [go_sem, BEq.rfl, bne_self_eq_false, decide_true, saveA]) | (with_reducible refine hQ _ _ ?_ <;> simp only [Tryz.f3, go_sem, BEq.rfl, bne_self_eq_false, decide_true, saveA]))
  exact hk
end Go.Proofs.YtedkpjaojdkpcaaGreat
