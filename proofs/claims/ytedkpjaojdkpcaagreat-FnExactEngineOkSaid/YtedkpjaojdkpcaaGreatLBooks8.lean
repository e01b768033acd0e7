/- Books8: books that are right, as the program and as the specification says it. Conditions: none. -/
import Derived.Test.YtedkpjaojdkpcaaGreatLG
import Derived.Test.YtedkpjaojdkpcaaGreatLT
import Derived.Test.YtedkpjaojdkpcaaGreatLBooks7
namespace Go.Proofs.YtedkpjaojdkpcaaGreat
open Go.BL Go.RowKit
set_option linter.unusedVariables false
set_option linter.unusedSimpArgs false
set_option maxRecDepth 100000
attribute [local go_sem] accountC balC lotC tradeC booksC
theorem c_IndexFuncTrade (fs : List Trade) (g : Nat) (caps : List Nat) (p : Trade → Bool) (h0 : AH) (K : AV → AH → Prop) (hn : fs.length ≤ 1000000000)
    (hp : ∀ i (hi : i < fs.length) (K' : AV → AH → Prop), K' (.one (.c (.bool (p fs[i])))) h0 → callA Tryz.prog g ([.agg (tradeC fs[i])] ++ caps.map fun l => .one (.pt l 0 0 0)) h0 K')
    (hk : K (.one (.c (.int .i64 (findG p fs)))) h0) : ACalls Tryz.prog 140 [(.one (.im (fs.map tradeC))), .one (.clo g caps)] h0 K := by
  refine acall_m Tryz.f140.results.toList mixed Tryz.func140 rfl rfl (by kernel_rfl) ?_
  intro hwf Q hQ
  simp only [go_sem, ca_clos]
  refine for_at (fs.length) [0, 1, 7] (fun i f h => f 8 = (.one (.c (.int .i64 (i)))) ∧ f 7 = (.one (.c (.int .i64 (fs.length)))) ∧ h = h0 ∧ noneTo p fs i) (GC.now ?_) ?_
  · simp only [go_sem, nc_0, true_and, ca_clos]
    exact noneTo_0 p fs
  · rintro i f h J hi hA ⟨e8, e7, rfl, hP⟩ hJ
    simp only [go_sem, ca_clos] at hA
    simp only [go_sem, hA, e8, e7, ca_clos]
    refine c_split (fun hb => ?_) (fun hb => ?_)
    rotate_left
    · simp only [go_sem, hb, hA, e8, e7, ca_clos]
      obtain rfl := ge_len hb hi
      refine hQ (h) _ _ ?_; refine GC.now (ret_m (by simp only [go_sem, Tryz.f140, hA, e8, e7, ca_clos]; exact _root_.id rfl) (by simp only [go_sem]) (by simp) (by first | exact hwf | exact wf_set hwf (by simp only [go_sem, hA, e8, e7, ca_clos]) | exact wf_set2 hwf (by simp only [go_sem, hA, e8, e7, ca_clos]) (by simp only [go_sem, hA, e8, e7, ca_clos]) | (simp only [go_sem]; done)) (by first | exact ⟨_, _root_.id rfl⟩ | exact ⟨[], (List.append_nil _).symm⟩) ?_) <;> simp only [go_sem, hA, e8, e7, ca_clos]
      rw [findG_no hP] at hk
      exact hk
    have hi := lt_len hb
    have hw := wrap_nat i (by omega)
    have hil : (i : Int) < ((fs.length : Nat) : Int) := Int.ofNat_lt.2 hi
    have hg0 : (fs)[i]? = some ((fs)[i]) := List.getElem?_eq_getElem (by omega)
    simp only [go_sem, hb, hA, e8, e7, ca_clos, hg0]
    try simp only [go_sem, hA, e8, e7, ca_clos, hil, hg0]
    refine hp i hi _ ?_
    simp only [go_sem, hA, e8, e7, ca_clos, hil, hg0]
    (try simp only [go_sem, hA, e8, e7, ca_clos, hil, hg0]); repeat' (first | (with_reducible refine c_split (fun hb => ?_) (fun hb => ?_) <;> try simp only [go_sem, hb, hA, e8, e7, ca_clos, hil, hg0]) | (with_reducible refine w_split (fun hb => ?_) (fun hb => ?_) <;> try simp only [go_sem, hb, hA, e8, e7, ca_clos, hil, hg0]) | (fail))
    · refine hQ (h) _ _ ?_; refine GC.now (ret_m (by simp only [go_sem, Tryz.f140, hA, e8, e7, ca_clos, hil, hg0]; exact _root_.id rfl) (by simp only [go_sem]) (by simp) (by first | exact hwf | exact wf_set hwf (by simp only [go_sem, hA, e8, e7, ca_clos, hil, hg0]) | exact wf_set2 hwf (by simp only [go_sem, hA, e8, e7, ca_clos, hil, hg0]) (by simp only [go_sem, hA, e8, e7, ca_clos, hil, hg0]) | (simp only [go_sem]; done)) (by first | exact ⟨_, _root_.id rfl⟩ | exact ⟨[], (List.append_nil _).symm⟩) ?_) <;> simp only [go_sem, hA, e8, e7, ca_clos, hil, hg0]
      rw [findG_of hP hi hb] at hk
      exact hk
    · refine GC.now (hJ _ _ hi (by simp only [go_sem, hA, e8, e7, ca_clos]) ⟨?_, ?_, ?_, ?_⟩) <;> try simp only [go_sem, hA, e8, e7, ca_clos, hw]
      exact noneTo_s hP hi hb
theorem c_tradesRight1 (t : Trade) (b : Books) (hs : Small b) (h0 : AH) (c : Nat) (hc : h0[c]? = some (.own 0 40 6 (some 1) [booksC b])) (K : AV → AH → Prop) (hk : K (.one (.c (.bool (!trdP b t)))) h0) : ACalls Tryz.prog 130 [.agg (tradeC t), .one (.pt c 0 0 0)] h0 K := by
  refine acall_m Tryz.f130.results.toList mixed Tryz.func130 rfl rfl (by kernel_rfl) ?_
  intro hwf Q hQ
  simp only [go_sem, fun a => h_old a hc]
  (try simp only [go_sem, fun a => h_old a hc]); repeat' (first | (with_reducible refine c_split (fun hb => ?_) (fun hb => ?_) <;> try simp only [go_sem, hb, fun a => h_old a hc]) | (with_reducible refine w_split (fun hb => ?_) (fun hb => ?_) <;> try simp only [go_sem, hb, fun a => h_old a hc]) | (refine call_c (c_accountKind _ _ hs.ha _ ?_) <;> try simp only [go_sem, fun a => h_old a hc]) | (refine call_c (c_instrKind _ _ hs.hi _ ?_) <;> try simp only [go_sem, fun a => h_old a hc]) | (fail))
  · refine hQ (h0) _ _ ?_; refine GC.now (ret_m (by simp only [go_sem, Tryz.f130]; exact _root_.id rfl) (by simp only [go_sem]) (by simp) (by first | exact hwf | exact wf_set hwf (by simp only [go_sem]) | exact wf_set2 hwf (by simp only [go_sem]) (by simp only [go_sem]) | (simp only [go_sem]; done)) (by first | exact ⟨_, _root_.id rfl⟩ | exact ⟨[], (List.append_nil _).symm⟩) ?_) <;> simp only [go_sem]
    exact kB hk (by simp only [trdP]; simp_all)
  · refine hQ (h0) _ _ ?_; refine GC.now (ret_m (by simp only [go_sem, Tryz.f130]; exact _root_.id rfl) (by simp only [go_sem]) (by simp) (by first | exact hwf | exact wf_set hwf (by simp only [go_sem]) | exact wf_set2 hwf (by simp only [go_sem]) (by simp only [go_sem]) | (simp only [go_sem]; done)) (by first | exact ⟨_, _root_.id rfl⟩ | exact ⟨[], (List.append_nil _).symm⟩) ?_) <;> simp only [go_sem]
    exact kB hk (by simp only [trdP]; simp_all)
  · refine hQ (h0) _ _ ?_; refine GC.now (ret_m (by simp only [go_sem, Tryz.f130]; exact _root_.id rfl) (by simp only [go_sem]) (by simp) (by first | exact hwf | exact wf_set hwf (by simp only [go_sem]) | exact wf_set2 hwf (by simp only [go_sem]) (by simp only [go_sem]) | (simp only [go_sem]; done)) (by first | exact ⟨_, _root_.id rfl⟩ | exact ⟨[], (List.append_nil _).symm⟩) ?_) <;> simp only [go_sem]
    exact kB hk (by simp only [trdP]; simp_all)
  · refine hQ (h0) _ _ ?_; refine GC.now (ret_m (by simp only [go_sem, Tryz.f130]; exact _root_.id rfl) (by simp only [go_sem]) (by simp) (by first | exact hwf | exact wf_set hwf (by simp only [go_sem]) | exact wf_set2 hwf (by simp only [go_sem]) (by simp only [go_sem]) | (simp only [go_sem]; done)) (by first | exact ⟨_, _root_.id rfl⟩ | exact ⟨[], (List.append_nil _).symm⟩) ?_) <;> simp only [go_sem]
    exact kB hk (by simp only [trdP]; simp_all)
theorem c_ContainsTrade (xs : List Trade) (g : Nat) (c : Nat) (p : Trade → Bool) (h0 : AH) (K : AV → AH → Prop) (hn : xs.length ≤ 1000000000)
    (hp : ∀ i (hi : i < xs.length) (K' : AV → AH → Prop), K' (.one (.c (.bool (p xs[i])))) h0 → callA Tryz.prog g ([.agg (tradeC xs[i])] ++ [c].map fun l => .one (.pt l 0 0 0)) h0 K')
    (hk : K (.one (.c (.bool (decide (0 ≤ findG p xs))))) h0) : ACalls Tryz.prog 129 [(.one (.im (xs.map tradeC))), .one (.clo g [c])] h0 K := by
  refine acall_m Tryz.f129.results.toList mixed Tryz.func129 rfl rfl (by kernel_rfl) ?_
  intro hwf Q hQ
  simp only [go_sem, ca_clos]
  refine .inr (.inl ⟨rfl, c_IndexFuncTrade xs g [c] p _ _ hn hp ?_⟩)
  simp only [go_sem]
  (try simp only [go_sem]); repeat' (first | (with_reducible refine c_split (fun hb => ?_) (fun hb => ?_) <;> try simp only [go_sem, hb]) | (with_reducible refine w_split (fun hb => ?_) (fun hb => ?_) <;> try simp only [go_sem, hb]) | (fail))
  refine hQ (h0) _ _ ?_; refine GC.now (ret_m (by simp only [go_sem, Tryz.f129]; exact _root_.id rfl) (by simp only [go_sem]) (by simp) (by first | exact hwf | exact wf_set hwf (by simp only [go_sem]) | exact wf_set2 hwf (by simp only [go_sem]) (by simp only [go_sem]) | (simp only [go_sem]; done)) (by first | exact ⟨_, _root_.id rfl⟩ | exact ⟨[], (List.append_nil _).symm⟩) ?_) <;> simp only [go_sem]
  exact hk
theorem findG_all {α : Type} (p : α → Bool) (xs : List α) : (!decide (0 ≤ findG (fun x => !p x) xs)) = xs.all p := by
  cases h : xs.all p with
  | true =>
    have : findG (fun x => !p x) xs = -1 := findG_none fun j hj => by rw [(List.all_eq_true.1 h) _ (List.getElem_mem hj)]; rfl
    rw [this]; rfl
  | false =>
    obtain ⟨x, hx, hp⟩ : ∃ x ∈ xs, p x = false := by
      rcases Classical.em (∃ x ∈ xs, p x = false) with q | q
      · exact q
      · exfalso
        have : xs.all p = true := List.all_eq_true.2 fun x hx => by
          cases hp : p x with
          | true => rfl
          | false => exact absurd ⟨x, hx, hp⟩ q
        rw [this] at h; cases h
    rw [decide_eq_true (findG_hit hx (show (!p x) = true by rw [hp]; rfl))]; rfl
theorem c_tradesRight (b : Books) (hs : Small b) (K : AV → AH → Prop) (hk : K (.one (.c (.bool (b.trades.all (trdP b))))) []) : ACalls Tryz.prog 82 [.agg (booksC b)] [] K := by
  have hst := hs.ht
  refine acall_c Tryz.f82.results.toList mixed Tryz.func82 rfl rfl (by kernel_rfl) ?_
  intro Q hQ hQO
  simp only [go_sem]
  refine call_h (c_ContainsTrade b.trades _ 0 (fun t => !trdP b t) _ _ hst (fun i hi K' hk' => .inr (.inl ⟨rfl, c_tradesRight1 b.trades[i] b hs _ 0 rfl _ hk'⟩)) ?_)
  simp only [go_sem]
  (try simp only [go_sem]); repeat' (first | (with_reducible refine c_split (fun hb => ?_) (fun hb => ?_) <;> try simp only [go_sem, hb]) | (with_reducible refine w_split (fun hb => ?_) (fun hb => ?_) <;> try simp only [go_sem, hb]) | (with_reducible refine hQ _ _ ?_ <;> simp only [Tryz.f82, go_sem]))
  rw [← findG_all] at hk
  exact hk
theorem lots_fine {xs : List Lot} (h : lotsOk xs = true) : Fine xs := by
  rw [lotsOk, Bool.and_eq_true] at h; exact okL_fine h.1
theorem c_impl_BooksOk (b : Books) (hs : Small b) (K : AV → AH → Prop) (hk : K (.one (.c (.bool (booksOk b)))) []) : ACalls Tryz.prog 33 [.agg (booksC b)] [] K := by
  cases hl : listsOk b with
  | true =>
    rw [booksOk, hl, Bool.true_and] at hk
    simp only [listsOk, Bool.and_eq_true] at hl
    obtain ⟨⟨⟨⟨⟨f1, f2⟩, f3⟩, f4⟩, f5⟩, f6⟩ := hl
    refine acall_c Tryz.f33.results.toList mixed Tryz.func33 rfl rfl (by kernel_rfl) ?_
    intro Q hQ hQO
    simp only [go_sem]
    (try simp only [go_sem, f1, f2, f3, f4, f5, f6]); repeat' (first | (with_reducible refine c_split (fun hb => ?_) (fun hb => ?_) <;> try simp only [go_sem, hb, f1, f2, f3, f4, f5, f6]) | (with_reducible refine w_split (fun hb => ?_) (fun hb => ?_) <;> try simp only [go_sem, hb, f1, f2, f3, f4, f5, f6]) | (refine call_c (c_impl_AccountsOk _ hs.ha _ ?_) <;> try simp only [go_sem, f1, f2, f3, f4, f5, f6]) | (refine call_c (c_impl_InstrsOk _ hs.hi _ ?_) <;> try simp only [go_sem, f1, f2, f3, f4, f5, f6]) | (refine call_c (c_impl_BalsOk _ hs.hb _ ?_) <;> try simp only [go_sem, f1, f2, f3, f4, f5, f6]) | (refine call_c (c_impl_LotsOk _ hs.hl _ ?_) <;> try simp only [go_sem, f1, f2, f3, f4, f5, f6]) | (refine call_c (c_impl_TradesOk _ hs.ht _ ?_) <;> try simp only [go_sem, f1, f2, f3, f4, f5, f6]) | (refine call_c (c_in _ _ _ _ ?_) <;> try simp only [go_sem, f1, f2, f3, f4, f5, f6]) | (refine call_c (c_balsRight b hs f3 _ ?_) <;> try simp only [go_sem, f1, f2, f3, f4, f5, f6]) | (refine call_c (c_lotsRight b hs f3 (lots_fine f4) _ ?_) <;> try simp only [go_sem, f1, f2, f3, f4, f5, f6]) | (refine call_c (c_tradesRight b hs _ ?_) <;> try simp only [go_sem, f1, f2, f3, f4, f5, f6]) | (with_reducible refine hQ _ _ ?_ <;> simp only [Tryz.f33, go_sem, f1, f2, f3, f4, f5, f6]))
    all_goals (clear hQ hQO; generalize b.bals.all (brP b) = p1 at *; generalize lotsR b = p2 at *; generalize b.trades.all (trdP b) = p3 at *; exact kB hk (by simp_all))
  | false =>
    rw [booksOk, hl, Bool.false_and, Bool.false_and, Bool.false_and] at hk
    refine acall_c Tryz.f33.results.toList mixed Tryz.func33 rfl rfl (by kernel_rfl) ?_
    intro Q hQ hQO
    simp only [go_sem]
    (try simp only [go_sem]); repeat' (first | (with_reducible refine c_split (fun hb => ?_) (fun hb => ?_) <;> try simp only [go_sem, hb]) | (with_reducible refine w_split (fun hb => ?_) (fun hb => ?_) <;> try simp only [go_sem, hb]) | (refine call_c (c_impl_AccountsOk _ hs.ha _ ?_) <;> try simp only [go_sem]) | (refine call_c (c_impl_InstrsOk _ hs.hi _ ?_) <;> try simp only [go_sem]) | (refine call_c (c_impl_BalsOk _ hs.hb _ ?_) <;> try simp only [go_sem]) | (refine call_c (c_impl_LotsOk _ hs.hl _ ?_) <;> try simp only [go_sem]) | (refine call_c (c_impl_TradesOk _ hs.ht _ ?_) <;> try simp only [go_sem]) | (refine call_c (c_in _ _ _ _ ?_) <;> try simp only [go_sem]) | (with_reducible refine hQ _ _ ?_ <;> simp only [Tryz.f33, go_sem]))
    all_goals first | exact hk | exact (Bool.eq_false_iff.1 hl (by clear hl hQ hQO; simp only [listsOk]; simp_all)).elim
theorem c_BooksOk (b : Books) (hs : Small b) (K : AV → AH → Prop) (hk : K (.one (.c (.bool (booksOk b)))) []) : ACalls Tryz.prog 29 [.agg (booksC b)] [] K := by
  have hst := hs.ht
  cases hl : listsOk b with
  | true =>
    rw [booksOk, hl, Bool.true_and] at hk
    simp only [listsOk, Bool.and_eq_true] at hl
    obtain ⟨⟨⟨⟨⟨f1, f2⟩, f3⟩, f4⟩, f5⟩, f6⟩ := hl
    refine acall_c Tryz.f29.results.toList mixed Tryz.func29 rfl rfl (by kernel_rfl) ?_
    intro Q hQ hQO
    simp only [go_sem]
    cases g1 : b.bals.all (brP b) with
    | false =>
      rw [g1, Bool.false_and, Bool.false_and] at hk
      (try simp only [go_sem, f1, f2, f3, f4, f5, f6, g1]); repeat' (first | (with_reducible refine c_split (fun hb => ?_) (fun hb => ?_) <;> try simp only [go_sem, hb, f1, f2, f3, f4, f5, f6, g1]) | (with_reducible refine w_split (fun hb => ?_) (fun hb => ?_) <;> try simp only [go_sem, hb, f1, f2, f3, f4, f5, f6, g1]) | (refine call_c (c_spec_AccountsOk _ hs.ha _ ?_) <;> try simp only [go_sem, f1, f2, f3, f4, f5, f6, g1]) | (refine call_c (c_spec_InstrsOk _ hs.hi _ ?_) <;> try simp only [go_sem, f1, f2, f3, f4, f5, f6, g1]) | (refine call_c (c_spec_BalsOk _ hs.hb _ ?_) <;> try simp only [go_sem, f1, f2, f3, f4, f5, f6, g1]) | (refine call_c (c_spec_LotsOk _ hs.hl _ ?_) <;> try simp only [go_sem, f1, f2, f3, f4, f5, f6, g1]) | (refine call_c (c_spec_TradesOk _ hs.ht _ ?_) <;> try simp only [go_sem, f1, f2, f3, f4, f5, f6, g1]) | (refine call_c (c_l1In _ _ _ _ ?_) <;> try simp only [go_sem, f1, f2, f3, f4, f5, f6, g1]) | (refine call_c (c_l6Bals b hs f1 f2 f3 _ ?_) <;> try simp only [go_sem, f1, f2, f3, f4, f5, f6, g1]) | (with_reducible refine hQ _ _ ?_ <;> simp only [Tryz.f29, go_sem, f1, f2, f3, f4, f5, f6, g1]))
      exact hk
    | true =>
      cases g2 : lotsR b with
      | false =>
        rw [g1, g2, Bool.true_and, Bool.false_and] at hk
        (try simp only [go_sem, f1, f2, f3, f4, f5, f6, g1, g2]); repeat' (first | (with_reducible refine c_split (fun hb => ?_) (fun hb => ?_) <;> try simp only [go_sem, hb, f1, f2, f3, f4, f5, f6, g1, g2]) | (with_reducible refine w_split (fun hb => ?_) (fun hb => ?_) <;> try simp only [go_sem, hb, f1, f2, f3, f4, f5, f6, g1, g2]) | (refine call_c (c_spec_AccountsOk _ hs.ha _ ?_) <;> try simp only [go_sem, f1, f2, f3, f4, f5, f6, g1, g2]) | (refine call_c (c_spec_InstrsOk _ hs.hi _ ?_) <;> try simp only [go_sem, f1, f2, f3, f4, f5, f6, g1, g2]) | (refine call_c (c_spec_BalsOk _ hs.hb _ ?_) <;> try simp only [go_sem, f1, f2, f3, f4, f5, f6, g1, g2]) | (refine call_c (c_spec_LotsOk _ hs.hl _ ?_) <;> try simp only [go_sem, f1, f2, f3, f4, f5, f6, g1, g2]) | (refine call_c (c_spec_TradesOk _ hs.ht _ ?_) <;> try simp only [go_sem, f1, f2, f3, f4, f5, f6, g1, g2]) | (refine call_c (c_l1In _ _ _ _ ?_) <;> try simp only [go_sem, f1, f2, f3, f4, f5, f6, g1, g2]) | (refine call_c (c_l6Bals b hs f1 f2 f3 _ ?_) <;> try simp only [go_sem, f1, f2, f3, f4, f5, f6, g1, g2]) | (refine call_c (c_l6Lots b hs f1 f2 (lots_fine f4) _ ?_) <;> try simp only [go_sem, f1, f2, f3, f4, f5, f6, g1, g2]) | (with_reducible refine hQ _ _ ?_ <;> simp only [Tryz.f29, go_sem, f1, f2, f3, f4, f5, f6, g1, g2]))
        exact hk
      | true =>
        rw [g1, g2, Bool.true_and, Bool.true_and] at hk
        (try simp only [go_sem, f1, f2, f3, f4, f5, f6, g1, g2]); repeat' (first | (with_reducible refine c_split (fun hb => ?_) (fun hb => ?_) <;> try simp only [go_sem, hb, f1, f2, f3, f4, f5, f6, g1, g2]) | (with_reducible refine w_split (fun hb => ?_) (fun hb => ?_) <;> try simp only [go_sem, hb, f1, f2, f3, f4, f5, f6, g1, g2]) | (refine call_c (c_spec_AccountsOk _ hs.ha _ ?_) <;> try simp only [go_sem, f1, f2, f3, f4, f5, f6, g1, g2]) | (refine call_c (c_spec_InstrsOk _ hs.hi _ ?_) <;> try simp only [go_sem, f1, f2, f3, f4, f5, f6, g1, g2]) | (refine call_c (c_spec_BalsOk _ hs.hb _ ?_) <;> try simp only [go_sem, f1, f2, f3, f4, f5, f6, g1, g2]) | (refine call_c (c_spec_LotsOk _ hs.hl _ ?_) <;> try simp only [go_sem, f1, f2, f3, f4, f5, f6, g1, g2]) | (refine call_c (c_spec_TradesOk _ hs.ht _ ?_) <;> try simp only [go_sem, f1, f2, f3, f4, f5, f6, g1, g2]) | (refine call_c (c_l1In _ _ _ _ ?_) <;> try simp only [go_sem, f1, f2, f3, f4, f5, f6, g1, g2]) | (refine call_c (c_l6Bals b hs f1 f2 f3 _ ?_) <;> try simp only [go_sem, f1, f2, f3, f4, f5, f6, g1, g2]) | (refine call_c (c_l6Lots b hs f1 f2 (lots_fine f4) _ ?_) <;> try simp only [go_sem, f1, f2, f3, f4, f5, f6, g1, g2]) | (fail))
        refine for_at (b.trades.length) [1] (fun i f h => f 3 = (.one (.c (.int .i64 (i)))) ∧ h = [.own 0 40 6 (some 1) [booksC b]] ∧ noneTo (fun t => !trdP b t) b.trades i) (GC.now ?_) ?_
        · simp only [go_sem, nc_0, true_and]
          exact noneTo_0 _ _
        · rintro i f h J hi hA ⟨e3, rfl, hP⟩ hJ
          simp only [go_sem] at hA
          simp only [go_sem, hA, e3]
          refine c_split (fun hb => ?_) (fun hb => ?_)
          rotate_left
          · simp only [go_sem, hb, hA, e3]
            obtain rfl := ge_len hb hi
            (try simp only [go_sem, hA, e3]); repeat' (first | (with_reducible refine c_split (fun hb => ?_) (fun hb => ?_) <;> try simp only [go_sem, hb, hA, e3]) | (with_reducible refine w_split (fun hb => ?_) (fun hb => ?_) <;> try simp only [go_sem, hb, hA, e3]) | (with_reducible refine hQ _ _ ?_ <;> simp only [Tryz.f29, go_sem, hA, e3]))
            rw [all_no hP] at hk
            exact hk
          have hi := lt_len hb
          have hw := wrap_nat i (by omega)
          have hil : (i : Int) < ((b.trades.length : Nat) : Int) := Int.ofNat_lt.2 hi
          have hg0 : (b.trades)[i]? = some ((b.trades)[i]) := List.getElem?_eq_getElem (by omega)
          simp only [go_sem, hb, hA, e3, hg0]
          try simp only [go_sem, hA, e3, hil, hg0]
          cases hr : trdP b b.trades[i] with
          | true =>
            have htr := hr
            simp only [trdP, Bool.and_eq_true] at hr
            obtain ⟨⟨⟨t1, t2⟩, t3⟩, t4⟩ := hr
            (try simp only [go_sem, hA, e3, hil, hg0, t1, t2, t3, t4]); repeat' (first | (with_reducible refine c_split (fun hb => ?_) (fun hb => ?_) <;> try simp only [go_sem, hb, hA, e3, hil, hg0, t1, t2, t3, t4]) | (with_reducible refine w_split (fun hb => ?_) (fun hb => ?_) <;> try simp only [go_sem, hb, hA, e3, hil, hg0, t1, t2, t3, t4]) | (refine call_c (c_AccountKind _ _ hs.ha f1 _ ?_) <;> try simp only [go_sem, hA, e3, hil, hg0, t1, t2, t3, t4]) | (refine call_c (c_InstrKind _ _ hs.hi f2 _ ?_) <;> try simp only [go_sem, hA, e3, hil, hg0, t1, t2, t3, t4]) | (fail))
            refine gc_trim 1 (by decide) (by simp only [go_sem]) (by simp only [go_sem]) (hJ _ _ hi (by simp only [go_sem, hA, e3]) ⟨?_, ?_, ?_⟩) <;> try simp only [go_sem, hA, e3, hw]
            exact noneTo_s hP hi (not_ff htr)
          | false =>
            rw [all_bad hi hr] at hk
            (try simp only [go_sem, hA, e3, hil, hg0]); repeat' (first | (with_reducible refine c_split (fun hb => ?_) (fun hb => ?_) <;> try simp only [go_sem, hb, hA, e3, hil, hg0]) | (with_reducible refine w_split (fun hb => ?_) (fun hb => ?_) <;> try simp only [go_sem, hb, hA, e3, hil, hg0]) | (refine call_c (c_AccountKind _ _ hs.ha f1 _ ?_) <;> try simp only [go_sem, hA, e3, hil, hg0]) | (refine call_c (c_InstrKind _ _ hs.hi f2 _ ?_) <;> try simp only [go_sem, hA, e3, hil, hg0]) | (with_reducible refine hQ _ _ ?_ <;> simp only [Tryz.f29, go_sem, hA, e3, hil, hg0]))
            all_goals first | exact hk | exact (Bool.eq_false_iff.1 hr (by clear hr hJ hA hQ hQO; simp only [trdP]; simp_all)).elim
  | false =>
    rw [booksOk, hl, Bool.false_and, Bool.false_and, Bool.false_and] at hk
    refine acall_c Tryz.f29.results.toList mixed Tryz.func29 rfl rfl (by kernel_rfl) ?_
    intro Q hQ hQO
    simp only [go_sem]
    (try simp only [go_sem]); repeat' (first | (with_reducible refine c_split (fun hb => ?_) (fun hb => ?_) <;> try simp only [go_sem, hb]) | (with_reducible refine w_split (fun hb => ?_) (fun hb => ?_) <;> try simp only [go_sem, hb]) | (refine call_c (c_spec_AccountsOk _ hs.ha _ ?_) <;> try simp only [go_sem]) | (refine call_c (c_spec_InstrsOk _ hs.hi _ ?_) <;> try simp only [go_sem]) | (refine call_c (c_spec_BalsOk _ hs.hb _ ?_) <;> try simp only [go_sem]) | (refine call_c (c_spec_LotsOk _ hs.hl _ ?_) <;> try simp only [go_sem]) | (refine call_c (c_spec_TradesOk _ hs.ht _ ?_) <;> try simp only [go_sem]) | (refine call_c (c_l1In _ _ _ _ ?_) <;> try simp only [go_sem]) | (with_reducible refine hQ _ _ ?_ <;> simp only [Tryz.f29, go_sem]))
    all_goals first | exact hk | exact (Bool.eq_false_iff.1 hl (by clear hl hQ hQO; simp only [listsOk]; simp_all)).elim
end Go.Proofs.YtedkpjaojdkpcaaGreat
