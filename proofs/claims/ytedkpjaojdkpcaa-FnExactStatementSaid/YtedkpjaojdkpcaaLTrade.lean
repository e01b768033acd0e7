/- Trade: a trade by its number, and the word that is told of it. Conditions: none. -/
import Derived.Test.YtedkpjaojdkpcaaLG
import Derived.Test.YtedkpjaojdkpcaaLT
import Derived.Test.YtedkpjaojdkpcaaLBooksLaw
namespace Go.Proofs.Ytedkpjaojdkpcaa
open Go.BL Go.RowKit
set_option linter.unusedVariables false
set_option linter.unusedSimpArgs false
set_option maxRecDepth 100000
attribute [local go_sem] accountC balC lotC tradeC booksC booksA
theorem booksOk_parts {b : Books} (h : booksOk b = true) : accountsOk b.accounts = true ∧ instrsOk b.instrs = true ∧ balsOk b.bals = true ∧ lotsOk b.lots = true ∧ tradesOk b.trades = true := by
  simp only [booksOk, listsOk, Bool.and_eq_true] at h
  obtain ⟨⟨⟨⟨⟨⟨⟨⟨h1, h2⟩, h3⟩, h4⟩, h5⟩, _⟩, _⟩, _⟩, _⟩ := h
  exact ⟨h1, h2, h3, h4, h5⟩
theorem m1_neg : decide ((-1 : Int) < 0) = true := rfl
def zeroT : Trade := ⟨0, 0, 0, 0, 0, 0, 0, 0⟩
def trIs (no : Int) (t : Trade) : Bool := t.no == no
def tradeR (b : Books) (no : Int) : Option Trade := if booksOk b = true then b.trades.find? (trIs no) else none
def tradeV : Option Trade → AV
  | some t => .tup [.agg (tradeC t), (.one (.c (.bool (true))))]
  | none => .tup [.agg (tradeC zeroT), (.one (.c (.bool (false))))]
theorem findO_cases {α : Type} (p : α → Bool) (xs : List α) : (∃ (k : Nat) (hk : k < xs.length), findG p xs = k ∧ xs.find? p = some xs[k]) ∨ findG p xs = -1 ∧ xs.find? p = none := by
  cases h : xs.findIdx? p with
  | none =>
    refine .inr ⟨by rw [findG, h], ?_⟩
    rw [List.findIdx?_eq_none_iff] at h
    exact List.find?_eq_none.2 fun x hx => by rw [h x hx]; decide
  | some k =>
    have h2 := List.findIdx?_eq_some_iff_getElem.1 h
    obtain ⟨hk, hp, hj⟩ := h2
    refine .inl ⟨k, hk, by rw [findG, h], ?_⟩
    exact find_at (fun j _ hjk => by have := hj j hjk; simpa using this) hk hp
theorem c_tradeAt1 (t : Trade) (no : Int) (h : AH) (l : Nat) (hl : h[l]? = some (.own 0 3 1 (some 1) [[.c (.int .i64 (no))]])) (K : AV → AH → Prop) (hk : K (.one (.c (.bool (trIs no t)))) h) : ACalls Try.prog 91 [.agg (tradeC t), .one (.pt l 0 0 0)] h K := by
  refine acall_m Try.f91.results.toList mixed Try.func91 rfl rfl (by kernel_rfl) ?_
  intro hwf Q hQ
  simp only [go_sem, fun a => h_old a hl]
  refine hQ (h) _ _ ?_; refine GC.now (ret_m (by simp only [go_sem, Try.f91]; exact _root_.id rfl) (by simp only [go_sem]) (by simp) (by first | exact hwf | exact wf_set hwf (by simp only [go_sem]) | exact wf_set2 hwf (by simp only [go_sem]) (by simp only [go_sem]) | (simp only [go_sem]; done)) (by first | exact ⟨_, _root_.id rfl⟩ | exact ⟨[], (List.append_nil _).symm⟩) ?_) <;> simp only [go_sem]
  exact hk
theorem c_tradeAt (b : Books) (no : Int) (hs : Small b) (K : AV → AH → Prop) (hk : K (.one (.c (.int .i64 (findG (trIs no) b.trades)))) []) : ACalls Try.prog 51 [.agg (booksC b), (.one (.c (.int .i64 (no))))] [] K := by
  have hst := hs.ht
  refine acall_c Try.f51.results.toList mixed Try.func51 rfl rfl (by kernel_rfl) ?_
  intro Q hQ hQO
  simp only [go_sem]
  refine call_h (c_IndexFuncTrade b.trades _ _ (trIs no) _ _ hst (fun i hi K' hk' => .inr (.inl ⟨rfl, c_tradeAt1 _ no _ 1 rfl _ hk'⟩)) ?_)
  simp only [go_sem]
  (try simp only [go_sem]); repeat' (first | (with_reducible refine c_split (fun hb => ?_) (fun hb => ?_) <;> try simp only [go_sem, hb]) | (with_reducible refine w_split (fun hb => ?_) (fun hb => ?_) <;> try simp only [go_sem, hb]) | (with_reducible refine hQ _ _ ?_ <;> simp only [Try.f51, go_sem]))
  exact hk
theorem c_l7Find (b : Books) (no : Int) (hs : Small b) (K : AV → AH → Prop) (hk : K (.one (.c (.int .i64 (findG (trIs no) b.trades)))) []) : ACalls Try.prog 50 [.agg (booksC b), (.one (.c (.int .i64 (no))))] [] K := by
  have hst := hs.ht
  refine acall_c Try.f50.results.toList mixed Try.func50 rfl rfl (by kernel_rfl) ?_
  intro Q hQ hQO
  simp only [go_sem]
  refine for_at (b.trades.length) [1, 2] (fun i f h => f 5 = (.one (.c (.int .i64 (i)))) ∧ h = [.own 0 38 6 (some 1) [booksC b]] ∧ noneTo (trIs no) b.trades i) (GC.now ?_) ?_
  · simp only [go_sem, nc_0, true_and]
    exact noneTo_0 _ _
  · rintro i f h J hi hA ⟨e5, rfl, hP⟩ hJ
    simp only [go_sem] at hA
    simp only [go_sem, hA, e5]
    refine c_split (fun hb => ?_) (fun hb => ?_)
    rotate_left
    · simp only [go_sem, hb, hA, e5]
      obtain rfl := ge_len hb hi
      (try simp only [go_sem, hA, e5]); repeat' (first | (with_reducible refine c_split (fun hb => ?_) (fun hb => ?_) <;> try simp only [go_sem, hb, hA, e5]) | (with_reducible refine w_split (fun hb => ?_) (fun hb => ?_) <;> try simp only [go_sem, hb, hA, e5]) | (with_reducible refine hQ _ _ ?_ <;> simp only [Try.f50, go_sem, hA, e5]))
      rw [findG_no hP] at hk
      exact hk
    have hi := lt_len hb
    have hw := wrap_nat i (by omega)
    have hil : (i : Int) < ((b.trades.length : Nat) : Int) := Int.ofNat_lt.2 hi
    have hg0 : (b.trades)[i]? = some ((b.trades)[i]) := List.getElem?_eq_getElem (by omega)
    simp only [go_sem, hb, hA, e5, hg0]
    try simp only [go_sem, hA, e5, hil, hg0]
    (try simp only [go_sem, hA, e5, hil, hg0]); repeat' (first | (with_reducible refine c_split (fun hb => ?_) (fun hb => ?_) <;> try simp only [go_sem, hb, hA, e5, hil, hg0]) | (with_reducible refine w_split (fun hb => ?_) (fun hb => ?_) <;> try simp only [go_sem, hb, hA, e5, hil, hg0]) | (with_reducible refine hQ _ _ ?_ <;> simp only [Try.f50, go_sem, hA, e5, hil, hg0]))
    · rw [findG_of hP hi hb] at hk
      exact hk
    · refine gc_trim 1 (by decide) (by simp only [go_sem]) (by simp only [go_sem]) (hJ _ _ hi (by simp only [go_sem, hA, e5]) ⟨?_, ?_, ?_⟩) <;> try simp only [go_sem, hA, e5, hw]
      exact noneTo_s hP hi hb
theorem c_impl_TradeOf (b : Books) (no : Int) (hs : Small b) (K : AV → AH → Prop) (hk : K (tradeV (tradeR b no)) []) : ACalls Try.prog 49 [.agg (booksC b), (.one (.c (.int .i64 (no))))] [] K := by
  refine acall_c Try.f49.results.toList mixed Try.func49 rfl rfl (by kernel_rfl) ?_
  intro Q hQ hQO
  simp only [go_sem]
  rcases findO_cases (trIs no) b.trades with ⟨k, hi, e1, e2⟩ | ⟨e1, e2⟩
  · have hg : b.trades[k]? = some b.trades[k] := List.getElem?_eq_getElem hi
    have hil : (k : Int) < (b.trades.length : Int) := Int.ofNat_lt.2 hi
    have hneg : decide ((k : Int) < 0) = false := decide_eq_false (by omega)
    cases hok : booksOk b with
    | true =>
      rw [tradeR, hok, if_pos rfl, e2] at hk
      (try simp only [go_sem, e1, hok, hneg, hg, hil]); repeat' (first | (with_reducible refine c_split (fun hb => ?_) (fun hb => ?_) <;> try simp only [go_sem, hb, e1, hok, hneg, hg, hil]) | (with_reducible refine w_split (fun hb => ?_) (fun hb => ?_) <;> try simp only [go_sem, hb, e1, hok, hneg, hg, hil]) | (refine call_c (c_tradeAt b no hs _ ?_) <;> try simp only [go_sem, e1, hok, hneg, hg, hil]) | (refine call_c (c_impl_BooksOk b hs _ ?_) <;> try simp only [go_sem, e1, hok, hneg, hg, hil]) | (with_reducible refine hQ _ _ ?_ <;> simp only [Try.f49, go_sem, e1, hok, hneg, hg, hil]))
      exact hk
    | false =>
      rw [tradeR, hok, if_neg (by decide)] at hk
      (try simp only [go_sem, e1, hok, hneg]); repeat' (first | (with_reducible refine c_split (fun hb => ?_) (fun hb => ?_) <;> try simp only [go_sem, hb, e1, hok, hneg]) | (with_reducible refine w_split (fun hb => ?_) (fun hb => ?_) <;> try simp only [go_sem, hb, e1, hok, hneg]) | (refine call_c (c_tradeAt b no hs _ ?_) <;> try simp only [go_sem, e1, hok, hneg]) | (refine call_c (c_impl_BooksOk b hs _ ?_) <;> try simp only [go_sem, e1, hok, hneg]) | (with_reducible refine hQ _ _ ?_ <;> simp only [Try.f49, go_sem, e1, hok, hneg]))
      exact hk
  · have hk2 : K (tradeV none) [] := by
      rw [tradeR, e2] at hk
      split at hk <;> exact hk
    (try simp only [go_sem, e1, m1_neg]); repeat' (first | (with_reducible refine c_split (fun hb => ?_) (fun hb => ?_) <;> try simp only [go_sem, hb, e1, m1_neg]) | (with_reducible refine w_split (fun hb => ?_) (fun hb => ?_) <;> try simp only [go_sem, hb, e1, m1_neg]) | (refine call_c (c_tradeAt b no hs _ ?_) <;> try simp only [go_sem, e1, m1_neg]) | (with_reducible refine hQ _ _ ?_ <;> simp only [Try.f49, go_sem, e1, m1_neg]))
    exact hk2
theorem c_spec_TradeOf (b : Books) (no : Int) (hs : Small b) (K : AV → AH → Prop) (hk : K (tradeV (tradeR b no)) []) : ACalls Try.prog 48 [.agg (booksC b), (.one (.c (.int .i64 (no))))] [] K := by
  refine acall_c Try.f48.results.toList mixed Try.func48 rfl rfl (by kernel_rfl) ?_
  intro Q hQ hQO
  simp only [go_sem]
  rcases findO_cases (trIs no) b.trades with ⟨k, hi, e1, e2⟩ | ⟨e1, e2⟩
  · have hg : b.trades[k]? = some b.trades[k] := List.getElem?_eq_getElem hi
    have hil : (k : Int) < (b.trades.length : Int) := Int.ofNat_lt.2 hi
    have hneg : decide ((k : Int) < 0) = false := decide_eq_false (by omega)
    cases hok : booksOk b with
    | true =>
      rw [tradeR, hok, if_pos rfl, e2] at hk
      (try simp only [go_sem, e1, hok, hneg, hg, hil]); repeat' (first | (with_reducible refine c_split (fun hb => ?_) (fun hb => ?_) <;> try simp only [go_sem, hb, e1, hok, hneg, hg, hil]) | (with_reducible refine w_split (fun hb => ?_) (fun hb => ?_) <;> try simp only [go_sem, hb, e1, hok, hneg, hg, hil]) | (refine call_c (c_l7Find b no hs _ ?_) <;> try simp only [go_sem, e1, hok, hneg, hg, hil]) | (refine call_c (c_BooksOk b hs _ ?_) <;> try simp only [go_sem, e1, hok, hneg, hg, hil]) | (with_reducible refine hQ _ _ ?_ <;> simp only [Try.f48, go_sem, e1, hok, hneg, hg, hil]))
      exact hk
    | false =>
      rw [tradeR, hok, if_neg (by decide)] at hk
      (try simp only [go_sem, e1, hok, hneg]); repeat' (first | (with_reducible refine c_split (fun hb => ?_) (fun hb => ?_) <;> try simp only [go_sem, hb, e1, hok, hneg]) | (with_reducible refine w_split (fun hb => ?_) (fun hb => ?_) <;> try simp only [go_sem, hb, e1, hok, hneg]) | (refine call_c (c_l7Find b no hs _ ?_) <;> try simp only [go_sem, e1, hok, hneg]) | (refine call_c (c_BooksOk b hs _ ?_) <;> try simp only [go_sem, e1, hok, hneg]) | (with_reducible refine hQ _ _ ?_ <;> simp only [Try.f48, go_sem, e1, hok, hneg]))
      exact hk
  · have hk2 : K (tradeV none) [] := by
      rw [tradeR, e2] at hk
      split at hk <;> exact hk
    (try simp only [go_sem, e1, m1_neg]); repeat' (first | (with_reducible refine c_split (fun hb => ?_) (fun hb => ?_) <;> try simp only [go_sem, hb, e1, m1_neg]) | (with_reducible refine w_split (fun hb => ?_) (fun hb => ?_) <;> try simp only [go_sem, hb, e1, m1_neg]) | (refine call_c (c_l7Find b no hs _ ?_) <;> try simp only [go_sem, e1, m1_neg]) | (with_reducible refine hQ _ _ ?_ <;> simp only [Try.f48, go_sem, e1, m1_neg]))
    exact hk2
theorem tradeR_ok {b : Books} {no : Int} {t : Trade} (h : tradeR b no = some t) : booksOk b = true ∧ trP t = true ∧ t ∈ b.trades ∧ t.no = no := by
  unfold tradeR at h
  split at h
  · rename_i hok
    have hm := List.mem_of_find?_eq_some h
    refine ⟨hok, okL_p (booksOk_parts hok).2.2.2.2 hm, hm, ?_⟩
    have := List.find?_some h
    simpa [trIs] using this
  · cases h
theorem trP_state {t : Trade} (h : trP t = true) : t.state = 1 ∨ t.state = 2 ∨ t.state = 3 := by
  simp only [trP, Bool.and_eq_true] at h
  have := of_decide_eq_true h.2
  omega
def wordT (s : Int) : ByteArray := if s = 1 then ⟨#[111, 112, 101, 110]⟩ else if s = 2 then ⟨#[100, 111, 110, 101]⟩ else ⟨#[103, 111, 110, 101]⟩
def showT (b : Books) (no : Int) : ByteArray := match tradeR b no with | some t => wordT t.state | none => ⟨#[110, 111, 110, 101]⟩
theorem c_impl_ShowTrade (b : Books) (no : Int) (hs : Small b) (K : AV → AH → Prop) (hk : K (.one (.c (.string (showT b no)))) []) : ACalls Try.prog 13 [.agg (booksC b), (.one (.c (.int .i64 (no))))] [] K := by
  refine acall_c Try.f13.results.toList mixed Try.func13 rfl rfl (by kernel_rfl) ?_
  intro Q hQ hQO
  simp only [go_sem]
  cases ht : tradeR b no with
  | none =>
    have hv : tradeV (tradeR b no) = .tup [.agg (tradeC zeroT), (.one (.c (.bool (false))))] := by rw [ht]; rfl
    rw [showT, ht] at hk
    (try simp only [go_sem, hv]); repeat' (first | (with_reducible refine c_split (fun hb => ?_) (fun hb => ?_) <;> try simp only [go_sem, hb, hv]) | (with_reducible refine w_split (fun hb => ?_) (fun hb => ?_) <;> try simp only [go_sem, hb, hv]) | (refine call_c (c_impl_TradeOf b no hs _ ?_) <;> try simp only [go_sem, hv]) | (with_reducible refine hQ _ _ ?_ <;> simp only [Try.f13, go_sem, hv]))
    exact hk
  | some t =>
    have hv : tradeV (tradeR b no) = .tup [.agg (tradeC t), (.one (.c (.bool (true))))] := by rw [ht]; rfl
    have hk : K (.one (.c (.string (wordT t.state)))) [] := by rw [showT, ht] at hk; exact hk
    rcases trP_state (tradeR_ok ht).2.1 with h | h | h
    · rw [show wordT t.state = ⟨#[111, 112, 101, 110]⟩ by rw [h]; rfl] at hk
      (try simp only [go_sem, hv, h]); repeat' (first | (with_reducible refine c_split (fun hb => ?_) (fun hb => ?_) <;> try simp only [go_sem, hb, hv, h]) | (with_reducible refine w_split (fun hb => ?_) (fun hb => ?_) <;> try simp only [go_sem, hb, hv, h]) | (refine call_c (c_impl_TradeOf b no hs _ ?_) <;> try simp only [go_sem, hv, h]) | (with_reducible refine hQ _ _ ?_ <;> simp only [Try.f13, go_sem, hv, h]))
      exact hk
    · rw [show wordT t.state = ⟨#[100, 111, 110, 101]⟩ by rw [h]; rfl] at hk
      (try simp only [go_sem, hv, h]); repeat' (first | (with_reducible refine c_split (fun hb => ?_) (fun hb => ?_) <;> try simp only [go_sem, hb, hv, h]) | (with_reducible refine w_split (fun hb => ?_) (fun hb => ?_) <;> try simp only [go_sem, hb, hv, h]) | (refine call_c (c_impl_TradeOf b no hs _ ?_) <;> try simp only [go_sem, hv, h]) | (with_reducible refine hQ _ _ ?_ <;> simp only [Try.f13, go_sem, hv, h]))
      exact hk
    · rw [show wordT t.state = ⟨#[103, 111, 110, 101]⟩ by rw [h]; rfl] at hk
      (try simp only [go_sem, hv, h]); repeat' (first | (with_reducible refine c_split (fun hb => ?_) (fun hb => ?_) <;> try simp only [go_sem, hb, hv, h]) | (with_reducible refine w_split (fun hb => ?_) (fun hb => ?_) <;> try simp only [go_sem, hb, hv, h]) | (refine call_c (c_impl_TradeOf b no hs _ ?_) <;> try simp only [go_sem, hv, h]) | (with_reducible refine hQ _ _ ?_ <;> simp only [Try.f13, go_sem, hv, h]))
      exact hk
theorem ix0_1 : ((0 : Int) ≤ 1) = True := eq_true (by decide)
theorem ix4_1 : ((1 : Int) < ((4 : Nat) : Int)) = True := eq_true (by decide)
theorem nat_1 : Int.toNat 1 = 1 := rfl
theorem l4_1 {α : Type} (a b c d : α) : [a, b, c, d][1]? = some b := rfl
theorem ix0_2 : ((0 : Int) ≤ 2) = True := eq_true (by decide)
theorem ix4_2 : ((2 : Int) < ((4 : Nat) : Int)) = True := eq_true (by decide)
theorem nat_2 : Int.toNat 2 = 2 := rfl
theorem l4_2 {α : Type} (a b c d : α) : [a, b, c, d][2]? = some c := rfl
theorem ix0_3 : ((0 : Int) ≤ 3) = True := eq_true (by decide)
theorem ix4_3 : ((3 : Int) < ((4 : Nat) : Int)) = True := eq_true (by decide)
theorem nat_3 : Int.toNat 3 = 3 := rfl
theorem l4_3 {α : Type} (a b c d : α) : [a, b, c, d][3]? = some d := rfl
theorem c_spec_ShowTrade (b : Books) (no : Int) (hs : Small b) (K : AV → AH → Prop) (hk : K (.one (.c (.string (showT b no)))) []) : ACalls Try.prog 12 [.agg (booksC b), (.one (.c (.int .i64 (no))))] [] K := by
  refine acall_c Try.f12.results.toList mixed Try.func12 rfl rfl (by kernel_rfl) ?_
  intro Q hQ hQO
  simp only [go_sem]
  cases ht : tradeR b no with
  | none =>
    have hv : tradeV (tradeR b no) = .tup [.agg (tradeC zeroT), (.one (.c (.bool (false))))] := by rw [ht]; rfl
    rw [showT, ht] at hk
    (try simp only [go_sem, hv]); repeat' (first | (with_reducible refine c_split (fun hb => ?_) (fun hb => ?_) <;> try simp only [go_sem, hb, hv]) | (with_reducible refine w_split (fun hb => ?_) (fun hb => ?_) <;> try simp only [go_sem, hb, hv]) | (refine call_c (c_spec_TradeOf b no hs _ ?_) <;> try simp only [go_sem, hv]) | (with_reducible refine hQ _ _ ?_ <;> simp only [Try.f12, go_sem, hv]))
    exact hk
  | some t =>
    have hv : tradeV (tradeR b no) = .tup [.agg (tradeC t), (.one (.c (.bool (true))))] := by rw [ht]; rfl
    have hk : K (.one (.c (.string (wordT t.state)))) [] := by rw [showT, ht] at hk; exact hk
    rcases trP_state (tradeR_ok ht).2.1 with h | h | h
    · rw [show wordT t.state = ⟨#[111, 112, 101, 110]⟩ by rw [h]; rfl] at hk
      (try simp only [go_sem, hv, h, ix0_1, ix4_1, nat_1, l4_1]); repeat' (first | (with_reducible refine c_split (fun hb => ?_) (fun hb => ?_) <;> try simp only [go_sem, hb, hv, h, ix0_1, ix4_1, nat_1, l4_1]) | (with_reducible refine w_split (fun hb => ?_) (fun hb => ?_) <;> try simp only [go_sem, hb, hv, h, ix0_1, ix4_1, nat_1, l4_1]) | (refine call_c (c_spec_TradeOf b no hs _ ?_) <;> try simp only [go_sem, hv, h, ix0_1, ix4_1, nat_1, l4_1]) | (with_reducible refine hQ _ _ ?_ <;> simp only [Try.f12, go_sem, hv, h, ix0_1, ix4_1, nat_1, l4_1]))
      exact hk
    · rw [show wordT t.state = ⟨#[100, 111, 110, 101]⟩ by rw [h]; rfl] at hk
      (try simp only [go_sem, hv, h, ix0_2, ix4_2, nat_2, l4_2]); repeat' (first | (with_reducible refine c_split (fun hb => ?_) (fun hb => ?_) <;> try simp only [go_sem, hb, hv, h, ix0_2, ix4_2, nat_2, l4_2]) | (with_reducible refine w_split (fun hb => ?_) (fun hb => ?_) <;> try simp only [go_sem, hb, hv, h, ix0_2, ix4_2, nat_2, l4_2]) | (refine call_c (c_spec_TradeOf b no hs _ ?_) <;> try simp only [go_sem, hv, h, ix0_2, ix4_2, nat_2, l4_2]) | (with_reducible refine hQ _ _ ?_ <;> simp only [Try.f12, go_sem, hv, h, ix0_2, ix4_2, nat_2, l4_2]))
      exact hk
    · rw [show wordT t.state = ⟨#[103, 111, 110, 101]⟩ by rw [h]; rfl] at hk
      (try simp only [go_sem, hv, h, ix0_3, ix4_3, nat_3, l4_3]); repeat' (first | (with_reducible refine c_split (fun hb => ?_) (fun hb => ?_) <;> try simp only [go_sem, hb, hv, h, ix0_3, ix4_3, nat_3, l4_3]) | (with_reducible refine w_split (fun hb => ?_) (fun hb => ?_) <;> try simp only [go_sem, hb, hv, h, ix0_3, ix4_3, nat_3, l4_3]) | (refine call_c (c_spec_TradeOf b no hs _ ?_) <;> try simp only [go_sem, hv, h, ix0_3, ix4_3, nat_3, l4_3]) | (with_reducible refine hQ _ _ ?_ <;> simp only [Try.f12, go_sem, hv, h, ix0_3, ix4_3, nat_3, l4_3]))
      exact hk
theorem c_FnExactShowTrade (b : Books) (no : Int) (h : Large b) (K : AV → AH → Prop) (hk : K (.one (.c (.bool (true)))) []) : ACalls Try.prog 4 [.agg (booksC b), (.one (.c (.int .i64 (no))))] [] K := by
  refine acall_c Try.f4.results.toList mixed Try.func4 rfl rfl (by kernel_rfl) ?_
  intro Q hQ hQO
  simp only [go_sem]
  (try simp only [go_sem]); repeat' (first | (with_reducible refine c_split (fun hb => ?_) (fun hb => ?_) <;> try simp only [go_sem, hb]) | (with_reducible refine w_split (fun hb => ?_) (fun hb => ?_) <;> try simp only [go_sem, hb]) | (with_reducible refine tw_split (fun hb => ?_) (fun hb => ?_) <;> try simp only [go_sem, hb]) | (with_reducible refine draw_at 0 26 (by with_unfolding_all rfl) [(0, true, true), (1, false, false), (2, false, false), (3, false, true), (4, false, true)] (by kernel_rfl) ?_ <;> try simp only [go_sem]) | (refine call_c (c_szBooks b h _ (fun r hr => ?_)) <;> try simp only [go_sem]) | (fail))
  · (try simp only [go_sem]); repeat' (first | (with_reducible refine c_split (fun hb => ?_) (fun hb => ?_) <;> try simp only [go_sem, hb]) | (with_reducible refine w_split (fun hb => ?_) (fun hb => ?_) <;> try simp only [go_sem, hb]) | (with_reducible refine tw_split (fun hb => ?_) (fun hb => ?_) <;> try simp only [go_sem, hb]) | (with_reducible refine draw_at 0 26 (by with_unfolding_all rfl) [(0, true, true), (1, false, false), (2, false, false), (3, false, true), (4, false, true)] (by kernel_rfl) ?_ <;> try simp only [go_sem]) | (with_reducible refine hQ _ _ ?_ <;> simp only [Try.f4, go_sem]))
    exact hk
  have hs : Small b := hr (by have := of_decide_eq_false hb; omega)
  clear hb
  (try simp only [go_sem, decide_true]); repeat' (first | (with_reducible refine c_split (fun hb => ?_) (fun hb => ?_) <;> try simp only [go_sem, hb, decide_true]) | (with_reducible refine w_split (fun hb => ?_) (fun hb => ?_) <;> try simp only [go_sem, hb, decide_true]) | (with_reducible refine tw_split (fun hb => ?_) (fun hb => ?_) <;> try simp only [go_sem, hb, decide_true]) | (with_reducible refine draw_at 0 26 (by with_unfolding_all rfl) [(0, true, true), (1, false, false), (2, false, false), (3, false, true), (4, false, true)] (by kernel_rfl) ?_ <;> try simp only [go_sem, decide_true]) | (refine call_c (c_toBooks b hs _ ?_) <;> try simp only [go_sem, decide_true]) | (refine call_c (c_spec_ShowTrade b no hs _ ?_) <;> try simp only [go_sem, decide_true]) | (refine call_c (c_impl_ShowTrade b no hs _ ?_) <;> try simp only [go_sem, decide_true]) | (refine call_c (c_eqBooks b hs _ ?_) <;> try simp only [go_sem, decide_true]) | (with_reducible refine hQ _ _ ?_ <;> simp only [Try.f4, go_sem, decide_true]))
  exact hk
end Go.Proofs.Ytedkpjaojdkpcaa
