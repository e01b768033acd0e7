/- Books6: books that are right. Conditions: none. -/
import Derived.Test.YtedkpjaojdkpcaaGreatLG
import Derived.Test.YtedkpjaojdkpcaaGreatLT
import Derived.Test.YtedkpjaojdkpcaaGreatLBooks5
namespace Go.Proofs.YtedkpjaojdkpcaaGreat
open Go.BL Go.RowKit
set_option linter.unusedVariables false
set_option linter.unusedSimpArgs false
set_option maxRecDepth 100000
attribute [local go_sem] accountC balC lotC tradeC booksC
def brP (b : Books) (x : Bal) : Bool := !(kindOf b.accounts x.account == 0) && !(kindOf b.instrs x.instr == 0) && !((kindOf b.accounts x.account == 1) && decide (x.amount < 0)) && (sumB b.bals x.instr == 0)
def lrP (b : Books) (x : Lot) : Bool := (kindOf b.accounts x.account == 1) && (kindOf b.instrs x.instr == 2) && !decide (b.lot < x.no)
def pairP (b : Books) (a x : Account) : Bool := !((a.kind == 1) && (x.kind == 2)) || (sumQ (ownL b.lots a.no x.no) == balV b.bals a.no x.no)
def trdP (b : Books) (t : Trade) : Bool := (kindOf b.accounts t.buyer == 1) && (kindOf b.accounts t.seller == 1) && (kindOf b.instrs t.paper == 2) && (kindOf b.instrs t.cash == 1)
def lotsR (b : Books) : Bool := b.lots.all (lrP b) && b.accounts.all fun a => b.instrs.all (pairP b a)
def listsOk (b : Books) : Bool := accountsOk b.accounts && instrsOk b.instrs && balsOk b.bals && lotsOk b.lots && tradesOk b.trades && decide (0 ≤ b.lot ∧ b.lot ≤ 1000000000)
def booksOk (b : Books) : Bool := listsOk b && b.bals.all (brP b) && lotsR b && b.trades.all (trdP b)
structure Small (b : Books) : Prop where
  ha : b.accounts.length ≤ 1000000000
  hi : b.instrs.length ≤ 1000000000
  hb : b.bals.length ≤ 1000000000
  hl : b.lots.length ≤ 1000000000
  ht : b.trades.length ≤ 1000000000
structure Large (b : Books) : Prop where
  ha : b.accounts.length ≤ 1000000000000000
  hi : b.instrs.length ≤ 1000000000000000
  hb : b.bals.length ≤ 1000000000000000
  hl : b.lots.length ≤ 1000000000000000
  ht : b.trades.length ≤ 1000000000000000
theorem all_no {α : Type} {p : α → Bool} {xs : List α} (h : noneTo (fun x => !p x) xs xs.length) : xs.all p = true := by
  rw [List.all_eq_true]
  intro x hx
  obtain ⟨i, hi, rfl⟩ := List.mem_iff_getElem.1 hx
  simpa using h i hi hi
theorem all_bad {α : Type} {p : α → Bool} {xs : List α} {i : Nat} (hi : i < xs.length) (h : p xs[i] = false) : xs.all p = false := by
  cases ha : xs.all p with
  | false => rfl
  | true => rw [(List.all_eq_true.1 ha) _ (List.getElem_mem hi)] at h; cases h
theorem not_ff {b : Bool} (h : b = true) : (!b) = false := by rw [h]; rfl
theorem c_balsRight (b : Books) (hs : Small b) (hok : balsOk b.bals = true) (K : AV → AH → Prop) (hk : K (.one (.c (.bool (b.bals.all (brP b))))) []) : ACalls Tryz.prog 80 [.agg (booksC b)] [] K := by
  have hsb := hs.hb
  refine acall_c Tryz.f80.results.toList mixed Tryz.func80 rfl rfl (by kernel_rfl) ?_
  intro Q hQ hQO
  simp only [go_sem]
  refine for_at (b.bals.length) [1, 7, 8] (fun i f h => f 9 = (.one (.c (.int .i64 (i)))) ∧ h = [.own 0 40 6 (some 1) [booksC b]] ∧ noneTo (fun x => !brP b x) b.bals i) (GC.now ?_) ?_
  · simp only [go_sem, nc_0, true_and]
    exact noneTo_0 _ _
  · rintro i f h J hi hA ⟨e9, rfl, hP⟩ hJ
    simp only [go_sem] at hA
    simp only [go_sem, hA, e9]
    refine c_split (fun hb => ?_) (fun hb => ?_)
    rotate_left
    · simp only [go_sem, hb, hA, e9]
      obtain rfl := ge_len hb hi
      (try simp only [go_sem, hA, e9]); repeat' (first | (with_reducible refine c_split (fun hb => ?_) (fun hb => ?_) <;> try simp only [go_sem, hb, hA, e9]) | (with_reducible refine w_split (fun hb => ?_) (fun hb => ?_) <;> try simp only [go_sem, hb, hA, e9]) | (with_reducible refine hQ _ _ ?_ <;> simp only [Tryz.f80, go_sem, hA, e9]))
      rw [all_no hP] at hk
      exact hk
    have hi := lt_len hb
    have hw := wrap_nat i (by omega)
    have hil : (i : Int) < ((b.bals.length : Nat) : Int) := Int.ofNat_lt.2 hi
    have hg0 : (b.bals)[i]? = some ((b.bals)[i]) := List.getElem?_eq_getElem (by omega)
    simp only [go_sem, hb, hA, e9, hg0]
    try simp only [go_sem, hA, e9, hil, hg0]
    cases hr : brP b b.bals[i] with
    | true =>
      have hbr := hr
      simp only [brP, Bool.and_eq_true] at hr
      obtain ⟨⟨⟨f1, f2⟩, f3⟩, f4⟩ := hr
      have f1 := not_tt f1
      have f2 := not_tt f2
      have f3 := not_tt f3
      cases h1 : (kindOf b.accounts b.bals[i].account == 1) with
      | true =>
        rw [h1, Bool.true_and] at f3
        (try simp only [go_sem, hA, e9, hil, hg0, f1, f2, f3, f4, h1]); repeat' (first | (with_reducible refine c_split (fun hb => ?_) (fun hb => ?_) <;> try simp only [go_sem, hb, hA, e9, hil, hg0, f1, f2, f3, f4, h1]) | (with_reducible refine w_split (fun hb => ?_) (fun hb => ?_) <;> try simp only [go_sem, hb, hA, e9, hil, hg0, f1, f2, f3, f4, h1]) | (refine call_c (c_accountKind _ _ hs.ha _ ?_) <;> try simp only [go_sem, hA, e9, hil, hg0, f1, f2, f3, f4, h1]) | (refine call_c (c_instrKind _ _ hs.hi _ ?_) <;> try simp only [go_sem, hA, e9, hil, hg0, f1, f2, f3, f4, h1]) | (refine call_c (c_balsSum _ _ hs.hb hok _ ?_) <;> try simp only [go_sem, hA, e9, hil, hg0, f1, f2, f3, f4, h1]) | (fail))
        refine gc_trim 1 (by decide) (by simp only [go_sem]) (by simp only [go_sem]) (hJ _ _ hi (by simp only [go_sem, hA, e9]) ⟨?_, ?_, ?_⟩) <;> try simp only [go_sem, hA, e9, hw]
        exact noneTo_s hP hi (not_ff hbr)
      | false =>
        (try simp only [go_sem, hA, e9, hil, hg0, f1, f2, f4, h1]); repeat' (first | (with_reducible refine c_split (fun hb => ?_) (fun hb => ?_) <;> try simp only [go_sem, hb, hA, e9, hil, hg0, f1, f2, f4, h1]) | (with_reducible refine w_split (fun hb => ?_) (fun hb => ?_) <;> try simp only [go_sem, hb, hA, e9, hil, hg0, f1, f2, f4, h1]) | (refine call_c (c_accountKind _ _ hs.ha _ ?_) <;> try simp only [go_sem, hA, e9, hil, hg0, f1, f2, f4, h1]) | (refine call_c (c_instrKind _ _ hs.hi _ ?_) <;> try simp only [go_sem, hA, e9, hil, hg0, f1, f2, f4, h1]) | (refine call_c (c_balsSum _ _ hs.hb hok _ ?_) <;> try simp only [go_sem, hA, e9, hil, hg0, f1, f2, f4, h1]) | (fail))
        refine gc_trim 1 (by decide) (by simp only [go_sem]) (by simp only [go_sem]) (hJ _ _ hi (by simp only [go_sem, hA, e9]) ⟨?_, ?_, ?_⟩) <;> try simp only [go_sem, hA, e9, hw]
        exact noneTo_s hP hi (not_ff hbr)
    | false =>
      rw [all_bad hi hr] at hk
      (try simp only [go_sem, hA, e9, hil, hg0]); repeat' (first | (with_reducible refine c_split (fun hb => ?_) (fun hb => ?_) <;> try simp only [go_sem, hb, hA, e9, hil, hg0]) | (with_reducible refine w_split (fun hb => ?_) (fun hb => ?_) <;> try simp only [go_sem, hb, hA, e9, hil, hg0]) | (refine call_c (c_accountKind _ _ hs.ha _ ?_) <;> try simp only [go_sem, hA, e9, hil, hg0]) | (refine call_c (c_instrKind _ _ hs.hi _ ?_) <;> try simp only [go_sem, hA, e9, hil, hg0]) | (refine call_c (c_balsSum _ _ hs.hb hok _ ?_) <;> try simp only [go_sem, hA, e9, hil, hg0]) | (with_reducible refine hQ _ _ ?_ <;> simp only [Tryz.f80, go_sem, hA, e9, hil, hg0]))
      all_goals first | exact hk | exact (Bool.eq_false_iff.1 hr (by clear hr hJ hA hQ hQO; simp only [brP]; simp_all <;> omega)).elim
theorem c_l6Bals (b : Books) (hs : Small b) (ha : accountsOk b.accounts = true) (hi0 : instrsOk b.instrs = true) (hok : balsOk b.bals = true) (K : AV → AH → Prop) (hk : K (.one (.c (.bool (b.bals.all (brP b))))) []) : ACalls Tryz.prog 68 [.agg (booksC b)] [] K := by
  have hsb := hs.hb
  refine acall_c Tryz.f68.results.toList mixed Tryz.func68 rfl rfl (by kernel_rfl) ?_
  intro Q hQ hQO
  simp only [go_sem]
  refine for_at (b.bals.length) [1] (fun i f h => f 3 = (.one (.c (.int .i64 (i)))) ∧ h = [.own 0 40 6 (some 1) [booksC b]] ∧ noneTo (fun x => !brP b x) b.bals i) (GC.now ?_) ?_
  · simp only [go_sem, nc_0, true_and]
    exact noneTo_0 _ _
  · rintro i f h J hi hA ⟨e3, rfl, hP⟩ hJ
    simp only [go_sem] at hA
    simp only [go_sem, hA, e3]
    refine c_split (fun hb => ?_) (fun hb => ?_)
    rotate_left
    · simp only [go_sem, hb, hA, e3]
      obtain rfl := ge_len hb hi
      (try simp only [go_sem, hA, e3]); repeat' (first | (with_reducible refine c_split (fun hb => ?_) (fun hb => ?_) <;> try simp only [go_sem, hb, hA, e3]) | (with_reducible refine w_split (fun hb => ?_) (fun hb => ?_) <;> try simp only [go_sem, hb, hA, e3]) | (with_reducible refine hQ _ _ ?_ <;> simp only [Tryz.f68, go_sem, hA, e3]))
      rw [all_no hP] at hk
      exact hk
    have hi := lt_len hb
    have hw := wrap_nat i (by omega)
    have hil : (i : Int) < ((b.bals.length : Nat) : Int) := Int.ofNat_lt.2 hi
    have hg0 : (b.bals)[i]? = some ((b.bals)[i]) := List.getElem?_eq_getElem (by omega)
    simp only [go_sem, hb, hA, e3, hg0]
    try simp only [go_sem, hA, e3, hil, hg0]
    have hsum : ∀ s : Int, amtOk s = false → s ≠ 0 := fun s h q => by subst q; simp [amtOk] at h
    cases hr : brP b b.bals[i] with
    | true =>
      have hbr := hr
      simp only [brP, Bool.and_eq_true] at hr
      obtain ⟨⟨⟨f1, f2⟩, f3⟩, f4⟩ := hr
      have f1 := not_tt f1
      have f2 := not_tt f2
      have f3 := not_tt f3
      have f5 : sumB b.bals b.bals[i].instr = 0 := eq_of_beq f4
      have f6 : amtOk 0 = true := rfl
      cases h1 : (kindOf b.accounts b.bals[i].account == 1) with
      | true =>
        rw [h1, Bool.true_and] at f3
        (try simp only [go_sem, hA, e3, hil, hg0, f1, f2, f3, f5, f6, h1, if_true, BEq.rfl]); repeat' (first | (with_reducible refine c_split (fun hb => ?_) (fun hb => ?_) <;> try simp only [go_sem, hb, hA, e3, hil, hg0, f1, f2, f3, f5, f6, h1, if_true, BEq.rfl]) | (with_reducible refine w_split (fun hb => ?_) (fun hb => ?_) <;> try simp only [go_sem, hb, hA, e3, hil, hg0, f1, f2, f3, f5, f6, h1, if_true, BEq.rfl]) | (refine call_c (c_AccountKind _ _ hs.ha ha _ ?_) <;> try simp only [go_sem, hA, e3, hil, hg0, f1, f2, f3, f5, f6, h1, if_true, BEq.rfl]) | (refine call_c (c_InstrKind _ _ hs.hi hi0 _ ?_) <;> try simp only [go_sem, hA, e3, hil, hg0, f1, f2, f3, f5, f6, h1, if_true, BEq.rfl]) | (refine call_c (c_BalsSum _ _ hs.hb hok _ ?_) <;> try simp only [go_sem, hA, e3, hil, hg0, f1, f2, f3, f5, f6, h1, if_true, BEq.rfl]) | (fail))
        refine gc_trim 1 (by decide) (by simp only [go_sem]) (by simp only [go_sem]) (hJ _ _ hi (by simp only [go_sem, hA, e3]) ⟨?_, ?_, ?_⟩) <;> try simp only [go_sem, hA, e3, hw]
        exact noneTo_s hP hi (not_ff hbr)
      | false =>
        (try simp only [go_sem, hA, e3, hil, hg0, f1, f2, f5, f6, h1, if_true, BEq.rfl]); repeat' (first | (with_reducible refine c_split (fun hb => ?_) (fun hb => ?_) <;> try simp only [go_sem, hb, hA, e3, hil, hg0, f1, f2, f5, f6, h1, if_true, BEq.rfl]) | (with_reducible refine w_split (fun hb => ?_) (fun hb => ?_) <;> try simp only [go_sem, hb, hA, e3, hil, hg0, f1, f2, f5, f6, h1, if_true, BEq.rfl]) | (refine call_c (c_AccountKind _ _ hs.ha ha _ ?_) <;> try simp only [go_sem, hA, e3, hil, hg0, f1, f2, f5, f6, h1, if_true, BEq.rfl]) | (refine call_c (c_InstrKind _ _ hs.hi hi0 _ ?_) <;> try simp only [go_sem, hA, e3, hil, hg0, f1, f2, f5, f6, h1, if_true, BEq.rfl]) | (refine call_c (c_BalsSum _ _ hs.hb hok _ ?_) <;> try simp only [go_sem, hA, e3, hil, hg0, f1, f2, f5, f6, h1, if_true, BEq.rfl]) | (fail))
        refine gc_trim 1 (by decide) (by simp only [go_sem]) (by simp only [go_sem]) (hJ _ _ hi (by simp only [go_sem, hA, e3]) ⟨?_, ?_, ?_⟩) <;> try simp only [go_sem, hA, e3, hw]
        exact noneTo_s hP hi (not_ff hbr)
    | false =>
      rw [all_bad hi hr] at hk
      (try simp only [go_sem, hA, e3, hil, hg0]); repeat' (first | (with_reducible refine c_split (fun hb => ?_) (fun hb => ?_) <;> try simp only [go_sem, hb, hA, e3, hil, hg0]) | (with_reducible refine w_split (fun hb => ?_) (fun hb => ?_) <;> try simp only [go_sem, hb, hA, e3, hil, hg0]) | (refine call_c (c_AccountKind _ _ hs.ha ha _ ?_) <;> try simp only [go_sem, hA, e3, hil, hg0]) | (refine call_c (c_InstrKind _ _ hs.hi hi0 _ ?_) <;> try simp only [go_sem, hA, e3, hil, hg0]) | (refine call_c (c_BalsSum _ _ hs.hb hok _ ?_) <;> try simp only [go_sem, hA, e3, hil, hg0]) | (with_reducible refine hQ _ _ ?_ <;> simp only [Tryz.f68, go_sem, hA, e3, hil, hg0]))
      all_goals first | exact hk | exact (Bool.eq_false_iff.1 hr (by clear hr hJ hA hQ hQO; simp only [brP]; simp_all <;> omega)).elim
end Go.Proofs.YtedkpjaojdkpcaaGreat
