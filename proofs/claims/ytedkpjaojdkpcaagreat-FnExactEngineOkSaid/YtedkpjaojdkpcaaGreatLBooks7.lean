/- Books7: lots that are such as books have. Conditions: none. -/
import Derived.Test.YtedkpjaojdkpcaaGreatLG
import Derived.Test.YtedkpjaojdkpcaaGreatLT
import Derived.Test.YtedkpjaojdkpcaaGreatLBooks6
namespace Go.Proofs.YtedkpjaojdkpcaaGreat
open Go.BL Go.RowKit
set_option linter.unusedVariables false
set_option linter.unusedSimpArgs false
set_option maxRecDepth 100000
attribute [local go_sem] accountC balC lotC tradeC booksC
theorem c_lotsRight (b : Books) (hs : Small b) (hok : balsOk b.bals = true) (hf : Fine b.lots) (K : AV → AH → Prop) (hk : K (.one (.c (.bool (lotsR b)))) []) : ACalls Tryz.prog 81 [.agg (booksC b)] [] K := by
  have hsl := hs.hl
  have hsa := hs.ha
  have hsi := hs.hi
  refine acall_c Tryz.f81.results.toList mixed Tryz.func81 rfl rfl (by kernel_rfl) ?_
  intro Q hQ hQO
  simp only [go_sem]
  refine for_at (b.lots.length) [1, 12, 13] (fun i f h => f 14 = (.one (.c (.int .i64 (i)))) ∧ h = [.own 0 40 6 (some 1) [booksC b]] ∧ noneTo (fun x => !lrP b x) b.lots i) (GC.now ?_) ?_
  · simp only [go_sem, nc_0, true_and]
    exact noneTo_0 _ _
  · rintro i f h J hi hA ⟨e14, rfl, hP⟩ hJ
    simp only [go_sem] at hA
    simp only [go_sem, hA, e14]
    refine c_split (fun hb => ?_) (fun hb => ?_)
    rotate_left
    · simp only [go_sem, hb, hA, e14]
      obtain rfl := ge_len hb hi
      rw [lotsR, all_no hP, Bool.true_and] at hk
      (try simp only [go_sem, hA, e14]); repeat' (first | (with_reducible refine c_split (fun hb => ?_) (fun hb => ?_) <;> try simp only [go_sem, hb, hA, e14]) | (with_reducible refine w_split (fun hb => ?_) (fun hb => ?_) <;> try simp only [go_sem, hb, hA, e14]) | (fail))
      have hA0 := hA
      clear hJ
      refine for_at (b.accounts.length) [1, 41, 42] (fun i f h => f 43 = (.one (.c (.int .i64 (i)))) ∧ h = [.own 0 40 6 (some 1) [booksC b]] ∧ noneTo (fun a => !b.instrs.all (pairP b a)) b.accounts i) (GC.now ?_) ?_
      · simp only [go_sem, nc_0, true_and, hA0]
        exact noneTo_0 _ _
      · rintro i f h J hi hA ⟨e43, rfl, hP⟩ hJ
        simp only [go_sem, hA0] at hA
        simp only [go_sem, hA, e43, hA0]
        refine c_split (fun hb => ?_) (fun hb => ?_)
        rotate_left
        · simp only [go_sem, hb, hA, e43, hA0]
          obtain rfl := ge_len hb hi
          (try simp only [go_sem, hA, e43, hA0]); repeat' (first | (with_reducible refine c_split (fun hb => ?_) (fun hb => ?_) <;> try simp only [go_sem, hb, hA, e43, hA0]) | (with_reducible refine w_split (fun hb => ?_) (fun hb => ?_) <;> try simp only [go_sem, hb, hA, e43, hA0]) | (with_reducible refine hQ _ _ ?_ <;> simp only [Tryz.f81, go_sem, hA, e43, hA0]))
          rw [all_no hP] at hk
          exact hk
        have hi := lt_len hb
        have hw := wrap_nat i (by omega)
        have hil : (i : Int) < ((b.accounts.length : Nat) : Int) := Int.ofNat_lt.2 hi
        have hg0 : (b.accounts)[i]? = some ((b.accounts)[i]) := List.getElem?_eq_getElem (by omega)
        simp only [go_sem, hb, hA, e43, hA0, hg0]
        try simp only [go_sem, hA, e43, hA0, hil, hg0]
        (try simp only [go_sem, hA, e43, hA0, hil, hg0]); repeat' (first | (with_reducible refine c_split (fun hb => ?_) (fun hb => ?_) <;> try simp only [go_sem, hb, hA, e43, hA0, hil, hg0]) | (with_reducible refine w_split (fun hb => ?_) (fun hb => ?_) <;> try simp only [go_sem, hb, hA, e43, hA0, hil, hg0]) | (fail))
        have hA1 := hA
        have hP1 := hP
        have hi1 := hi
        have hw1 := hw
        have hJ1 := hJ
        generalize hac : b.accounts[i] = ac at *
        refine for_at (b.instrs.length) [1, 6, 41, 42, 43, 48, 49] (fun i f h => f 50 = (.one (.c (.int .i64 (i)))) ∧ h = [.own 0 40 6 (some 1) [booksC b], .own 0 96 2 (some 1) [accountC ac]] ∧ noneTo (fun x => !pairP b ac x) b.instrs i) (GC.now ?_) ?_
        · simp only [go_sem, nc_0, true_and, hA1, e43]
          exact noneTo_0 _ _
        · rintro i f h J hi hA ⟨e50, rfl, hP⟩ hJ
          simp only [go_sem, hA1, e43] at hA
          simp only [go_sem, hA, e50, hA1, e43]
          refine c_split (fun hb => ?_) (fun hb => ?_)
          rotate_left
          · simp only [go_sem, hb, hA, e50, hA1, e43]
            obtain rfl := ge_len hb hi
            refine gc_trim 1 (by decide) (by simp only [go_sem]) (by simp only [go_sem]) (hJ1 _ _ hi1 (by simp only [go_sem, hA, hA1, hA0, e43]) ⟨?_, ?_, ?_⟩) <;> try simp only [go_sem, hA, hA1, hA0, e43, hw1]
            exact noneTo_s hP1 hi1 (by rw [hac]; exact not_ff (all_no hP))
          have hi := lt_len hb
          have hw := wrap_nat i (by omega)
          have hil : (i : Int) < ((b.instrs.length : Nat) : Int) := Int.ofNat_lt.2 hi
          have hg0 : (b.instrs)[i]? = some ((b.instrs)[i]) := List.getElem?_eq_getElem (by omega)
          simp only [go_sem, hb, hA, e50, hA1, e43, hg0]
          try simp only [go_sem, hA, e50, hA1, e43, hil, hg0]
          cases k1 : (ac.kind == 1) with
          | false =>
            (try simp only [go_sem, hA, e50, hA1, e43, hil, hg0, k1]); repeat' (first | (with_reducible refine c_split (fun hb => ?_) (fun hb => ?_) <;> try simp only [go_sem, hb, hA, e50, hA1, e43, hil, hg0, k1]) | (with_reducible refine w_split (fun hb => ?_) (fun hb => ?_) <;> try simp only [go_sem, hb, hA, e50, hA1, e43, hil, hg0, k1]) | (fail))
            refine gc_trim 2 (by decide) (by simp only [go_sem]) (by simp only [go_sem]) (hJ _ _ hi (by simp only [go_sem, hA, e50, hA1, e43]) ⟨?_, ?_, ?_⟩) <;> try simp only [go_sem, hA, e50, hA1, e43, hw]
            exact noneTo_s hP hi (by rw [pairP, k1]; rfl)
          | true =>
            cases k2 : (b.instrs[i].kind == 2) with
            | false =>
              (try simp only [go_sem, hA, e50, hA1, e43, hil, hg0, k1, k2]); repeat' (first | (with_reducible refine c_split (fun hb => ?_) (fun hb => ?_) <;> try simp only [go_sem, hb, hA, e50, hA1, e43, hil, hg0, k1, k2]) | (with_reducible refine w_split (fun hb => ?_) (fun hb => ?_) <;> try simp only [go_sem, hb, hA, e50, hA1, e43, hil, hg0, k1, k2]) | (fail))
              refine gc_trim 2 (by decide) (by simp only [go_sem]) (by simp only [go_sem]) (hJ _ _ hi (by simp only [go_sem, hA, e50, hA1, e43]) ⟨?_, ?_, ?_⟩) <;> try simp only [go_sem, hA, e50, hA1, e43, hw]
              exact noneTo_s hP hi (by rw [pairP, k1, k2]; rfl)
            | true =>
              cases k3 : (sumQ (ownL b.lots ac.no b.instrs[i].no) == balV b.bals ac.no b.instrs[i].no) with
              | true =>
                (try simp only [go_sem, hA, e50, hA1, e43, hil, hg0, k1, k2, k3]); repeat' (first | (with_reducible refine c_split (fun hb => ?_) (fun hb => ?_) <;> try simp only [go_sem, hb, hA, e50, hA1, e43, hil, hg0, k1, k2, k3]) | (with_reducible refine w_split (fun hb => ?_) (fun hb => ?_) <;> try simp only [go_sem, hb, hA, e50, hA1, e43, hil, hg0, k1, k2, k3]) | (refine call_c (c_lotsOf b.lots _ _ hsl _ ?_) <;> try simp only [go_sem, hA, e50, hA1, e43, hil, hg0, k1, k2, k3]) | (refine call_c (c_sumLots _ (hf.own _ _) _ ?_) <;> try simp only [go_sem, hA, e50, hA1, e43, hil, hg0, k1, k2, k3]) | (refine call_c (c_balOf b.bals _ _ hs.hb hok _ ?_) <;> try simp only [go_sem, hA, e50, hA1, e43, hil, hg0, k1, k2, k3]) | (fail))
                refine gc_trim 2 (by decide) (by simp only [go_sem]) (by simp only [go_sem]) (hJ _ _ hi (by simp only [go_sem, hA, e50, hA1, e43]) ⟨?_, ?_, ?_⟩) <;> try simp only [go_sem, hA, e50, hA1, e43, hw]
                exact noneTo_s hP hi (by rw [pairP, k1, k2, k3]; rfl)
              | false =>
                rw [all_bad hi1 (by rw [hac]; exact all_bad hi (by rw [pairP, k1, k2, k3]; rfl))] at hk
                (try simp only [go_sem, hA, e50, hA1, e43, hil, hg0, k1, k2, k3]); repeat' (first | (with_reducible refine c_split (fun hb => ?_) (fun hb => ?_) <;> try simp only [go_sem, hb, hA, e50, hA1, e43, hil, hg0, k1, k2, k3]) | (with_reducible refine w_split (fun hb => ?_) (fun hb => ?_) <;> try simp only [go_sem, hb, hA, e50, hA1, e43, hil, hg0, k1, k2, k3]) | (refine call_c (c_lotsOf b.lots _ _ hsl _ ?_) <;> try simp only [go_sem, hA, e50, hA1, e43, hil, hg0, k1, k2, k3]) | (refine call_c (c_sumLots _ (hf.own _ _) _ ?_) <;> try simp only [go_sem, hA, e50, hA1, e43, hil, hg0, k1, k2, k3]) | (refine call_c (c_balOf b.bals _ _ hs.hb hok _ ?_) <;> try simp only [go_sem, hA, e50, hA1, e43, hil, hg0, k1, k2, k3]) | (with_reducible refine hQ _ _ ?_ <;> simp only [Tryz.f81, go_sem, hA, e50, hA1, e43, hil, hg0, k1, k2, k3]))
                exact hk
    have hi := lt_len hb
    have hw := wrap_nat i (by omega)
    have hil : (i : Int) < ((b.lots.length : Nat) : Int) := Int.ofNat_lt.2 hi
    have hg0 : (b.lots)[i]? = some ((b.lots)[i]) := List.getElem?_eq_getElem (by omega)
    simp only [go_sem, hb, hA, e14, hg0]
    try simp only [go_sem, hA, e14, hil, hg0]
    cases hr : lrP b b.lots[i] with
    | true =>
      have hlr := hr
      simp only [lrP, Bool.and_eq_true] at hr
      obtain ⟨⟨f1, f2⟩, f3⟩ := hr
      have f3 := not_tt f3
      (try simp only [go_sem, hA, e14, hil, hg0, f1, f2, f3]); repeat' (first | (with_reducible refine c_split (fun hb => ?_) (fun hb => ?_) <;> try simp only [go_sem, hb, hA, e14, hil, hg0, f1, f2, f3]) | (with_reducible refine w_split (fun hb => ?_) (fun hb => ?_) <;> try simp only [go_sem, hb, hA, e14, hil, hg0, f1, f2, f3]) | (refine call_c (c_accountKind _ _ hs.ha _ ?_) <;> try simp only [go_sem, hA, e14, hil, hg0, f1, f2, f3]) | (refine call_c (c_instrKind _ _ hs.hi _ ?_) <;> try simp only [go_sem, hA, e14, hil, hg0, f1, f2, f3]) | (fail))
      refine gc_trim 1 (by decide) (by simp only [go_sem]) (by simp only [go_sem]) (hJ _ _ hi (by simp only [go_sem, hA, e14]) ⟨?_, ?_, ?_⟩) <;> try simp only [go_sem, hA, e14, hw]
      exact noneTo_s hP hi (not_ff hlr)
    | false =>
      rw [lotsR, all_bad hi hr, Bool.false_and] at hk
      (try simp only [go_sem, hA, e14, hil, hg0]); repeat' (first | (with_reducible refine c_split (fun hb => ?_) (fun hb => ?_) <;> try simp only [go_sem, hb, hA, e14, hil, hg0]) | (with_reducible refine w_split (fun hb => ?_) (fun hb => ?_) <;> try simp only [go_sem, hb, hA, e14, hil, hg0]) | (refine call_c (c_accountKind _ _ hs.ha _ ?_) <;> try simp only [go_sem, hA, e14, hil, hg0]) | (refine call_c (c_instrKind _ _ hs.hi _ ?_) <;> try simp only [go_sem, hA, e14, hil, hg0]) | (with_reducible refine hQ _ _ ?_ <;> simp only [Tryz.f81, go_sem, hA, e14, hil, hg0]))
      all_goals first | exact hk | exact (Bool.eq_false_iff.1 hr (by clear hr hJ hA hQ hQO; simp only [lrP]; simp_all <;> omega)).elim
def restL (xs : List Lot) (a n : Int) : List Lot := xs.filter fun x => !lotIs a n x
theorem rest_s (xs : List Lot) (i : Nat) (hi : i < xs.length) (a n : Int) : restL (xs.take (i + 1)) a n = restL (xs.take i) a n ++ (if lotIs a n xs[i] = true then [] else [xs[i]]) := by
  rw [restL, restL, List.take_succ_eq_append_getElem hi, List.filter_append]
  cases h : lotIs a n xs[i] <;> simp [h]
theorem c_l5Split (xs : List Lot) (a n : Int) (hn : xs.length ≤ 1000000000) (K : AV → AH → Prop) (hk : K (.tup [(.one (.im ((ownL xs a n).map lotC))), (.one (.im ((restL xs a n).map lotC)))]) []) : ACalls Tryz.prog 112 [(.one (.im (xs.map lotC))), (.one (.c (.int .i64 (a)))), (.one (.c (.int .i64 (n))))] [] K := by
  refine acall_c Tryz.f112.results.toList mixed Tryz.func112 rfl rfl (by kernel_rfl) ?_
  intro Q hQ hQO
  simp only [go_sem]
  (try simp only [go_sem]); repeat' (first | (with_reducible refine c_split (fun hb => ?_) (fun hb => ?_) <;> try simp only [go_sem, hb]) | (with_reducible refine w_split (fun hb => ?_) (fun hb => ?_) <;> try simp only [go_sem, hb]) | (fail))
  refine while_at (α := Nat × Nat × Option Nat × Nat × Option Nat) (fun ⟨j, g1, c1, g2, c2⟩ => xs.length - j) [0, 1, 2] (fun ⟨j, g1, c1, g2, c2⟩ f h => f 8 = .one (.sl 0 g1 0 (ownL (xs.take j) a n).length) ∧ f 9 = .one (.sl 1 g2 0 (restL (xs.take j) a n).length) ∧ f 10 = (.one (.c (.int .i64 ((j : Int))))) ∧ h = [.own g1 101 5 c1 ((ownL (xs.take j) a n).map lotC), .own g2 101 5 c2 ((restL (xs.take j) a n).map lotC)] ∧ j ≤ xs.length) (0, 0, some 0, 0, some 0) (GC.now ?_) ?_
  · simp only [go_sem, nc_0, true_and]
    exact ⟨rfl, rfl, rfl, Nat.zero_le _⟩
  · rintro ⟨j, g1, c1, g2, c2⟩ f h J hA ⟨e8, e9, e10, rfl, hP⟩ hJ
    simp only [go_sem] at hA
    try dsimp only at hJ
    simp only [go_sem, hA, e8, e9, e10]
    by_cases hi : j < xs.length
    · have hd : decide ((j : Int) < (xs.length : Int)) = true := decide_eq_true (Int.ofNat_lt.2 hi)
      have hil : (j : Int) < (xs.length : Int) := Int.ofNat_lt.2 hi
      have hg : xs[j]? = some xs[j] := List.getElem?_eq_getElem hi
      have hw := wrap_nat j (by omega)
      have hdec : xs.length - (j + 1) < xs.length - j := by omega
      have ho := own_s xs j hi a n
      have hr := rest_s xs j hi a n
      have hol : (ownL (xs.take j) a n).length ≤ j := Nat.le_trans (List.length_filter_le _ _) (by rw [List.length_take]; omega)
      have hrl : (restL (xs.take j) a n).length ≤ j := Nat.le_trans (List.length_filter_le _ _) (by rw [List.length_take]; omega)
      cases k1 : (xs[j].account == a) with
      | true =>
        cases k2 : (xs[j].instr == n) with
        | true =>
          have k : lotIs a n xs[j] = true := by rw [lotIs, k1, k2]; rfl
          rw [if_pos k] at ho
          rw [if_pos k, List.append_nil] at hr
          (try simp only [go_sem, hA, e8, e9, e10, hd, hil, hg, k1, k2]); repeat' (first | (with_reducible refine c_split (fun hb => ?_) (fun hb => ?_) <;> try simp only [go_sem, hb, hA, e8, e9, e10, hd, hil, hg, k1, k2]) | (with_reducible refine w_split (fun hb => ?_) (fun hb => ?_) <;> try simp only [go_sem, hb, hA, e8, e9, e10, hd, hil, hg, k1, k2]) | (fail))
          refine ap_end rfl (by simp) (by simp; omega) ?_
          (try simp only [go_sem, hA, e8, e9, e10]); repeat' (first | (with_reducible refine c_split (fun hb => ?_) (fun hb => ?_) <;> try simp only [go_sem, hb, hA, e8, e9, e10]) | (with_reducible refine w_split (fun hb => ?_) (fun hb => ?_) <;> try simp only [go_sem, hb, hA, e8, e9, e10]) | (fail))
          refine gc_trim 2 (by decide) (by simp only [go_sem]) (by simp only [go_sem, hw, ho, hr]) (hJ (j + 1, g1 + 1, none, g2, c2) _ _ (by exact hdec) (by simp only [go_sem, hA, e8, e9, e10]) ⟨?_, ?_, ?_, ?_, ?_⟩) <;> try simp only [go_sem, hA, e8, e9, e10, hw, ho, hr]
          exact hi
        | false =>
          have k : ¬ lotIs a n xs[j] = true := by rw [lotIs, k1, k2]; decide
          rw [if_neg k, List.append_nil] at ho
          rw [if_neg k] at hr
          (try simp only [go_sem, hA, e8, e9, e10, hd, hil, hg, k1, k2]); repeat' (first | (with_reducible refine c_split (fun hb => ?_) (fun hb => ?_) <;> try simp only [go_sem, hb, hA, e8, e9, e10, hd, hil, hg, k1, k2]) | (with_reducible refine w_split (fun hb => ?_) (fun hb => ?_) <;> try simp only [go_sem, hb, hA, e8, e9, e10, hd, hil, hg, k1, k2]) | (fail))
          refine ap_end rfl (by simp) (by simp; omega) ?_
          (try simp only [go_sem, hA, e8, e9, e10]); repeat' (first | (with_reducible refine c_split (fun hb => ?_) (fun hb => ?_) <;> try simp only [go_sem, hb, hA, e8, e9, e10]) | (with_reducible refine w_split (fun hb => ?_) (fun hb => ?_) <;> try simp only [go_sem, hb, hA, e8, e9, e10]) | (fail))
          refine gc_trim 2 (by decide) (by simp only [go_sem]) (by simp only [go_sem, hw, ho, hr]) (hJ (j + 1, g1, c1, g2 + 1, none) _ _ (by exact hdec) (by simp only [go_sem, hA, e8, e9, e10]) ⟨?_, ?_, ?_, ?_, ?_⟩) <;> try simp only [go_sem, hA, e8, e9, e10, hw, ho, hr]
          exact hi
      | false =>
        have k : ¬ lotIs a n xs[j] = true := by rw [lotIs, k1]; simp
        rw [if_neg k, List.append_nil] at ho
        rw [if_neg k] at hr
        (try simp only [go_sem, hA, e8, e9, e10, hd, hil, hg, k1]); repeat' (first | (with_reducible refine c_split (fun hb => ?_) (fun hb => ?_) <;> try simp only [go_sem, hb, hA, e8, e9, e10, hd, hil, hg, k1]) | (with_reducible refine w_split (fun hb => ?_) (fun hb => ?_) <;> try simp only [go_sem, hb, hA, e8, e9, e10, hd, hil, hg, k1]) | (fail))
        refine ap_end rfl (by simp) (by simp; omega) ?_
        (try simp only [go_sem, hA, e8, e9, e10]); repeat' (first | (with_reducible refine c_split (fun hb => ?_) (fun hb => ?_) <;> try simp only [go_sem, hb, hA, e8, e9, e10]) | (with_reducible refine w_split (fun hb => ?_) (fun hb => ?_) <;> try simp only [go_sem, hb, hA, e8, e9, e10]) | (fail))
        refine gc_trim 2 (by decide) (by simp only [go_sem]) (by simp only [go_sem, hw, ho, hr]) (hJ (j + 1, g1, c1, g2 + 1, none) _ _ (by exact hdec) (by simp only [go_sem, hA, e8, e9, e10]) ⟨?_, ?_, ?_, ?_, ?_⟩) <;> try simp only [go_sem, hA, e8, e9, e10, hw, ho, hr]
        exact hi
    · have hd : decide ((j : Int) < (xs.length : Int)) = false := decide_eq_false (fun q => hi (Int.ofNat_lt.1 q))
      have hj : j = xs.length := by omega
      subst hj
      have h1 : List.take (ownL xs a n).length ((ownL xs a n).map lotC) = (ownL xs a n).map lotC := List.take_of_length_le (by simp)
      have h2 : List.take (restL xs a n).length ((restL xs a n).map lotC) = (restL xs a n).map lotC := List.take_of_length_le (by simp)
      (try simp only [go_sem, hA, e8, e9, e10, hd, List.take_length, h1, h2]); repeat' (first | (with_reducible refine c_split (fun hb => ?_) (fun hb => ?_) <;> try simp only [go_sem, hb, hA, e8, e9, e10, hd, List.take_length, h1, h2]) | (with_reducible refine w_split (fun hb => ?_) (fun hb => ?_) <;> try simp only [go_sem, hb, hA, e8, e9, e10, hd, List.take_length, h1, h2]) | (with_reducible refine hQ _ _ ?_ <;> simp only [Tryz.f112, go_sem, hA, e8, e9, e10, hd, List.take_length, h1, h2]))
      exact hk
theorem c_l5Qty (xs : List Lot) (h : Fine xs) (K : AV → AH → Prop) (hk : K (.one (.c (.int .i64 (sumQ xs)))) []) : ACalls Tryz.prog 113 [(.one (.im (xs.map lotC)))] [] K := by
  have hn : xs.length ≤ 1000000000 := by have := h.2; omega
  refine acall_c Tryz.f113.results.toList mixed Tryz.func113 rfl rfl (by kernel_rfl) ?_
  intro Q hQ hQO
  simp only [go_sem]
  refine for_at (xs.length) [0] (fun i f h => f 3 = (.one (.c (.int .i64 (sumQ (xs.take i))))) ∧ f 4 = (.one (.c (.int .i64 (i)))) ∧ h = []) (GC.now ?_) ?_
  · simp only [go_sem, nc_0, true_and]
    rfl
  · rintro i f h J hi hA ⟨e3, e4, rfl⟩ hJ
    simp only [go_sem] at hA
    simp only [go_sem, hA, e3, e4]
    refine c_split (fun hb => ?_) (fun hb => ?_)
    rotate_left
    · simp only [go_sem, hb, hA, e3, e4]
      obtain rfl := ge_len hb hi
      (try simp only [go_sem, hA, e3, e4, List.take_length]); repeat' (first | (with_reducible refine c_split (fun hb => ?_) (fun hb => ?_) <;> try simp only [go_sem, hb, hA, e3, e4, List.take_length]) | (with_reducible refine w_split (fun hb => ?_) (fun hb => ?_) <;> try simp only [go_sem, hb, hA, e3, e4, List.take_length]) | (with_reducible refine hQ _ _ ?_ <;> simp only [Tryz.f113, go_sem, hA, e3, e4, List.take_length]))
      exact hk
    have hi := lt_len hb
    have hw := wrap_nat i (by omega)
    have hil : (i : Int) < ((xs.length : Nat) : Int) := Int.ofNat_lt.2 hi
    have hg0 : (xs)[i]? = some ((xs)[i]) := List.getElem?_eq_getElem (by omega)
    simp only [go_sem, hb, hA, e3, e4, hg0]
    try simp only [go_sem, hA, e3, e4, hil, hg0]
    obtain ⟨s1, s2⟩ := sumQ_s xs i hi
    obtain ⟨w1, w2⟩ := sums_w h hi
    (try simp only [go_sem, hA, e3, e4, hil, hg0, w1, w2]); repeat' (first | (with_reducible refine c_split (fun hb => ?_) (fun hb => ?_) <;> try simp only [go_sem, hb, hA, e3, e4, hil, hg0, w1, w2]) | (with_reducible refine w_split (fun hb => ?_) (fun hb => ?_) <;> try simp only [go_sem, hb, hA, e3, e4, hil, hg0, w1, w2]) | (fail))
    refine gc_trim 0 (by decide) (by simp only [go_sem]) (by simp only [go_sem]) (hJ _ _ hi (by simp only [go_sem, hA, e3, e4]) ⟨?_, ?_, ?_⟩) <;> try simp only [go_sem, hA, e3, e4, hw, s1]
theorem c_l6Lots (b : Books) (hs : Small b) (ha : accountsOk b.accounts = true) (hi0 : instrsOk b.instrs = true) (hf : Fine b.lots) (K : AV → AH → Prop) (hk : K (.one (.c (.bool (lotsR b)))) []) : ACalls Tryz.prog 69 [.agg (booksC b)] [] K := by
  have hsl := hs.hl
  have hsa := hs.ha
  have hsi := hs.hi
  refine acall_c Tryz.f69.results.toList mixed Tryz.func69 rfl rfl (by kernel_rfl) ?_
  intro Q hQ hQO
  simp only [go_sem]
  refine for_at (b.lots.length) [1] (fun i f h => f 3 = (.one (.c (.int .i64 (i)))) ∧ h = [.own 0 40 6 (some 1) [booksC b]] ∧ noneTo (fun x => !lrP b x) b.lots i) (GC.now ?_) ?_
  · simp only [go_sem, nc_0, true_and]
    exact noneTo_0 _ _
  · rintro i f h J hi hA ⟨e3, rfl, hP⟩ hJ
    simp only [go_sem] at hA
    simp only [go_sem, hA, e3]
    refine c_split (fun hb => ?_) (fun hb => ?_)
    rotate_left
    · simp only [go_sem, hb, hA, e3]
      obtain rfl := ge_len hb hi
      rw [lotsR, all_no hP, Bool.true_and] at hk
      (try simp only [go_sem, hA, e3]); repeat' (first | (with_reducible refine c_split (fun hb => ?_) (fun hb => ?_) <;> try simp only [go_sem, hb, hA, e3]) | (with_reducible refine w_split (fun hb => ?_) (fun hb => ?_) <;> try simp only [go_sem, hb, hA, e3]) | (with_reducible refine tw_split (fun hb => ?_) (fun hb => ?_) <;> try simp only [go_sem, hb, hA, e3]) | (with_reducible refine draw_at 0 73 (by with_unfolding_all rfl) [(0, true, true), (1, true, true), (2, true, false), (3, true, false), (4, true, false), (5, true, false), (6, true, false), (7, true, false), (8, true, false), (9, true, false), (10, false, false), (11, false, false), (12, false, false), (13, false, false), (14, false, false), (15, false, false), (16, true, false), (17, true, false), (18, false, true), (19, false, true)] (by kernel_rfl) ?_ <;> try simp only [go_sem, hA, e3]) | (with_reducible refine draw_at 0 90 (by with_unfolding_all rfl) [(0, true, true), (2, true, true), (3, true, true), (4, true, false), (5, true, false), (6, true, false), (7, true, false), (8, true, false), (9, true, false), (10, true, false), (11, true, false), (12, true, false), (13, true, false), (14, true, false), (15, true, false), (1, false, false), (16, false, false), (17, false, false)] (by kernel_rfl) ?_ <;> try simp only [go_sem, hA, e3]) | (fail))
      have hA0 := hA
      clear hJ
      refine for_at (b.accounts.length) [1] (fun i f h => f 5 = (.one (.c (.int .i64 (i)))) ∧ h = [.own 0 40 6 (some 1) [booksC b]] ∧ noneTo (fun a => !b.instrs.all (pairP b a)) b.accounts i) (GC.now ?_) ?_
      · simp only [go_sem, nc_0, true_and, hA0]
        exact noneTo_0 _ _
      · rintro i f h J hi hA ⟨e5, rfl, hP⟩ hJ
        simp only [go_sem, hA0] at hA
        simp only [go_sem, hA, e5, hA0]
        refine c_split (fun hb => ?_) (fun hb => ?_)
        rotate_left
        · simp only [go_sem, hb, hA, e5, hA0]
          obtain rfl := ge_len hb hi
          (try simp only [go_sem, hA, e5, hA0]); repeat' (first | (with_reducible refine c_split (fun hb => ?_) (fun hb => ?_) <;> try simp only [go_sem, hb, hA, e5, hA0]) | (with_reducible refine w_split (fun hb => ?_) (fun hb => ?_) <;> try simp only [go_sem, hb, hA, e5, hA0]) | (with_reducible refine tw_split (fun hb => ?_) (fun hb => ?_) <;> try simp only [go_sem, hb, hA, e5, hA0]) | (with_reducible refine draw_at 0 73 (by with_unfolding_all rfl) [(0, true, true), (1, true, true), (2, true, false), (3, true, false), (4, true, false), (5, true, false), (6, true, false), (7, true, false), (8, true, false), (9, true, false), (10, false, false), (11, false, false), (12, false, false), (13, false, false), (14, false, false), (15, false, false), (16, true, false), (17, true, false), (18, false, true), (19, false, true)] (by kernel_rfl) ?_ <;> try simp only [go_sem, hA, e5, hA0]) | (with_reducible refine draw_at 0 90 (by with_unfolding_all rfl) [(0, true, true), (2, true, true), (3, true, true), (4, true, false), (5, true, false), (6, true, false), (7, true, false), (8, true, false), (9, true, false), (10, true, false), (11, true, false), (12, true, false), (13, true, false), (14, true, false), (15, true, false), (1, false, false), (16, false, false), (17, false, false)] (by kernel_rfl) ?_ <;> try simp only [go_sem, hA, e5, hA0]) | (with_reducible refine hQ _ _ ?_ <;> simp only [Tryz.f69, go_sem, hA, e5, hA0]))
          rw [all_no hP] at hk
          exact hk
        have hi := lt_len hb
        have hw := wrap_nat i (by omega)
        have hil : (i : Int) < ((b.accounts.length : Nat) : Int) := Int.ofNat_lt.2 hi
        have hg0 : (b.accounts)[i]? = some ((b.accounts)[i]) := List.getElem?_eq_getElem (by omega)
        simp only [go_sem, hb, hA, e5, hA0, hg0]
        try simp only [go_sem, hA, e5, hA0, hil, hg0]
        (try simp only [go_sem, hA, e5, hA0, hil, hg0]); repeat' (first | (with_reducible refine c_split (fun hb => ?_) (fun hb => ?_) <;> try simp only [go_sem, hb, hA, e5, hA0, hil, hg0]) | (with_reducible refine w_split (fun hb => ?_) (fun hb => ?_) <;> try simp only [go_sem, hb, hA, e5, hA0, hil, hg0]) | (with_reducible refine tw_split (fun hb => ?_) (fun hb => ?_) <;> try simp only [go_sem, hb, hA, e5, hA0, hil, hg0]) | (with_reducible refine draw_at 0 73 (by with_unfolding_all rfl) [(0, true, true), (1, true, true), (2, true, false), (3, true, false), (4, true, false), (5, true, false), (6, true, false), (7, true, false), (8, true, false), (9, true, false), (10, false, false), (11, false, false), (12, false, false), (13, false, false), (14, false, false), (15, false, false), (16, true, false), (17, true, false), (18, false, true), (19, false, true)] (by kernel_rfl) ?_ <;> try simp only [go_sem, hA, e5, hA0, hil, hg0]) | (with_reducible refine draw_at 0 90 (by with_unfolding_all rfl) [(0, true, true), (2, true, true), (3, true, true), (4, true, false), (5, true, false), (6, true, false), (7, true, false), (8, true, false), (9, true, false), (10, true, false), (11, true, false), (12, true, false), (13, true, false), (14, true, false), (15, true, false), (1, false, false), (16, false, false), (17, false, false)] (by kernel_rfl) ?_ <;> try simp only [go_sem, hA, e5, hA0, hil, hg0]) | (fail))
        have hA1 := hA
        have hP1 := hP
        have hi1 := hi
        have hil1 := hil
        have hg1 := hg0
        have hw1 := hw
        have hJ1 := hJ
        have e5a := e5
        generalize hac : b.accounts[i] = ac at *
        refine for_at (b.instrs.length) [1, 5] (fun i f h => f 6 = (.one (.c (.int .i64 (i)))) ∧ h = [.own 0 40 6 (some 1) [booksC b]] ∧ noneTo (fun x => !pairP b ac x) b.instrs i) (GC.now ?_) ?_
        · simp only [go_sem, nc_0, true_and, hA1, e5a]
          exact noneTo_0 _ _
        · rintro i f h J hi hA ⟨e6, rfl, hP⟩ hJ
          simp only [go_sem, hA1, e5a] at hA
          simp only [go_sem, hA, e6, hA1, e5a]
          refine c_split (fun hb => ?_) (fun hb => ?_)
          rotate_left
          · simp only [go_sem, hb, hA, e6, hA1, e5a]
            obtain rfl := ge_len hb hi
            refine GC.now (hJ1 _ _ hi1 (by simp only [go_sem, hA, hA1, hA0, e5a]) ⟨?_, ?_, ?_⟩) <;> try simp only [go_sem, hA, hA1, hA0, e5a, hw1]
            exact noneTo_s hP1 hi1 (by rw [hac]; exact not_ff (all_no hP))
          have hi := lt_len hb
          have hw := wrap_nat i (by omega)
          have hil : (i : Int) < ((b.instrs.length : Nat) : Int) := Int.ofNat_lt.2 hi
          have hg0 : (b.instrs)[i]? = some ((b.instrs)[i]) := List.getElem?_eq_getElem (by omega)
          simp only [go_sem, hb, hA, e6, hA1, e5a, hg0]
          try simp only [go_sem, hA, e6, hA1, e5a, hil, hg0]
          cases k1 : (ac.kind == 1) with
          | false =>
            (try simp only [go_sem, hA, e6, hA1, e5a, hil, hg0, hil1, hg1, k1]); repeat' (first | (with_reducible refine c_split (fun hb => ?_) (fun hb => ?_) <;> try simp only [go_sem, hb, hA, e6, hA1, e5a, hil, hg0, hil1, hg1, k1]) | (with_reducible refine w_split (fun hb => ?_) (fun hb => ?_) <;> try simp only [go_sem, hb, hA, e6, hA1, e5a, hil, hg0, hil1, hg1, k1]) | (with_reducible refine tw_split (fun hb => ?_) (fun hb => ?_) <;> try simp only [go_sem, hb, hA, e6, hA1, e5a, hil, hg0, hil1, hg1, k1]) | (with_reducible refine draw_at 0 73 (by with_unfolding_all rfl) [(0, true, true), (1, true, true), (2, true, false), (3, true, false), (4, true, false), (5, true, false), (6, true, false), (7, true, false), (8, true, false), (9, true, false), (10, false, false), (11, false, false), (12, false, false), (13, false, false), (14, false, false), (15, false, false), (16, true, false), (17, true, false), (18, false, true), (19, false, true)] (by kernel_rfl) ?_ <;> try simp only [go_sem, hA, e6, hA1, e5a, hil, hg0, hil1, hg1, k1]) | (with_reducible refine draw_at 0 90 (by with_unfolding_all rfl) [(0, true, true), (2, true, true), (3, true, true), (4, true, false), (5, true, false), (6, true, false), (7, true, false), (8, true, false), (9, true, false), (10, true, false), (11, true, false), (12, true, false), (13, true, false), (14, true, false), (15, true, false), (1, false, false), (16, false, false), (17, false, false)] (by kernel_rfl) ?_ <;> try simp only [go_sem, hA, e6, hA1, e5a, hil, hg0, hil1, hg1, k1]) | (fail))
            refine gc_trim 1 (by decide) (by simp only [go_sem]) (by simp only [go_sem]) (hJ _ _ hi (by simp only [go_sem, hA, e6, hA1, e5a]) ⟨?_, ?_, ?_⟩) <;> try simp only [go_sem, hA, e6, hA1, e5a, hw]
            exact noneTo_s hP hi (by rw [pairP, k1]; rfl)
          | true =>
            cases k2 : (b.instrs[i].kind == 2) with
            | false =>
              (try simp only [go_sem, hA, e6, hA1, e5a, hil, hg0, hil1, hg1, k1, k2]); repeat' (first | (with_reducible refine c_split (fun hb => ?_) (fun hb => ?_) <;> try simp only [go_sem, hb, hA, e6, hA1, e5a, hil, hg0, hil1, hg1, k1, k2]) | (with_reducible refine w_split (fun hb => ?_) (fun hb => ?_) <;> try simp only [go_sem, hb, hA, e6, hA1, e5a, hil, hg0, hil1, hg1, k1, k2]) | (with_reducible refine tw_split (fun hb => ?_) (fun hb => ?_) <;> try simp only [go_sem, hb, hA, e6, hA1, e5a, hil, hg0, hil1, hg1, k1, k2]) | (with_reducible refine draw_at 0 73 (by with_unfolding_all rfl) [(0, true, true), (1, true, true), (2, true, false), (3, true, false), (4, true, false), (5, true, false), (6, true, false), (7, true, false), (8, true, false), (9, true, false), (10, false, false), (11, false, false), (12, false, false), (13, false, false), (14, false, false), (15, false, false), (16, true, false), (17, true, false), (18, false, true), (19, false, true)] (by kernel_rfl) ?_ <;> try simp only [go_sem, hA, e6, hA1, e5a, hil, hg0, hil1, hg1, k1, k2]) | (with_reducible refine draw_at 0 90 (by with_unfolding_all rfl) [(0, true, true), (2, true, true), (3, true, true), (4, true, false), (5, true, false), (6, true, false), (7, true, false), (8, true, false), (9, true, false), (10, true, false), (11, true, false), (12, true, false), (13, true, false), (14, true, false), (15, true, false), (1, false, false), (16, false, false), (17, false, false)] (by kernel_rfl) ?_ <;> try simp only [go_sem, hA, e6, hA1, e5a, hil, hg0, hil1, hg1, k1, k2]) | (fail))
              refine gc_trim 1 (by decide) (by simp only [go_sem]) (by simp only [go_sem]) (hJ _ _ hi (by simp only [go_sem, hA, e6, hA1, e5a]) ⟨?_, ?_, ?_⟩) <;> try simp only [go_sem, hA, e6, hA1, e5a, hw]
              exact noneTo_s hP hi (by rw [pairP, k1, k2]; rfl)
            | true =>
              cases k3 : (sumQ (ownL b.lots ac.no b.instrs[i].no) == balV b.bals ac.no b.instrs[i].no) with
              | true =>
                (try simp only [go_sem, hA, e6, hA1, e5a, hil, hg0, hil1, hg1, k1, k2, k3]); repeat' (first | (with_reducible refine c_split (fun hb => ?_) (fun hb => ?_) <;> try simp only [go_sem, hb, hA, e6, hA1, e5a, hil, hg0, hil1, hg1, k1, k2, k3]) | (with_reducible refine w_split (fun hb => ?_) (fun hb => ?_) <;> try simp only [go_sem, hb, hA, e6, hA1, e5a, hil, hg0, hil1, hg1, k1, k2, k3]) | (with_reducible refine tw_split (fun hb => ?_) (fun hb => ?_) <;> try simp only [go_sem, hb, hA, e6, hA1, e5a, hil, hg0, hil1, hg1, k1, k2, k3]) | (with_reducible refine draw_at 0 73 (by with_unfolding_all rfl) [(0, true, true), (1, true, true), (2, true, false), (3, true, false), (4, true, false), (5, true, false), (6, true, false), (7, true, false), (8, true, false), (9, true, false), (10, false, false), (11, false, false), (12, false, false), (13, false, false), (14, false, false), (15, false, false), (16, true, false), (17, true, false), (18, false, true), (19, false, true)] (by kernel_rfl) ?_ <;> try simp only [go_sem, hA, e6, hA1, e5a, hil, hg0, hil1, hg1, k1, k2, k3]) | (with_reducible refine draw_at 0 90 (by with_unfolding_all rfl) [(0, true, true), (2, true, true), (3, true, true), (4, true, false), (5, true, false), (6, true, false), (7, true, false), (8, true, false), (9, true, false), (10, true, false), (11, true, false), (12, true, false), (13, true, false), (14, true, false), (15, true, false), (1, false, false), (16, false, false), (17, false, false)] (by kernel_rfl) ?_ <;> try simp only [go_sem, hA, e6, hA1, e5a, hil, hg0, hil1, hg1, k1, k2, k3]) | (refine call_c (c_l5Split b.lots _ _ hsl _ ?_) <;> try simp only [go_sem, hA, e6, hA1, e5a, hil, hg0, hil1, hg1, k1, k2, k3]) | (refine call_c (c_l5Qty _ (hf.own _ _) _ ?_) <;> try simp only [go_sem, hA, e6, hA1, e5a, hil, hg0, hil1, hg1, k1, k2, k3]) | (refine call_c (c_l4Of b.bals _ _ hs.hb _ ?_) <;> try simp only [go_sem, hA, e6, hA1, e5a, hil, hg0, hil1, hg1, k1, k2, k3]) | (fail))
                refine gc_trim 1 (by decide) (by simp only [go_sem]) (by simp only [go_sem]) (hJ _ _ hi (by simp only [go_sem, hA, e6, hA1, e5a]) ⟨?_, ?_, ?_⟩) <;> try simp only [go_sem, hA, e6, hA1, e5a, hw]
                exact noneTo_s hP hi (by rw [pairP, k1, k2, k3]; rfl)
              | false =>
                rw [all_bad hi1 (by rw [hac]; exact all_bad hi (by rw [pairP, k1, k2, k3]; rfl))] at hk
                (try simp only [go_sem, hA, e6, hA1, e5a, hil, hg0, hil1, hg1, k1, k2, k3]); repeat' (first | (with_reducible refine c_split (fun hb => ?_) (fun hb => ?_) <;> try simp only [go_sem, hb, hA, e6, hA1, e5a, hil, hg0, hil1, hg1, k1, k2, k3]) | (with_reducible refine w_split (fun hb => ?_) (fun hb => ?_) <;> try simp only [go_sem, hb, hA, e6, hA1, e5a, hil, hg0, hil1, hg1, k1, k2, k3]) | (with_reducible refine tw_split (fun hb => ?_) (fun hb => ?_) <;> try simp only [go_sem, hb, hA, e6, hA1, e5a, hil, hg0, hil1, hg1, k1, k2, k3]) | (with_reducible refine draw_at 0 73 (by with_unfolding_all rfl) [(0, true, true), (1, true, true), (2, true, false), (3, true, false), (4, true, false), (5, true, false), (6, true, false), (7, true, false), (8, true, false), (9, true, false), (10, false, false), (11, false, false), (12, false, false), (13, false, false), (14, false, false), (15, false, false), (16, true, false), (17, true, false), (18, false, true), (19, false, true)] (by kernel_rfl) ?_ <;> try simp only [go_sem, hA, e6, hA1, e5a, hil, hg0, hil1, hg1, k1, k2, k3]) | (with_reducible refine draw_at 0 90 (by with_unfolding_all rfl) [(0, true, true), (2, true, true), (3, true, true), (4, true, false), (5, true, false), (6, true, false), (7, true, false), (8, true, false), (9, true, false), (10, true, false), (11, true, false), (12, true, false), (13, true, false), (14, true, false), (15, true, false), (1, false, false), (16, false, false), (17, false, false)] (by kernel_rfl) ?_ <;> try simp only [go_sem, hA, e6, hA1, e5a, hil, hg0, hil1, hg1, k1, k2, k3]) | (refine call_c (c_l5Split b.lots _ _ hsl _ ?_) <;> try simp only [go_sem, hA, e6, hA1, e5a, hil, hg0, hil1, hg1, k1, k2, k3]) | (refine call_c (c_l5Qty _ (hf.own _ _) _ ?_) <;> try simp only [go_sem, hA, e6, hA1, e5a, hil, hg0, hil1, hg1, k1, k2, k3]) | (refine call_c (c_l4Of b.bals _ _ hs.hb _ ?_) <;> try simp only [go_sem, hA, e6, hA1, e5a, hil, hg0, hil1, hg1, k1, k2, k3]) | (with_reducible refine hQ _ _ ?_ <;> simp only [Tryz.f69, go_sem, hA, e6, hA1, e5a, hil, hg0, hil1, hg1, k1, k2, k3]))
                exact hk
    have hi := lt_len hb
    have hw := wrap_nat i (by omega)
    have hil : (i : Int) < ((b.lots.length : Nat) : Int) := Int.ofNat_lt.2 hi
    have hg0 : (b.lots)[i]? = some ((b.lots)[i]) := List.getElem?_eq_getElem (by omega)
    simp only [go_sem, hb, hA, e3, hg0]
    try simp only [go_sem, hA, e3, hil, hg0]
    cases hr : lrP b b.lots[i] with
    | true =>
      have hlr := hr
      simp only [lrP, Bool.and_eq_true] at hr
      obtain ⟨⟨f1, f2⟩, f3⟩ := hr
      have f3 := not_tt f3
      (try simp only [go_sem, hA, e3, hil, hg0, f1, f2, f3]); repeat' (first | (with_reducible refine c_split (fun hb => ?_) (fun hb => ?_) <;> try simp only [go_sem, hb, hA, e3, hil, hg0, f1, f2, f3]) | (with_reducible refine w_split (fun hb => ?_) (fun hb => ?_) <;> try simp only [go_sem, hb, hA, e3, hil, hg0, f1, f2, f3]) | (with_reducible refine tw_split (fun hb => ?_) (fun hb => ?_) <;> try simp only [go_sem, hb, hA, e3, hil, hg0, f1, f2, f3]) | (with_reducible refine draw_at 0 73 (by with_unfolding_all rfl) [(0, true, true), (1, true, true), (2, true, false), (3, true, false), (4, true, false), (5, true, false), (6, true, false), (7, true, false), (8, true, false), (9, true, false), (10, false, false), (11, false, false), (12, false, false), (13, false, false), (14, false, false), (15, false, false), (16, true, false), (17, true, false), (18, false, true), (19, false, true)] (by kernel_rfl) ?_ <;> try simp only [go_sem, hA, e3, hil, hg0, f1, f2, f3]) | (with_reducible refine draw_at 0 90 (by with_unfolding_all rfl) [(0, true, true), (2, true, true), (3, true, true), (4, true, false), (5, true, false), (6, true, false), (7, true, false), (8, true, false), (9, true, false), (10, true, false), (11, true, false), (12, true, false), (13, true, false), (14, true, false), (15, true, false), (1, false, false), (16, false, false), (17, false, false)] (by kernel_rfl) ?_ <;> try simp only [go_sem, hA, e3, hil, hg0, f1, f2, f3]) | (refine call_c (c_AccountKind _ _ hs.ha ha _ ?_) <;> try simp only [go_sem, hA, e3, hil, hg0, f1, f2, f3]) | (refine call_c (c_InstrKind _ _ hs.hi hi0 _ ?_) <;> try simp only [go_sem, hA, e3, hil, hg0, f1, f2, f3]) | (fail))
      refine gc_trim 1 (by decide) (by simp only [go_sem]) (by simp only [go_sem]) (hJ _ _ hi (by simp only [go_sem, hA, e3]) ⟨?_, ?_, ?_⟩) <;> try simp only [go_sem, hA, e3, hw]
      exact noneTo_s hP hi (not_ff hlr)
    | false =>
      rw [lotsR, all_bad hi hr, Bool.false_and] at hk
      (try simp only [go_sem, hA, e3, hil, hg0]); repeat' (first | (with_reducible refine c_split (fun hb => ?_) (fun hb => ?_) <;> try simp only [go_sem, hb, hA, e3, hil, hg0]) | (with_reducible refine w_split (fun hb => ?_) (fun hb => ?_) <;> try simp only [go_sem, hb, hA, e3, hil, hg0]) | (with_reducible refine tw_split (fun hb => ?_) (fun hb => ?_) <;> try simp only [go_sem, hb, hA, e3, hil, hg0]) | (with_reducible refine draw_at 0 73 (by with_unfolding_all rfl) [(0, true, true), (1, true, true), (2, true, false), (3, true, false), (4, true, false), (5, true, false), (6, true, false), (7, true, false), (8, true, false), (9, true, false), (10, false, false), (11, false, false), (12, false, false), (13, false, false), (14, false, false), (15, false, false), (16, true, false), (17, true, false), (18, false, true), (19, false, true)] (by kernel_rfl) ?_ <;> try simp only [go_sem, hA, e3, hil, hg0]) | (with_reducible refine draw_at 0 90 (by with_unfolding_all rfl) [(0, true, true), (2, true, true), (3, true, true), (4, true, false), (5, true, false), (6, true, false), (7, true, false), (8, true, false), (9, true, false), (10, true, false), (11, true, false), (12, true, false), (13, true, false), (14, true, false), (15, true, false), (1, false, false), (16, false, false), (17, false, false)] (by kernel_rfl) ?_ <;> try simp only [go_sem, hA, e3, hil, hg0]) | (refine call_c (c_AccountKind _ _ hs.ha ha _ ?_) <;> try simp only [go_sem, hA, e3, hil, hg0]) | (refine call_c (c_InstrKind _ _ hs.hi hi0 _ ?_) <;> try simp only [go_sem, hA, e3, hil, hg0]) | (with_reducible refine hQ _ _ ?_ <;> simp only [Tryz.f69, go_sem, hA, e3, hil, hg0]))
      all_goals first | exact hk | exact (Bool.eq_false_iff.1 hr (by clear hr hJ hA hQ hQO; simp only [lrP]; simp_all <;> omega)).elim
end Go.Proofs.YtedkpjaojdkpcaaGreat
